import Derived.Test.YtephjmmkggcmeaaCG1
import Derived.Test.YtephjmmkggcmeaaCG2
import Derived.Test.YtephjmmkggcmeaaCG3
import Derived.Test.YtephjmmkggcmeaaCG0
import Derived.Lib.Bytes
-- printed by a program of this session (wip/gp) out of the translation; Lean checks it
namespace Go.Proofs.Ytephjmmkggcmeaa.PG
open Go.RowKit Go.Proofs.YtephjmmkggcmeaaW.PrintWords Go.Proofs.YtephjmmkggcmeaaW.PrintLast Go.Proofs.YtephjmmkggcmeaaW.PrintMore Go.Proofs.YtephjmmkggcmeaaSq
attribute [local go_sem] max2_int min2_int max_two min_two max_three min_three max_four min_four   -- for this text's walks alone
attribute [local go_sem] Go.Proofs.YtephjmmkggcmeaaGp.str_geq Go.Proofs.YtephjmmkggcmeaaGp.str_gtr Go.Proofs.YtephjmmkggcmeaaGp.str_leq
set_option linter.unusedVariables false
set_option linter.unusedSimpArgs false

set_option maxHeartbeats 8000000
set_option maxRecDepth 100000
mutual
def spec_cuGroup.l0 : Nat → List (List Int) → List Int → Bool → Option (List Int)
  | 0, _, _, _ => none
  | k + 1, x0, x5, x6 => if x6 = true then (spec_cuGroup.l1 k x0 x5 false x0 (x0.length : Int) 0) else (some x5)
def spec_cuGroup.l1 : Nat → List (List Int) → List Int → Bool → List (List Int) → Int → Int → Option (List Int)
  | 0, _, _, _, _, _, _ => none
  | k + 1, x0, x5, x6, x14, x15, x16 => if x16 < x15 then (if 0 ≤ x16 then (if x16 < (x14.length : Int) then (spec_cuGroup.l2 k x0 x5 x6 x16 (rd_L3 x14 x16) x14 x15 x16 x5 (x5.length : Int) 0) else (none)) else (none)) else (spec_cuGroup.l0 k x0 x5 x6)
def spec_cuGroup.l2 : Nat → List (List Int) → List Int → Bool → Int → List Int → List (List Int) → Int → Int → List Int → Int → Int → Option (List Int)
  | 0, _, _, _, _, _, _, _, _, _, _, _ => none
  | k + 1, x0, x5, x6, x7, x8, x14, x15, x16, x21, x22, x23 => if x23 < x22 then (if 0 ≤ x23 then (if x23 < (x21.length : Int) then ((spec_l1Has.f k x5 x7).bind fun t425 => (if t425 = true then (spec_cuGroup.l2 k x0 x5 x6 x7 x8 x14 x15 x16 x21 x22 (wrap64 (x23 + 1))) else (if 0 ≤ (rd x21 x23) then (if (rd x21 x23) < (x0.length : Int) then (if 0 < (x8.length : Int) then ((spec_l1Has.f k (rd_L3 x0 (rd x21 x23)) (rd x8 0)).bind fun t428 => (if t428 = true then ((spec_l1Put.f k x5 x7).bind fun t429 => (spec_cuGroup.l2 k x0 t429 true x7 x8 x14 x15 x16 x21 x22 (wrap64 (x23 + 1)))) else (if 1 < (x8.length : Int) then ((spec_l1Has.f k (rd_L3 x0 (rd x21 x23)) (rd x8 1)).bind fun t434 => (if t434 = true then ((spec_l1Put.f k x5 x7).bind fun t435 => (spec_cuGroup.l2 k x0 t435 true x7 x8 x14 x15 x16 x21 x22 (wrap64 (x23 + 1)))) else (spec_cuGroup.l2 k x0 x5 x6 x7 x8 x14 x15 x16 x21 x22 (wrap64 (x23 + 1))))) else (none)))) else (none)) else (none)) else (none)))) else (none)) else (none)) else (spec_cuGroup.l1 k x0 x5 x6 x14 x15 (wrap64 (x16 + 1)))
end
def spec_cuGroup.f (k : Nat) (l0 : List (List Int)) (a1 : Int) : Option (List Int) := spec_cuGroup.l0 k l0 (([a1] : List Int)) true
theorem spec_cuGroup.calls (k : Nat) (A0 : Option Addr) (c0 : Nat) (l0 : List (List Int)) (a1 : Int) (r : List Int) (w : World) (hr0 : Kd.C (Kd.slice 3 (Kd.int .i64)) w A0 l0.length l0) (hc0 : l0.length ≤ c0) (h : spec_cuGroup.f k l0 a1 = some r) :
    Calls Try.prog 124 #[.slice A0 l0.length c0, .int .i64 a1] w fun e w' => ∃ v0_ : Value, e = .returned (v0_) ∧ Kd.V (Kd.int .i64) 3 w' w.heap.size (fun k_ => (w.heap.size ≤ k_)) v0_ r ∧ Below w.heap.size w w' := by
  have HR0 := am hr0; have HC0 := am hc0; clear hr0 hc0; have HB := am (Below.refl w.heap.size w); have H : (spec_cuGroup.l0 k l0 (([a1] : List Int)) true) = some r := h; clear h; obtain ⟨y420, hy420⟩ : ∃ y_ : List Int, y_ = (([a1] : List Int)) := ⟨_, rfl⟩
  replace H : (spec_cuGroup.l0 k l0 y420 true) = some r := by first | (rw [hy420]; with_reducible exact H) | (have H2_ := (Option.bind_some _ _).symm.trans H; rw [hy420]; with_reducible exact H2_) | (have H2_ := (Option.bind_some _ _).symm.trans H; with_reducible exact H2_) | with_reducible exact H | (rw [hy420]; exact H) | exact H
  have Ny420 := am hy420; clear hy420; have H' := am H; clear H
  go_enter Try.func124, Try.ntmps124
  go_wp2_with (first | ((with_reducible refine gate_dst (N := 12) rfl ?_); refine Kd.R_lit (Kd.int .i64) _ 3 ?hg (N := 12) ?hd (xs := ([a1] : List Int)) (inner := [.int .i64 a1]) (ok := fun _ => True) (okp := fun _ => True) ?hr ?hp (fun _ hk => hk) trivial (Below.refl _ _) (Nat.le_refl _) (by simp) ?_; (case hd => rfl); (case hg => rfl); (case hr => first | (go_simp; done) | (go_simp; rfl)); (case hp => exact (Reps.one (show Kd.M (Kd.int .i64) _ _ _ a1 [.int .i64 a1] from rfl) (Reps.none _ _))); intro v421 w3 ho4 hb hg_ hnew_; clear hg_ hnew_; (first | rw [← Ny420.out] at ho4 | (simp only [Int.reduceToNat] at ho4; rw [← Ny420.out] at ho4)); have n0_ := Rl (Kd.R_newM (M := fun k_ => (w.heap.size ≤ k_)) ho4 (below_size (Bz HB.out)) (fun k_ h_ => h_)) HB; have n1_ := Bb HB hb; clear HB; revert n0_ n1_; intro HO422 HB; clear hb ho4))
  repeat (go_quiet (first | ((with_reducible refine gate_dst (N := 12) rfl ?_); refine Kd.R_lit (Kd.int .i64) _ 3 ?hg (N := 12) ?hd (xs := ([a1] : List Int)) (inner := [.int .i64 a1]) (ok := fun _ => True) (okp := fun _ => True) ?hr ?hp (fun _ hk => hk) trivial (Below.refl _ _) (Nat.le_refl _) (by simp) ?_; (case hd => rfl); (case hg => rfl); (case hr => first | (go_simp; done) | (go_simp; rfl)); (case hp => exact (Reps.one (show Kd.M (Kd.int .i64) _ _ _ a1 [.int .i64 a1] from rfl) (Reps.none _ _))); intro v421 w3 ho4 hb hg_ hnew_; clear hg_ hnew_; (first | rw [← Ny420.out] at ho4 | (simp only [Int.reduceToNat] at ho4; rw [← Ny420.out] at ho4)); have n0_ := Rl (Kd.R_newM (M := fun k_ => (w.heap.size ≤ k_)) ho4 (below_size (Bz HB.out)) (fun k_ h_ => h_)) HB; have n1_ := Bb HB hb; clear HB; revert n0_ n1_; intro HO422 HB; clear hb ho4)); try go_wp2_with (first | ((with_reducible refine gate_dst (N := 12) rfl ?_); refine Kd.R_lit (Kd.int .i64) _ 3 ?hg (N := 12) ?hd (xs := ([a1] : List Int)) (inner := [.int .i64 a1]) (ok := fun _ => True) (okp := fun _ => True) ?hr ?hp (fun _ hk => hk) trivial (Below.refl _ _) (Nat.le_refl _) (by simp) ?_; (case hd => rfl); (case hg => rfl); (case hr => first | (go_simp; done) | (go_simp; rfl)); (case hp => exact (Reps.one (show Kd.M (Kd.int .i64) _ _ _ a1 [.int .i64 a1] from rfl) (Reps.none _ _))); intro v421 w3 ho4 hb hg_ hnew_; clear hg_ hnew_; (first | rw [← Ny420.out] at ho4 | (simp only [Int.reduceToNat] at ho4; rw [← Ny420.out] at ho4)); have n0_ := Rl (Kd.R_newM (M := fun k_ => (w.heap.size ≤ k_)) ho4 (below_size (Bz HB.out)) (fun k_ h_ => h_)) HB; have n1_ := Bb HB hb; clear HB; revert n0_ n1_; intro HO422 HB; clear hb ho4)))
  (try simp only [aP])
  go_loopg [5, 6] k (fun kq v5 v6 w' => ∃ (x5_1 : List Int) (x6_1 : Bool), v6 = .bool x6_1 ∧ Aside0 (spec_cuGroup.l0 kq l0 x5_1 x6_1 = some r) ∧ Aside0 (kq ≤ k) ∧ Aside0 (Kd.V (Kd.int .i64) 3 w' w.heap.size (fun k_ => (w.heap.size ≤ k_)) v5 x5_1) ∧ Aside0 (Below w.heap.size w w'))
  case atStart => exact ⟨(y420), (true), wZ, H', ⟨Nat.le_refl _⟩, ⟨Kd.R_V (Rz (Kd.R_mono HO422.out (fun _ hk => hk.1)))⟩, ⟨Bz HB.out⟩⟩
  case round =>
    clear H'
    try clear c1
    try clear p2
    obtain ⟨x5_1, x6_1, rfl, HA, HK1, HO_5, HB⟩ := hrel; cases gk with
    | zero => exact absurd HA.out (by simp [spec_cuGroup.l0])
    | succ k1 =>
      have H := HA.out; clear HA
      simp only [spec_cuGroup.l0] at H
      by_cases c5 : x6_1 = true
      · subst c5
        rw [if_pos rfl] at H; have H' := am H; clear H
        go_wp2
        repeat (go_quiet (fail); try go_wp2)
        go_loopg [5, 6, 16] k1 (fun kq v5 v6 v16 w' => ∃ (x5_2 : List Int) (x6_2 : Bool) (x16_2 : Int), v6 = .bool x6_2 ∧ v16 = .int .i64 x16_2 ∧ Aside0 (spec_cuGroup.l1 kq l0 x5_2 x6_2 l0 (l0.length : Int) x16_2 = some r) ∧ Aside0 (kq ≤ k1) ∧ Aside0 (Kd.V (Kd.int .i64) 3 w' w.heap.size (fun k_ => (w.heap.size ≤ k_)) v5 x5_2) ∧ Aside0 (Below w.heap.size w w'))
        case atStart => exact ⟨(x5_1), (false), (0), wZ, wZ, H', ⟨Nat.le_refl _⟩, ⟨by (with_reducible repeat (first | apply Kd.V_alloc | apply Kd.V_drewN | apply Kd.V_drew)); exact HO_5.out⟩, ⟨Bz HB.out⟩⟩
        case round =>
          clear H'
          try clear c1
          try clear p2
          try clear c5
          try clear p2
          try clear HO_5
          obtain ⟨x5_2, x6_2, x16_2, rfl, rfl, HA, HK2, HO_5, HB⟩ := hrel; cases gk with
          | zero => exact absurd HA.out (by simp [spec_cuGroup.l1])
          | succ k2 =>
            have H := HA.out; clear HA
            simp only [spec_cuGroup.l1] at H
            by_cases c6 : x16_2 < (l0.length : Int)
            · rw [if_pos c6] at H
              have c6b0 : decide (x16_2 < (l0.length : Int)) = true := decide_eq_true c6; clear c6
              by_cases c7 : 0 ≤ x16_2
              · rw [if_pos c7] at H
                have c7b0 : decide (0 ≤ x16_2) = true := decide_eq_true c7; clear c7
                by_cases c8 : x16_2 < (l0.length : Int)
                · rw [if_pos c8] at H
                  have c8b0 : decide (x16_2 < (l0.length : Int)) = true := decide_eq_true c8; clear c8; have H' := am H; clear H; have p423 : 0 ≤ (x16_2 : Int) := dT; have q423 : x16_2 < (l0.length : Int) := dT; obtain ⟨ad423, A423_0, c423_0, e423, hx423_0, hl423_0, hi423_0⟩ := at_L3 HR0.out x16_2 p423 q423; cases e423; replace hx423_0 := (HB.out.cell (World.block_lt_of_cell? w _ hx423_0)).trans hx423_0; have HR423_0 := am hi423_0; have HC423_0 := am hl423_0; clear hi423_0 hl423_0; replace p423 := eq_true p423; replace q423 := eq_true q423; obtain ⟨Ao9, co9, eo9⟩ := Kd.V_slice HO_5.out; (first | subst eo9 | (injection eo9 with f1_ f2_ f3_; have f4_ := f1_.symm; have f5_ := f3_.symm; clear f1_ f2_ f3_; subst f4_; subst f5_))
                  go_wp2
                  repeat (go_quiet (fail); try go_wp2)
                  go_loopg [5, 6, 23] k2 (fun kq v5 v6 v23 w' => ∃ (x5_3 : List Int) (x6_3 : Bool) (x23_3 : Int), v6 = .bool x6_3 ∧ v23 = .int .i64 x23_3 ∧ Aside0 (spec_cuGroup.l2 kq l0 x5_3 x6_3 x16_2 (rd_L3 l0 x16_2) l0 (l0.length : Int) x16_2 x5_2 (x5_2.length : Int) x23_3 = some r) ∧ Aside0 (kq ≤ k2) ∧ Aside0 (Kd.V (Kd.int .i64) 3 w' w.heap.size (fun k_ => (w.heap.size ≤ k_)) v5 x5_3) ∧ Aside0 (Kd.V (Kd.int .i64) 3 w' w.heap.size (fun k_ => (w.heap.size ≤ k_)) (.slice Ao9 x5_2.length co9) x5_2) ∧ Aside0 (Below w.heap.size w w'))
                  case atStart => exact ⟨(x5_2), (x6_2), (0), wZ, wZ, H', ⟨Nat.le_refl _⟩, ⟨by (with_reducible repeat (first | apply Kd.V_alloc | apply Kd.V_drewN | apply Kd.V_drew)); exact HO_5.out⟩, ⟨by (with_reducible repeat (first | apply Kd.V_alloc | apply Kd.V_drewN | apply Kd.V_drew)); exact HO_5.out⟩, ⟨Bz HB.out⟩⟩
                  case round =>
                    clear H'
                    try clear c1
                    try clear p2
                    try clear c4
                    try clear p4
                    try clear q4
                    try clear hx4
                    try clear c5
                    try clear c6
                    try clear c6b0
                    try clear c7
                    try clear c7b0
                    try clear c8
                    try clear c8b0
                    try clear hx423_0
                    try clear p2
                    try clear p423
                    try clear q423
                    try clear HO_5
                    obtain ⟨x5_3, x6_3, x23_3, rfl, rfl, HA, HK3, HO_5, HO_21, HB⟩ := hrel; cases gk with
                    | zero => exact absurd HA.out (by simp [spec_cuGroup.l2])
                    | succ k3 =>
                      have H := HA.out; clear HA
                      simp only [spec_cuGroup.l2] at H
                      by_cases c10 : x23_3 < (x5_2.length : Int)
                      · rw [if_pos c10] at H
                        have c10b0 : decide (x23_3 < (x5_2.length : Int)) = true := decide_eq_true c10; clear c10
                        by_cases c11 : 0 ≤ x23_3
                        · rw [if_pos c11] at H
                          have c11b0 : decide (0 ≤ x23_3) = true := decide_eq_true c11; clear c11
                          by_cases c12 : x23_3 < (x5_2.length : Int)
                          · rw [if_pos c12] at H
                            have c12b0 : decide (x23_3 < (x5_2.length : Int)) = true := decide_eq_true c12; clear c12; replace H := Option.bind_eq_some_iff.mp H; obtain ⟨t425, A130, H⟩ := H; (try dsimp -simprocs only at H); have A13 := am A130; clear A130
                            by_cases c14 : t425 = true
                            · subst c14
                              rw [if_pos rfl] at H; have H' := am H; clear H; obtain ⟨ad424, e424, hx424_0⟩ := Kd.at_int (Kd.V_reads' HO_21.out).2.2 x23_3 dT dT; cases e424; have p424 := eT (0 ≤ (x23_3 : Int)); have q424 := eT (x23_3 < (x5_2.length : Int)); obtain ⟨Ao15, co15, eo15⟩ := Kd.V_slice HO_5.out; (first | subst eo15 | (injection eo15 with f1_ f2_ f3_; have f4_ := f1_.symm; have f5_ := f3_.symm; clear f1_ f2_ f3_; subst f4_; subst f5_))
                              go_wp2_with (first | (go_at_call 82; (with_reducible refine (spec_l1Has.calls k3 _ _ x5_3 x16_2 true _ ?side1 ?side2 A13.out).mono ?_); (case side1 => exact Cz ((Kd.V_reads' HO_5.out).2.2)); (case side2 => exact (Kd.V_reads' HO_5.out).2.1); rintro e w' ⟨rfl, ⟨nd, rfl⟩⟩; (try exact yZ)))
                              repeat (go_quiet (first | (go_at_call 82; (with_reducible refine (spec_l1Has.calls k3 _ _ x5_3 x16_2 true _ ?side1 ?side2 A13.out).mono ?_); (case side1 => exact Cz ((Kd.V_reads' HO_5.out).2.2)); (case side2 => exact (Kd.V_reads' HO_5.out).2.1); rintro e w' ⟨rfl, ⟨nd, rfl⟩⟩; (try exact yZ))); try go_wp2_with (first | (go_at_call 82; (with_reducible refine (spec_l1Has.calls k3 _ _ x5_3 x16_2 true _ ?side1 ?side2 A13.out).mono ?_); (case side1 => exact Cz ((Kd.V_reads' HO_5.out).2.2)); (case side2 => exact (Kd.V_reads' HO_5.out).2.1); rintro e w' ⟨rfl, ⟨nd, rfl⟩⟩; (try exact yZ))))
                              go_roundg k3
                              case measure => have := HK1.out; have := HK2.out; have := HK3.out; omega
                              case rel => exact ⟨(x5_3), (x6_3), (wrap64 (x23_3 + 1)), wZ, wZ, H', ⟨by have := HK1.out; have := HK2.out; have := HK3.out; omega⟩, ⟨by (with_reducible repeat (first | apply Kd.V_alloc | apply Kd.V_drewN | apply Kd.V_drew)); exact HO_5.out⟩, ⟨by (with_reducible repeat (first | apply Kd.V_alloc | apply Kd.V_drewN | apply Kd.V_drew)); exact HO_21.out⟩, ⟨Bz HB.out⟩⟩
                            · replace c14 := Bool.eq_false_iff.mpr c14
                              subst c14
                              rw [if_neg (show ¬ (false = true) by decide)] at H
                              by_cases c16 : 0 ≤ (rd x5_2 x23_3)
                              · rw [if_pos c16] at H
                                have c16b0 : decide (0 ≤ (rd x5_2 x23_3)) = true := decide_eq_true c16; clear c16
                                by_cases c17 : (rd x5_2 x23_3) < (l0.length : Int)
                                · rw [if_pos c17] at H
                                  have c17b0 : decide ((rd x5_2 x23_3) < (l0.length : Int)) = true := decide_eq_true c17; clear c17
                                  by_cases c18 : 0 < ((rd_L3 l0 x16_2).length : Int)
                                  · rw [if_pos c18] at H
                                    have c18b0 : decide (0 < ((rd_L3 l0 x16_2).length : Int)) = true := decide_eq_true c18; have c18b1 : decide (0 < (rd_L3 l0 x16_2).length) = true := decide_eq_true (by omega); clear c18; replace H := Option.bind_eq_some_iff.mp H; obtain ⟨t428, A190, H⟩ := H; (try dsimp -simprocs only at H); have A19 := am A190; clear A190
                                    by_cases c20 : t428 = true
                                    · subst c20
                                      rw [if_pos rfl] at H; replace H := Option.bind_eq_some_iff.mp H; obtain ⟨t429, A210, H⟩ := H; (try dsimp -simprocs only at H); have A21 := am A210; clear A210; have H' := am H; clear H; obtain ⟨ad424, e424, hx424_0⟩ := Kd.at_int (Kd.V_reads' HO_21.out).2.2 x23_3 dT dT; cases e424; have p424 := eT (0 ≤ (x23_3 : Int)); have q424 := eT (x23_3 < (x5_2.length : Int)); obtain ⟨Ao22, co22, eo22⟩ := Kd.V_slice HO_5.out; (first | subst eo22 | (injection eo22 with f1_ f2_ f3_; have f4_ := f1_.symm; have f5_ := f3_.symm; clear f1_ f2_ f3_; subst f4_; subst f5_))
                                      have p426 : 0 ≤ ((rd x5_2 x23_3) : Int) := dT; have q426 : (rd x5_2 x23_3) < (l0.length : Int) := dT; obtain ⟨ad426, A426_0, c426_0, e426, hx426_0, hl426_0, hi426_0⟩ := at_L3 HR0.out (rd x5_2 x23_3) p426 q426; obtain rfl : ad423 = ad426 := (by injection e426); replace hx426_0 := (HB.out.cell (World.block_lt_of_cell? w _ hx426_0)).trans hx426_0; have HR426_0 := am hi426_0; have HC426_0 := am hl426_0; clear hi426_0 hl426_0; replace p426 := eq_true p426; replace q426 := eq_true q426; have p427 : 0 ≤ (0 : Int) := (by omega); have q427 : 0 < ((rd_L3 l0 x16_2).length : Int) := dT; obtain ⟨ad427, e427, hx427_0⟩ := Kd.at_int HR423_0.out 0 p427 q427; cases e427; have qi427 : (0 < (rd_L3 l0 x16_2).length) = True := eq_true (by omega); (try rw [show ((0 : Int)).toNat = 0 from rfl] at hx427_0); (try rw [Addr.add_zero'] at hx427_0); replace hx427_0 := (HB.out.cell (World.block_lt_of_cell? w _ hx427_0)).trans hx427_0; replace p427 := eq_true p427; replace q427 := eq_true q427
                                      go_wp2_with (first | (go_at_call 82; (with_reducible refine (spec_l1Has.calls k3 _ _ x5_3 x16_2 false _ ?side1 ?side2 A13.out).mono ?_); (case side1 => exact Cz ((Kd.V_reads' HO_5.out).2.2)); (case side2 => exact (Kd.V_reads' HO_5.out).2.1); rintro e w' ⟨rfl, ⟨nd, rfl⟩⟩; (try exact yZ)) | (go_at_call 82; (with_reducible refine (spec_l1Has.calls k3 _ _ (rd_L3 l0 (rd x5_2 x23_3)) (rd (rd_L3 l0 x16_2) 0) true _ ?side1 ?side2 A19.out).mono ?_); (case side1 => exact Kd.C_below HR426_0.out (Bz HB.out)); (case side2 => exact HC426_0.out); rintro e w' ⟨rfl, ⟨nd, rfl⟩⟩; (try exact yZ)) | (go_at_call 134; (with_reducible refine (spec_l1Put.calls k3 (fun k_ => (w.heap.size ≤ k_)) _ _ x5_3 x16_2 t429 _ ?side1 A21.out).mono ?_); (case side1 => exact HO_5.out); rintro e w23 ⟨v430, rfl, ho0, hb⟩; have n0_ := am (Kd.V_below (by (with_reducible repeat (first | apply Kd.V_alloc | apply Kd.V_drewN | apply Kd.V_drew)); exact HO_5.out) hb); have n1_ := am (Kd.V_below (by (with_reducible repeat (first | apply Kd.V_alloc | apply Kd.V_drewN | apply Kd.V_drew)); exact HO_21.out) hb); have n2_ := am (Kd.V_lower (Kd.V_mono (ok' := fun k_ => (w.heap.size ≤ k_)) ho0 (fun k_ hk_ => Or.elim hk_ (fun hs_ => hs_) (fun hn_ => (Nat.le_trans (below_size (Bz HB.out)) hn_)))) (below_size (Bz HB.out))); have n3_ := Bb HB hb; clear HO_5 HO_21 HB; revert n0_ n1_ n2_ n3_; intro HO_5 HO_21 HO431 HB; (try clear hb); (try clear hb2); (try clear hk); (try clear hi); (try clear ho0)))
                                      repeat (go_quiet (first | (go_at_call 82; (with_reducible refine (spec_l1Has.calls k3 _ _ x5_3 x16_2 false _ ?side1 ?side2 A13.out).mono ?_); (case side1 => exact Cz ((Kd.V_reads' HO_5.out).2.2)); (case side2 => exact (Kd.V_reads' HO_5.out).2.1); rintro e w' ⟨rfl, ⟨nd, rfl⟩⟩; (try exact yZ)) | (go_at_call 82; (with_reducible refine (spec_l1Has.calls k3 _ _ (rd_L3 l0 (rd x5_2 x23_3)) (rd (rd_L3 l0 x16_2) 0) true _ ?side1 ?side2 A19.out).mono ?_); (case side1 => exact Kd.C_below HR426_0.out (Bz HB.out)); (case side2 => exact HC426_0.out); rintro e w' ⟨rfl, ⟨nd, rfl⟩⟩; (try exact yZ)) | (go_at_call 134; (with_reducible refine (spec_l1Put.calls k3 (fun k_ => (w.heap.size ≤ k_)) _ _ x5_3 x16_2 t429 _ ?side1 A21.out).mono ?_); (case side1 => exact HO_5.out); rintro e w23 ⟨v430, rfl, ho0, hb⟩; have n0_ := am (Kd.V_below (by (with_reducible repeat (first | apply Kd.V_alloc | apply Kd.V_drewN | apply Kd.V_drew)); exact HO_5.out) hb); have n1_ := am (Kd.V_below (by (with_reducible repeat (first | apply Kd.V_alloc | apply Kd.V_drewN | apply Kd.V_drew)); exact HO_21.out) hb); have n2_ := am (Kd.V_lower (Kd.V_mono (ok' := fun k_ => (w.heap.size ≤ k_)) ho0 (fun k_ hk_ => Or.elim hk_ (fun hs_ => hs_) (fun hn_ => (Nat.le_trans (below_size (Bz HB.out)) hn_)))) (below_size (Bz HB.out))); have n3_ := Bb HB hb; clear HO_5 HO_21 HB; revert n0_ n1_ n2_ n3_; intro HO_5 HO_21 HO431 HB; (try clear hb); (try clear hb2); (try clear hk); (try clear hi); (try clear ho0))); try go_wp2_with (first | (go_at_call 82; (with_reducible refine (spec_l1Has.calls k3 _ _ x5_3 x16_2 false _ ?side1 ?side2 A13.out).mono ?_); (case side1 => exact Cz ((Kd.V_reads' HO_5.out).2.2)); (case side2 => exact (Kd.V_reads' HO_5.out).2.1); rintro e w' ⟨rfl, ⟨nd, rfl⟩⟩; (try exact yZ)) | (go_at_call 82; (with_reducible refine (spec_l1Has.calls k3 _ _ (rd_L3 l0 (rd x5_2 x23_3)) (rd (rd_L3 l0 x16_2) 0) true _ ?side1 ?side2 A19.out).mono ?_); (case side1 => exact Kd.C_below HR426_0.out (Bz HB.out)); (case side2 => exact HC426_0.out); rintro e w' ⟨rfl, ⟨nd, rfl⟩⟩; (try exact yZ)) | (go_at_call 134; (with_reducible refine (spec_l1Put.calls k3 (fun k_ => (w.heap.size ≤ k_)) _ _ x5_3 x16_2 t429 _ ?side1 A21.out).mono ?_); (case side1 => exact HO_5.out); rintro e w23 ⟨v430, rfl, ho0, hb⟩; have n0_ := am (Kd.V_below (by (with_reducible repeat (first | apply Kd.V_alloc | apply Kd.V_drewN | apply Kd.V_drew)); exact HO_5.out) hb); have n1_ := am (Kd.V_below (by (with_reducible repeat (first | apply Kd.V_alloc | apply Kd.V_drewN | apply Kd.V_drew)); exact HO_21.out) hb); have n2_ := am (Kd.V_lower (Kd.V_mono (ok' := fun k_ => (w.heap.size ≤ k_)) ho0 (fun k_ hk_ => Or.elim hk_ (fun hs_ => hs_) (fun hn_ => (Nat.le_trans (below_size (Bz HB.out)) hn_)))) (below_size (Bz HB.out))); have n3_ := Bb HB hb; clear HO_5 HO_21 HB; revert n0_ n1_ n2_ n3_; intro HO_5 HO_21 HO431 HB; (try clear hb); (try clear hb2); (try clear hk); (try clear hi); (try clear ho0))))
                                      go_roundg k3
                                      case measure => have := HK1.out; have := HK2.out; have := HK3.out; omega
                                      case rel => exact ⟨(t429), (true), (wrap64 (x23_3 + 1)), wZ, wZ, H', ⟨by have := HK1.out; have := HK2.out; have := HK3.out; omega⟩, ⟨by (with_reducible repeat (first | apply Kd.V_alloc | apply Kd.V_drewN | apply Kd.V_drew)); exact HO431.out⟩, ⟨by (with_reducible repeat (first | apply Kd.V_alloc | apply Kd.V_drewN | apply Kd.V_drew)); exact HO_21.out⟩, ⟨Bz HB.out⟩⟩
                                    · replace c20 := Bool.eq_false_iff.mpr c20
                                      subst c20
                                      rw [if_neg (show ¬ (false = true) by decide)] at H
                                      by_cases c24 : 1 < ((rd_L3 l0 x16_2).length : Int)
                                      · rw [if_pos c24] at H
                                        have c24b0 : decide (1 < ((rd_L3 l0 x16_2).length : Int)) = true := decide_eq_true c24; have c24b1 : decide (1 < (rd_L3 l0 x16_2).length) = true := decide_eq_true (by omega); clear c24; replace H := Option.bind_eq_some_iff.mp H; obtain ⟨t434, A250, H⟩ := H; (try dsimp -simprocs only at H); have A25 := am A250; clear A250
                                        by_cases c26 : t434 = true
                                        · subst c26
                                          rw [if_pos rfl] at H; replace H := Option.bind_eq_some_iff.mp H; obtain ⟨t435, A270, H⟩ := H; (try dsimp -simprocs only at H); have A27 := am A270; clear A270; have H' := am H; clear H; obtain ⟨ad424, e424, hx424_0⟩ := Kd.at_int (Kd.V_reads' HO_21.out).2.2 x23_3 dT dT; cases e424; have p424 := eT (0 ≤ (x23_3 : Int)); have q424 := eT (x23_3 < (x5_2.length : Int)); obtain ⟨Ao28, co28, eo28⟩ := Kd.V_slice HO_5.out; (first | subst eo28 | (injection eo28 with f1_ f2_ f3_; have f4_ := f1_.symm; have f5_ := f3_.symm; clear f1_ f2_ f3_; subst f4_; subst f5_))
                                          have p426 : 0 ≤ ((rd x5_2 x23_3) : Int) := dT; have q426 : (rd x5_2 x23_3) < (l0.length : Int) := dT; obtain ⟨ad426, A426_0, c426_0, e426, hx426_0, hl426_0, hi426_0⟩ := at_L3 HR0.out (rd x5_2 x23_3) p426 q426; obtain rfl : ad423 = ad426 := (by injection e426); replace hx426_0 := (HB.out.cell (World.block_lt_of_cell? w _ hx426_0)).trans hx426_0; have HR426_0 := am hi426_0; have HC426_0 := am hl426_0; clear hi426_0 hl426_0; replace p426 := eq_true p426; replace q426 := eq_true q426; have p427 : 0 ≤ (0 : Int) := (by omega); have q427 : 0 < ((rd_L3 l0 x16_2).length : Int) := dT; obtain ⟨ad427, e427, hx427_0⟩ := Kd.at_int HR423_0.out 0 p427 q427; cases e427; have qi427 : (0 < (rd_L3 l0 x16_2).length) = True := eq_true (by omega); (try rw [show ((0 : Int)).toNat = 0 from rfl] at hx427_0); (try rw [Addr.add_zero'] at hx427_0); replace hx427_0 := (HB.out.cell (World.block_lt_of_cell? w _ hx427_0)).trans hx427_0; replace p427 := eq_true p427; replace q427 := eq_true q427
                                          have p432 : 0 ≤ ((rd x5_2 x23_3) : Int) := dT; have q432 : (rd x5_2 x23_3) < (l0.length : Int) := dT; obtain ⟨ad432, A432_0, c432_0, e432, hx432_0, hl432_0, hi432_0⟩ := at_L3 HR0.out (rd x5_2 x23_3) p432 q432; obtain rfl : ad423 = ad432 := (by injection e432); replace hx432_0 := (HB.out.cell (World.block_lt_of_cell? w _ hx432_0)).trans hx432_0; have HR432_0 := am hi432_0; have HC432_0 := am hl432_0; clear hi432_0 hl432_0; replace p432 := eq_true p432; replace q432 := eq_true q432; have ea_ := Option.some.inj (hx426_0.symm.trans hx432_0); injection ea_ with ea_ en_ ec_; subst ea_; subst ec_; clear en_; have p433 : 0 ≤ (1 : Int) := (by omega); have q433 : 1 < ((rd_L3 l0 x16_2).length : Int) := dT; obtain ⟨ad433, e433, hx433_0⟩ := Kd.at_int HR423_0.out 1 p433 q433; obtain rfl : ad427 = ad433 := (by injection e433); (try simp only [show (1 : Int).toNat = 1 from rfl, Nat.reduceMul, Nat.reduceEqDiff, Go.Addr.add, ↓reduceIte] at hx433_0); have qi433 : (1 < (rd_L3 l0 x16_2).length) = True := eq_true (by omega); (try rw [show ((1 : Int)).toNat = 1 from rfl] at hx433_0); replace hx433_0 := (HB.out.cell (World.block_lt_of_cell? w _ hx433_0)).trans hx433_0; replace p433 := eq_true p433; replace q433 := eq_true q433
                                          go_wp2_with (first | (go_at_call 82; (with_reducible refine (spec_l1Has.calls k3 _ _ x5_3 x16_2 false _ ?side1 ?side2 A13.out).mono ?_); (case side1 => exact Cz ((Kd.V_reads' HO_5.out).2.2)); (case side2 => exact (Kd.V_reads' HO_5.out).2.1); rintro e w' ⟨rfl, ⟨nd, rfl⟩⟩; (try exact yZ)) | (go_at_call 82; (with_reducible refine (spec_l1Has.calls k3 _ _ (rd_L3 l0 (rd x5_2 x23_3)) (rd (rd_L3 l0 x16_2) 0) false _ ?side1 ?side2 A19.out).mono ?_); (case side1 => exact Kd.C_below HR426_0.out (Bz HB.out)); (case side2 => exact HC426_0.out); rintro e w' ⟨rfl, ⟨nd, rfl⟩⟩; (try exact yZ)) | (go_at_call 82; (with_reducible refine (spec_l1Has.calls k3 _ _ (rd_L3 l0 (rd x5_2 x23_3)) (rd (rd_L3 l0 x16_2) 1) true _ ?side1 ?side2 A25.out).mono ?_); (case side1 => exact Kd.C_below HR432_0.out (Bz HB.out)); (case side2 => exact HC432_0.out); rintro e w' ⟨rfl, ⟨nd, rfl⟩⟩; (try exact yZ)) | (go_at_call 134; (with_reducible refine (spec_l1Put.calls k3 (fun k_ => (w.heap.size ≤ k_)) _ _ x5_3 x16_2 t435 _ ?side1 A27.out).mono ?_); (case side1 => exact HO_5.out); rintro e w29 ⟨v436, rfl, ho0, hb⟩; have n0_ := am (Kd.V_below (by (with_reducible repeat (first | apply Kd.V_alloc | apply Kd.V_drewN | apply Kd.V_drew)); exact HO_5.out) hb); have n1_ := am (Kd.V_below (by (with_reducible repeat (first | apply Kd.V_alloc | apply Kd.V_drewN | apply Kd.V_drew)); exact HO_21.out) hb); have n2_ := am (Kd.V_lower (Kd.V_mono (ok' := fun k_ => (w.heap.size ≤ k_)) ho0 (fun k_ hk_ => Or.elim hk_ (fun hs_ => hs_) (fun hn_ => (Nat.le_trans (below_size (Bz HB.out)) hn_)))) (below_size (Bz HB.out))); have n3_ := Bb HB hb; clear HO_5 HO_21 HB; revert n0_ n1_ n2_ n3_; intro HO_5 HO_21 HO437 HB; (try clear hb); (try clear hb2); (try clear hk); (try clear hi); (try clear ho0)))
                                          repeat (go_quiet (first | (go_at_call 82; (with_reducible refine (spec_l1Has.calls k3 _ _ x5_3 x16_2 false _ ?side1 ?side2 A13.out).mono ?_); (case side1 => exact Cz ((Kd.V_reads' HO_5.out).2.2)); (case side2 => exact (Kd.V_reads' HO_5.out).2.1); rintro e w' ⟨rfl, ⟨nd, rfl⟩⟩; (try exact yZ)) | (go_at_call 82; (with_reducible refine (spec_l1Has.calls k3 _ _ (rd_L3 l0 (rd x5_2 x23_3)) (rd (rd_L3 l0 x16_2) 0) false _ ?side1 ?side2 A19.out).mono ?_); (case side1 => exact Kd.C_below HR426_0.out (Bz HB.out)); (case side2 => exact HC426_0.out); rintro e w' ⟨rfl, ⟨nd, rfl⟩⟩; (try exact yZ)) | (go_at_call 82; (with_reducible refine (spec_l1Has.calls k3 _ _ (rd_L3 l0 (rd x5_2 x23_3)) (rd (rd_L3 l0 x16_2) 1) true _ ?side1 ?side2 A25.out).mono ?_); (case side1 => exact Kd.C_below HR432_0.out (Bz HB.out)); (case side2 => exact HC432_0.out); rintro e w' ⟨rfl, ⟨nd, rfl⟩⟩; (try exact yZ)) | (go_at_call 134; (with_reducible refine (spec_l1Put.calls k3 (fun k_ => (w.heap.size ≤ k_)) _ _ x5_3 x16_2 t435 _ ?side1 A27.out).mono ?_); (case side1 => exact HO_5.out); rintro e w29 ⟨v436, rfl, ho0, hb⟩; have n0_ := am (Kd.V_below (by (with_reducible repeat (first | apply Kd.V_alloc | apply Kd.V_drewN | apply Kd.V_drew)); exact HO_5.out) hb); have n1_ := am (Kd.V_below (by (with_reducible repeat (first | apply Kd.V_alloc | apply Kd.V_drewN | apply Kd.V_drew)); exact HO_21.out) hb); have n2_ := am (Kd.V_lower (Kd.V_mono (ok' := fun k_ => (w.heap.size ≤ k_)) ho0 (fun k_ hk_ => Or.elim hk_ (fun hs_ => hs_) (fun hn_ => (Nat.le_trans (below_size (Bz HB.out)) hn_)))) (below_size (Bz HB.out))); have n3_ := Bb HB hb; clear HO_5 HO_21 HB; revert n0_ n1_ n2_ n3_; intro HO_5 HO_21 HO437 HB; (try clear hb); (try clear hb2); (try clear hk); (try clear hi); (try clear ho0))); try go_wp2_with (first | (go_at_call 82; (with_reducible refine (spec_l1Has.calls k3 _ _ x5_3 x16_2 false _ ?side1 ?side2 A13.out).mono ?_); (case side1 => exact Cz ((Kd.V_reads' HO_5.out).2.2)); (case side2 => exact (Kd.V_reads' HO_5.out).2.1); rintro e w' ⟨rfl, ⟨nd, rfl⟩⟩; (try exact yZ)) | (go_at_call 82; (with_reducible refine (spec_l1Has.calls k3 _ _ (rd_L3 l0 (rd x5_2 x23_3)) (rd (rd_L3 l0 x16_2) 0) false _ ?side1 ?side2 A19.out).mono ?_); (case side1 => exact Kd.C_below HR426_0.out (Bz HB.out)); (case side2 => exact HC426_0.out); rintro e w' ⟨rfl, ⟨nd, rfl⟩⟩; (try exact yZ)) | (go_at_call 82; (with_reducible refine (spec_l1Has.calls k3 _ _ (rd_L3 l0 (rd x5_2 x23_3)) (rd (rd_L3 l0 x16_2) 1) true _ ?side1 ?side2 A25.out).mono ?_); (case side1 => exact Kd.C_below HR432_0.out (Bz HB.out)); (case side2 => exact HC432_0.out); rintro e w' ⟨rfl, ⟨nd, rfl⟩⟩; (try exact yZ)) | (go_at_call 134; (with_reducible refine (spec_l1Put.calls k3 (fun k_ => (w.heap.size ≤ k_)) _ _ x5_3 x16_2 t435 _ ?side1 A27.out).mono ?_); (case side1 => exact HO_5.out); rintro e w29 ⟨v436, rfl, ho0, hb⟩; have n0_ := am (Kd.V_below (by (with_reducible repeat (first | apply Kd.V_alloc | apply Kd.V_drewN | apply Kd.V_drew)); exact HO_5.out) hb); have n1_ := am (Kd.V_below (by (with_reducible repeat (first | apply Kd.V_alloc | apply Kd.V_drewN | apply Kd.V_drew)); exact HO_21.out) hb); have n2_ := am (Kd.V_lower (Kd.V_mono (ok' := fun k_ => (w.heap.size ≤ k_)) ho0 (fun k_ hk_ => Or.elim hk_ (fun hs_ => hs_) (fun hn_ => (Nat.le_trans (below_size (Bz HB.out)) hn_)))) (below_size (Bz HB.out))); have n3_ := Bb HB hb; clear HO_5 HO_21 HB; revert n0_ n1_ n2_ n3_; intro HO_5 HO_21 HO437 HB; (try clear hb); (try clear hb2); (try clear hk); (try clear hi); (try clear ho0))))
                                          go_roundg k3
                                          case measure => have := HK1.out; have := HK2.out; have := HK3.out; omega
                                          case rel => exact ⟨(t435), (true), (wrap64 (x23_3 + 1)), wZ, wZ, H', ⟨by have := HK1.out; have := HK2.out; have := HK3.out; omega⟩, ⟨by (with_reducible repeat (first | apply Kd.V_alloc | apply Kd.V_drewN | apply Kd.V_drew)); exact HO437.out⟩, ⟨by (with_reducible repeat (first | apply Kd.V_alloc | apply Kd.V_drewN | apply Kd.V_drew)); exact HO_21.out⟩, ⟨Bz HB.out⟩⟩
                                        · replace c26 := Bool.eq_false_iff.mpr c26
                                          subst c26
                                          rw [if_neg (show ¬ (false = true) by decide)] at H; have H' := am H; clear H; obtain ⟨ad424, e424, hx424_0⟩ := Kd.at_int (Kd.V_reads' HO_21.out).2.2 x23_3 dT dT; cases e424; have p424 := eT (0 ≤ (x23_3 : Int)); have q424 := eT (x23_3 < (x5_2.length : Int)); obtain ⟨Ao30, co30, eo30⟩ := Kd.V_slice HO_5.out; (first | subst eo30 | (injection eo30 with f1_ f2_ f3_; have f4_ := f1_.symm; have f5_ := f3_.symm; clear f1_ f2_ f3_; subst f4_; subst f5_))
                                          have p426 : 0 ≤ ((rd x5_2 x23_3) : Int) := dT; have q426 : (rd x5_2 x23_3) < (l0.length : Int) := dT; obtain ⟨ad426, A426_0, c426_0, e426, hx426_0, hl426_0, hi426_0⟩ := at_L3 HR0.out (rd x5_2 x23_3) p426 q426; obtain rfl : ad423 = ad426 := (by injection e426); replace hx426_0 := (HB.out.cell (World.block_lt_of_cell? w _ hx426_0)).trans hx426_0; have HR426_0 := am hi426_0; have HC426_0 := am hl426_0; clear hi426_0 hl426_0; replace p426 := eq_true p426; replace q426 := eq_true q426; have p427 : 0 ≤ (0 : Int) := (by omega); have q427 : 0 < ((rd_L3 l0 x16_2).length : Int) := dT; obtain ⟨ad427, e427, hx427_0⟩ := Kd.at_int HR423_0.out 0 p427 q427; cases e427; have qi427 : (0 < (rd_L3 l0 x16_2).length) = True := eq_true (by omega); (try rw [show ((0 : Int)).toNat = 0 from rfl] at hx427_0); (try rw [Addr.add_zero'] at hx427_0); replace hx427_0 := (HB.out.cell (World.block_lt_of_cell? w _ hx427_0)).trans hx427_0; replace p427 := eq_true p427; replace q427 := eq_true q427
                                          have p432 : 0 ≤ ((rd x5_2 x23_3) : Int) := dT; have q432 : (rd x5_2 x23_3) < (l0.length : Int) := dT; obtain ⟨ad432, A432_0, c432_0, e432, hx432_0, hl432_0, hi432_0⟩ := at_L3 HR0.out (rd x5_2 x23_3) p432 q432; obtain rfl : ad423 = ad432 := (by injection e432); replace hx432_0 := (HB.out.cell (World.block_lt_of_cell? w _ hx432_0)).trans hx432_0; have HR432_0 := am hi432_0; have HC432_0 := am hl432_0; clear hi432_0 hl432_0; replace p432 := eq_true p432; replace q432 := eq_true q432; have ea_ := Option.some.inj (hx426_0.symm.trans hx432_0); injection ea_ with ea_ en_ ec_; subst ea_; subst ec_; clear en_; have p433 : 0 ≤ (1 : Int) := (by omega); have q433 : 1 < ((rd_L3 l0 x16_2).length : Int) := dT; obtain ⟨ad433, e433, hx433_0⟩ := Kd.at_int HR423_0.out 1 p433 q433; obtain rfl : ad427 = ad433 := (by injection e433); (try simp only [show (1 : Int).toNat = 1 from rfl, Nat.reduceMul, Nat.reduceEqDiff, Go.Addr.add, ↓reduceIte] at hx433_0); have qi433 : (1 < (rd_L3 l0 x16_2).length) = True := eq_true (by omega); (try rw [show ((1 : Int)).toNat = 1 from rfl] at hx433_0); replace hx433_0 := (HB.out.cell (World.block_lt_of_cell? w _ hx433_0)).trans hx433_0; replace p433 := eq_true p433; replace q433 := eq_true q433
                                          go_wp2_with (first | (go_at_call 82; (with_reducible refine (spec_l1Has.calls k3 _ _ x5_3 x16_2 false _ ?side1 ?side2 A13.out).mono ?_); (case side1 => exact Cz ((Kd.V_reads' HO_5.out).2.2)); (case side2 => exact (Kd.V_reads' HO_5.out).2.1); rintro e w' ⟨rfl, ⟨nd, rfl⟩⟩; (try exact yZ)) | (go_at_call 82; (with_reducible refine (spec_l1Has.calls k3 _ _ (rd_L3 l0 (rd x5_2 x23_3)) (rd (rd_L3 l0 x16_2) 0) false _ ?side1 ?side2 A19.out).mono ?_); (case side1 => exact Kd.C_below HR426_0.out (Bz HB.out)); (case side2 => exact HC426_0.out); rintro e w' ⟨rfl, ⟨nd, rfl⟩⟩; (try exact yZ)) | (go_at_call 82; (with_reducible refine (spec_l1Has.calls k3 _ _ (rd_L3 l0 (rd x5_2 x23_3)) (rd (rd_L3 l0 x16_2) 1) false _ ?side1 ?side2 A25.out).mono ?_); (case side1 => exact Kd.C_below HR432_0.out (Bz HB.out)); (case side2 => exact HC432_0.out); rintro e w' ⟨rfl, ⟨nd, rfl⟩⟩; (try exact yZ)))
                                          repeat (go_quiet (first | (go_at_call 82; (with_reducible refine (spec_l1Has.calls k3 _ _ x5_3 x16_2 false _ ?side1 ?side2 A13.out).mono ?_); (case side1 => exact Cz ((Kd.V_reads' HO_5.out).2.2)); (case side2 => exact (Kd.V_reads' HO_5.out).2.1); rintro e w' ⟨rfl, ⟨nd, rfl⟩⟩; (try exact yZ)) | (go_at_call 82; (with_reducible refine (spec_l1Has.calls k3 _ _ (rd_L3 l0 (rd x5_2 x23_3)) (rd (rd_L3 l0 x16_2) 0) false _ ?side1 ?side2 A19.out).mono ?_); (case side1 => exact Kd.C_below HR426_0.out (Bz HB.out)); (case side2 => exact HC426_0.out); rintro e w' ⟨rfl, ⟨nd, rfl⟩⟩; (try exact yZ)) | (go_at_call 82; (with_reducible refine (spec_l1Has.calls k3 _ _ (rd_L3 l0 (rd x5_2 x23_3)) (rd (rd_L3 l0 x16_2) 1) false _ ?side1 ?side2 A25.out).mono ?_); (case side1 => exact Kd.C_below HR432_0.out (Bz HB.out)); (case side2 => exact HC432_0.out); rintro e w' ⟨rfl, ⟨nd, rfl⟩⟩; (try exact yZ))); try go_wp2_with (first | (go_at_call 82; (with_reducible refine (spec_l1Has.calls k3 _ _ x5_3 x16_2 false _ ?side1 ?side2 A13.out).mono ?_); (case side1 => exact Cz ((Kd.V_reads' HO_5.out).2.2)); (case side2 => exact (Kd.V_reads' HO_5.out).2.1); rintro e w' ⟨rfl, ⟨nd, rfl⟩⟩; (try exact yZ)) | (go_at_call 82; (with_reducible refine (spec_l1Has.calls k3 _ _ (rd_L3 l0 (rd x5_2 x23_3)) (rd (rd_L3 l0 x16_2) 0) false _ ?side1 ?side2 A19.out).mono ?_); (case side1 => exact Kd.C_below HR426_0.out (Bz HB.out)); (case side2 => exact HC426_0.out); rintro e w' ⟨rfl, ⟨nd, rfl⟩⟩; (try exact yZ)) | (go_at_call 82; (with_reducible refine (spec_l1Has.calls k3 _ _ (rd_L3 l0 (rd x5_2 x23_3)) (rd (rd_L3 l0 x16_2) 1) false _ ?side1 ?side2 A25.out).mono ?_); (case side1 => exact Kd.C_below HR432_0.out (Bz HB.out)); (case side2 => exact HC432_0.out); rintro e w' ⟨rfl, ⟨nd, rfl⟩⟩; (try exact yZ))))
                                          go_roundg k3
                                          case measure => have := HK1.out; have := HK2.out; have := HK3.out; omega
                                          case rel => exact ⟨(x5_3), (x6_3), (wrap64 (x23_3 + 1)), wZ, wZ, H', ⟨by have := HK1.out; have := HK2.out; have := HK3.out; omega⟩, ⟨by (with_reducible repeat (first | apply Kd.V_alloc | apply Kd.V_drewN | apply Kd.V_drew)); exact HO_5.out⟩, ⟨by (with_reducible repeat (first | apply Kd.V_alloc | apply Kd.V_drewN | apply Kd.V_drew)); exact HO_21.out⟩, ⟨Bz HB.out⟩⟩
                                      · rw [if_neg c24] at H
                                        exact absurd H (by simp)
                                  · rw [if_neg c18] at H
                                    exact absurd H (by simp)
                                · rw [if_neg c17] at H
                                  exact absurd H (by simp)
                              · rw [if_neg c16] at H
                                exact absurd H (by simp)
                          · rw [if_neg c12] at H
                            exact absurd H (by simp)
                        · rw [if_neg c11] at H
                          exact absurd H (by simp)
                      · rw [if_neg c10] at H
                        have c10b0 : decide (x23_3 < (x5_2.length : Int)) = false := decide_eq_false c10; clear c10; have H' := am H; clear H
                        go_wp2
                        repeat (go_quiet (fail); try go_wp2)
                        go_roundg k3
                        case measure => have := HK1.out; have := HK2.out; have := HK3.out; omega
                        case rel => exact ⟨(x5_3), (x6_3), (wrap64 (x16_2 + 1)), wZ, wZ, H', ⟨by have := HK1.out; have := HK2.out; have := HK3.out; omega⟩, ⟨by (with_reducible repeat (first | apply Kd.V_alloc | apply Kd.V_drewN | apply Kd.V_drew)); exact HO_5.out⟩, ⟨Bz HB.out⟩⟩
                · rw [if_neg c8] at H
                  exact absurd H (by simp)
              · rw [if_neg c7] at H
                exact absurd H (by simp)
            · rw [if_neg c6] at H
              have c6b0 : decide (x16_2 < (l0.length : Int)) = false := decide_eq_false c6; clear c6; have H' := am H; clear H
              go_wp2
              repeat (go_quiet (fail); try go_wp2)
              go_roundg k2
              case measure => have := HK1.out; have := HK2.out; omega
              case rel => exact ⟨(x5_2), (x6_2), wZ, H', ⟨by have := HK1.out; have := HK2.out; omega⟩, ⟨by (with_reducible repeat (first | apply Kd.V_alloc | apply Kd.V_drewN | apply Kd.V_drew)); exact HO_5.out⟩, ⟨Bz HB.out⟩⟩
      · replace c5 := Bool.eq_false_iff.mpr c5
        subst c5
        rw [if_neg (show ¬ (false = true) by decide)] at H; obtain rfl := Option.some.inj H
        go_wp2
        repeat (go_quiet (fail); try go_wp2)
        go_ret
        exact ⟨_, eZ, by (with_reducible repeat (first | apply Kd.V_alloc | apply Kd.V_drewN | apply Kd.V_drew)); exact HO_5.out, Bz HB.out⟩

def spec_cuGroups.l0 : Nat → List (List Int) → List (List Int) → Int → Int → Option ((List (List Int)))
  | 0, _, _, _, _ => none
  | k + 1, x0, x3, x7, x8 => if x8 < x7 then ((spec_cuGroup.f k x0 x8).bind fun t438 => (if 0 < (t438.length : Int) then (if (rd t438 0) = x8 then (if x3.length < 5864062014805 then (spec_cuGroups.l0 k x0 (x3 ++ [t438]) x7 (wrap64 (x8 + 1))) else (none)) else (spec_cuGroups.l0 k x0 x3 x7 (wrap64 (x8 + 1)))) else (none))) else (some x3)
def spec_cuGroups.f (k : Nat) (l0 : List (List Int)) : Option ((List (List Int))) := spec_cuGroups.l0 k l0 ([] : List (List Int)) (l0.length : Int) 0
theorem spec_cuGroups.calls (k : Nat) (A0 : Option Addr) (c0 : Nat) (l0 : List (List Int)) (r : List (List Int)) (w : World) (hr0 : Kd.C (Kd.slice 3 (Kd.int .i64)) w A0 l0.length l0) (hc0 : l0.length ≤ c0) (h : spec_cuGroups.f k l0 = some r) :
    Calls Try.prog 63 #[.slice A0 l0.length c0] w fun e w' => ∃ v0_ : Value, e = .returned (v0_) ∧ Kd.N (Kd.slice 3 (Kd.int .i64)) 31 w' w.heap.size (fun k_ => (w.heap.size ≤ k_)) v0_ r ∧ Below w.heap.size w w' := by
  have HR0 := am hr0; have HC0 := am hc0; clear hr0 hc0; have HB := am (Below.refl w.heap.size w); have H : (spec_cuGroups.l0 k l0 ([] : List (List Int)) (l0.length : Int) 0) = some r := h; clear h; have H' := am H; clear H
  go_enter Try.func63, Try.ntmps63
  go_wp2
  go_loopg [3, 8] k (fun kq v3 v8 w' => ∃ (x3_1 : List (List Int)) (x8_1 : Int), v8 = .int .i64 x8_1 ∧ Aside0 (spec_cuGroups.l0 kq l0 x3_1 (l0.length : Int) x8_1 = some r) ∧ Aside0 (kq ≤ k) ∧ Aside0 (Kd.N (Kd.slice 3 (Kd.int .i64)) 31 w' w.heap.size (fun k_ => (w.heap.size ≤ k_)) v3 x3_1) ∧ Aside0 (Below w.heap.size w w'))
  case atStart => exact ⟨(([] : List (List Int))), (0), wZ, H', ⟨Nat.le_refl _⟩, ⟨by first | exact Kd.S_nil _ _ _ _ _ | exact Kd.N_nil _ _ _ _ _ | exact Kd.V_nil _ _ _ _ _ | exact Kd.Q_nil _ _ _ _ _ | exact Kd.R_nil _ _ _ _ _⟩, ⟨Bz HB.out⟩⟩
  case round =>
    clear H'; obtain ⟨x3_1, x8_1, rfl, HA, HK1, HO_3, HB⟩ := hrel; cases gk with
    | zero => exact absurd HA.out (by simp [spec_cuGroups.l0])
    | succ k1 =>
      have H := HA.out; clear HA
      simp only [spec_cuGroups.l0] at H
      by_cases c2 : x8_1 < (l0.length : Int)
      · rw [if_pos c2] at H
        have c2b0 : decide (x8_1 < (l0.length : Int)) = true := decide_eq_true c2; clear c2; replace H := Option.bind_eq_some_iff.mp H; obtain ⟨t438, A30, H⟩ := H; (try dsimp -simprocs only at H); have A3 := am A30; clear A30
        by_cases c4 : 0 < (t438.length : Int)
        · rw [if_pos c4] at H
          have c4b0 : decide (0 < (t438.length : Int)) = true := decide_eq_true c4; have c4b1 : decide (0 < t438.length) = true := decide_eq_true (by omega); clear c4
          by_cases c5 : (rd t438 0) = x8_1
          · rw [if_pos c5] at H
            have c5b0 : ((rd t438 0) == x8_1) = true := beq_iff_eq.mpr c5; have c5b1 : ((rd t438 0) != x8_1) = false := bne_eq_false_iff_eq.mpr c5; clear c5
            by_cases c6 : x3_1.length < 5864062014805
            · rw [if_pos c6] at H
              have LMc6 := am c6; clear c6; obtain ⟨y442, hy442⟩ : ∃ y_ : List (List Int), y_ = (x3_1 ++ [t438]) := ⟨_, rfl⟩
              replace H : (spec_cuGroups.l0 k1 l0 y442 (l0.length : Int) (wrap64 (x8_1 + 1))) = some r := by first | (rw [hy442]; with_reducible exact H) | (have H2_ := (Option.bind_some _ _).symm.trans H; rw [hy442]; with_reducible exact H2_) | (have H2_ := (Option.bind_some _ _).symm.trans H; with_reducible exact H2_) | with_reducible exact H | (rw [hy442]; exact H) | exact H
              have Ny442 := am hy442; clear hy442; have H' := am H; clear H
              go_wp2_with (first | ((with_reducible refine gate_callee (f := 124) rfl ?_); refine gL (some 13) Try.func124 #[.slice A0 l0.length c0, .int .i64 x8_1] ?_; (with_reducible refine (spec_cuGroup.calls k1 _ _ l0 x8_1 t438 _ ?side1 ?side2 A3.out).mono ?_); (case side1 => exact Cz (Kd.C_below HR0.out HB.out)); (case side2 => exact HC0.out); rintro e w7 ⟨v439, rfl, ho0, hb⟩; refine ⟨_, rfl, ?_⟩; have n0_ := am (Kd.N_below (by (with_reducible repeat (first | apply Kd.N_alloc | apply Kd.N_drewN | apply Kd.N_drew)); exact HO_3.out) hb); have n1_ := am (Kd.V_lower (Kd.V_mono (ok' := fun k_ => (w.heap.size ≤ k_) ∧ some k_ ≠ (u3 : Value).ownBlock) ho0 (fun k_ hk_ => ⟨(Nat.le_trans (below_size (Bz HB.out)) hk_), (Kd.fresh' (Kd.N_lt (by (with_reducible repeat (first | apply Kd.N_alloc | apply Kd.N_drewN | apply Kd.N_drew)); exact HO_3.out)) k_ hk_)⟩)) (below_size (Bz HB.out))); have n2_ := Bb HB hb; clear HO_3 HB; revert n0_ n1_ n2_; intro HO_3 HO440 HB; (try clear hb); (try clear hb2); (try clear hk); (try clear hi); (try clear ho0); obtain ⟨Ao8, co8, eo8⟩ := Kd.V_slice HO440.out; subst eo8; have p441 : 0 ≤ (0 : Int) := (by omega); have q441 : 0 < (t438.length : Int) := dT; obtain ⟨ad441, e441, hx441_0⟩ := Kd.at_int (Kd.V_reads' HO440.out).2.2 0 p441 q441; cases e441; have qi441 : (0 < t438.length) = True := eq_true (by omega); (try rw [show ((0 : Int)).toNat = 0 from rfl] at hx441_0); (try rw [Addr.add_zero'] at hx441_0); replace p441 := eq_true p441; replace q441 := eq_true q441) | ((with_reducible refine gate_builtin (b := .append) (xs := #[.tmp 19, .tmp 21]) rfl ?_); at_builtin; refine Kd.N_append (Kd.slice 3 (Kd.int .i64)) (w0 := w) w.heap.size rfl (.tmp 19) (.tmp 21) 27 31 (.slice none 0 0) 24 rfl Try.underlying27 info31 rfl (by decide) (by omega) u3 x3_1 t438 [.slice (some ad441) t438.length co8] (fun k_ => (w.heap.size ≤ k_)) (fun k_ => ((fun k_ => (w.heap.size ≤ k_))) k_ ∧ some k_ ≠ (u3 : Value).ownBlock) rfl rfl ?aP (fun _ hk => hk) ?aF ?aO ?aB ?aS ?aL ?_; (case aP => exact (Kd.FK_slice_mk (Kd.V_reads' (Kd.V_mono (ok' := (fun k_ => ((fun k_ => (w.heap.size ≤ k_))) k_ ∧ some k_ ≠ (u3 : Value).ownBlock)) (HO440.out) (fun k_ hk => ⟨hk.1, hk.2⟩))).2.1 (Kd.V_F (Kd.V_mono (ok' := (fun k_ => ((fun k_ => (w.heap.size ≤ k_))) k_ ∧ some k_ ≠ (u3 : Value).ownBlock)) (HO440.out) (fun k_ hk => ⟨hk.1, hk.2⟩))))); (case aB => exact (Bz HB.out)); (case aF => exact (fun k_ hk => (Nat.le_trans (below_size (Bz HB.out)) hk))); (case aO => exact (by (with_reducible repeat (first | apply Kd.N_alloc | apply Kd.N_drewN | apply Kd.N_drew)); exact HO_3.out)); (case aS => exact (below_size (Bz HB.out))); (case aL => have := LMc6.out; omega); intro v443 w9 ho hb hg hat; rw [← Ny442.out] at ho; have n0_ := am (Kd.V_afterv (ok := (fun k_ => (w.heap.size ≤ k_))) (by (with_reducible repeat (first | apply Kd.V_alloc | apply Kd.V_drewN | apply Kd.V_drew)); exact HO440.out) hg hat); have n1_ := am (hb); have n2_ := am (ho); clear HO440 HB HO_3; revert n0_ n1_ n2_; intro HO440 HB HO444; clear ho hb hg hat))
              go_roundg k1
              case measure => have := HK1.out; omega
              case rel => exact ⟨(y442), (wrap64 (x8_1 + 1)), wZ, H', ⟨by have := HK1.out; omega⟩, ⟨by (with_reducible repeat (first | apply Kd.N_alloc | apply Kd.N_drewN | apply Kd.N_drew)); exact HO444.out⟩, ⟨Bz HB.out⟩⟩
            · rw [if_neg c6] at H
              exact absurd H (by simp)
          · rw [if_neg c5] at H
            have c5b0 : ((rd t438 0) == x8_1) = false := beq_eq_false_iff_ne.mpr c5; have c5b1 : ((rd t438 0) != x8_1) = true := bne_iff_ne.mpr c5; have H' := am H; clear H
            go_wp2_with (first | ((with_reducible refine gate_callee (f := 124) rfl ?_); refine gL (some 13) Try.func124 #[.slice A0 l0.length c0, .int .i64 x8_1] ?_; (with_reducible refine (spec_cuGroup.calls k1 _ _ l0 x8_1 t438 _ ?side1 ?side2 A3.out).mono ?_); (case side1 => exact Cz (Kd.C_below HR0.out HB.out)); (case side2 => exact HC0.out); rintro e w10 ⟨v439, rfl, ho0, hb⟩; refine ⟨_, rfl, ?_⟩; have n0_ := am (Kd.N_below (by (with_reducible repeat (first | apply Kd.N_alloc | apply Kd.N_drewN | apply Kd.N_drew)); exact HO_3.out) hb); have n1_ := am (Kd.V_lower (Kd.V_mono (ok' := fun k_ => (w.heap.size ≤ k_) ∧ some k_ ≠ (u3 : Value).ownBlock) ho0 (fun k_ hk_ => ⟨(Nat.le_trans (below_size (Bz HB.out)) hk_), (Kd.fresh' (Kd.N_lt (by (with_reducible repeat (first | apply Kd.N_alloc | apply Kd.N_drewN | apply Kd.N_drew)); exact HO_3.out)) k_ hk_)⟩)) (below_size (Bz HB.out))); have n2_ := Bb HB hb; clear HO_3 HB; revert n0_ n1_ n2_; intro HO_3 HO440 HB; (try clear hb); (try clear hb2); (try clear hk); (try clear hi); (try clear ho0); obtain ⟨Ao11, co11, eo11⟩ := Kd.V_slice HO440.out; subst eo11; have p441 : 0 ≤ (0 : Int) := (by omega); have q441 : 0 < (t438.length : Int) := dT; obtain ⟨ad441, e441, hx441_0⟩ := Kd.at_int (Kd.V_reads' HO440.out).2.2 0 p441 q441; cases e441; have qi441 : (0 < t438.length) = True := eq_true (by omega); (try rw [show ((0 : Int)).toNat = 0 from rfl] at hx441_0); (try rw [Addr.add_zero'] at hx441_0); replace p441 := eq_true p441; replace q441 := eq_true q441))
            go_roundg k1
            case measure => have := HK1.out; omega
            case rel => exact ⟨(x3_1), (wrap64 (x8_1 + 1)), wZ, H', ⟨by have := HK1.out; omega⟩, ⟨by (with_reducible repeat (first | apply Kd.N_alloc | apply Kd.N_drewN | apply Kd.N_drew)); exact HO_3.out⟩, ⟨Bz HB.out⟩⟩
        · rw [if_neg c4] at H
          exact absurd H (by simp)
      · rw [if_neg c2] at H
        have c2b0 : decide (x8_1 < (l0.length : Int)) = false := decide_eq_false c2; clear c2; obtain rfl := Option.some.inj H
        go_wp2
        go_ret
        exact ⟨_, eZ, by (with_reducible repeat (first | apply Kd.N_alloc | apply Kd.N_drewN | apply Kd.N_drew)); exact HO_3.out, Bz HB.out⟩

def spec_biHash.l0 : Nat → ByteArray → Int → Int → Option (Int)
  | 0, _, _, _ => none
  | k + 1, x2, x7, x8 => if x8 < (x2.size : Int) then (if 0 ≤ x8 then (spec_biHash.l0 k x2 (Int.tmod (wrap64 ((wrap64 (263 * x7)) + (wrap64 (bt x2 x8)))) 65521) (wrap64 (x8 + 1))) else (none)) else (some (Int.tmod (wrap64 ((Int.tmod (wrap64 ((Int.tmod (wrap64 ((Int.tmod (wrap64 ((Int.tmod (wrap64 (x7 * x7)) 65521) * (Int.tmod (wrap64 (x7 * x7)) 65521))) 65521) * x7)) 65521) * (Int.tmod (wrap64 ((Int.tmod (wrap64 ((Int.tmod (wrap64 (x7 * x7)) 65521) * (Int.tmod (wrap64 (x7 * x7)) 65521))) 65521) * x7)) 65521))) 65521) * x7)) 65521))
def spec_biHash.f (k : Nat) (a0 : Int) (a1 : Int) (a2 : ByteArray) : Option (Int) := spec_biHash.l0 k a2 (Int.tmod (wrap64 ((wrap64 ((wrap64 (31 * a0)) + (wrap64 (977 * a1)))) + 7)) 65521) 0
theorem spec_biHash.calls (k : Nat) (a0 : Int) (a1 : Int) (a2 : ByteArray) (r : Int) (w : World) (h : spec_biHash.f k a0 a1 a2 = some r) :
    Calls Try.prog 166 #[.int .i64 a0, .int .i64 a1, .string a2] w fun e w' => e = .returned (.int .i64 r) ∧ Drawn0 w w' := by
  have H : (spec_biHash.l0 k a2 (Int.tmod (wrap64 ((wrap64 ((wrap64 (31 * a0)) + (wrap64 (977 * a1)))) + 7)) 65521) 0) = some r := h; clear h; have H' := am H; clear H
  go_enter Try.func166, Try.ntmps166
  go_wp2
  go_loopg [7, 8] k (fun kq v7 v8 w' => ∃ (x7_1 : Int) (x8_1 : Int), v7 = .int .i64 x7_1 ∧ v8 = .int .i64 x8_1 ∧ Aside0 (spec_biHash.l0 kq a2 x7_1 x8_1 = some r) ∧ Aside0 (kq ≤ k) ∧ Drawn0 w w')
  case atStart => exact ⟨(Int.tmod (wrap64 ((wrap64 ((wrap64 (31 * a0)) + (wrap64 (977 * a1)))) + 7)) 65521), (0), wZ, wZ, H', ⟨Nat.le_refl _⟩, by repeat (first | exact Drawn0.refl _ | apply Drawn0.step)⟩
  case round =>
    clear H'
    try clear c1
    try clear p2
    obtain ⟨x7_1, x8_1, rfl, rfl, HA, HK1, ⟨m1, rfl⟩⟩ := hrel; cases gk with
    | zero => exact absurd HA.out (by simp [spec_biHash.l0])
    | succ k1 =>
      have H := HA.out; clear HA
      simp only [spec_biHash.l0] at H
      by_cases c4 : x8_1 < (a2.size : Int)
      · rw [if_pos c4] at H
        have c4b0 : decide (x8_1 < (a2.size : Int)) = true := decide_eq_true c4; clear c4
        by_cases c5 : 0 ≤ x8_1
        · rw [if_pos c5] at H
          have c5b0 : decide (0 ≤ x8_1) = true := decide_eq_true c5; clear c5; have H' := am H; clear H; have p6 : 0 ≤ (x8_1 : Int) := dT; have q6 : x8_1 < (a2.size : Int) := dT; have hx6 := bt_at a2 x8_1; replace p6 := eq_true p6; replace q6 := eq_true q6
          go_wp2
          go_roundg k1
          case measure => have := HK1.out; omega
          case rel => exact ⟨(Int.tmod (wrap64 ((wrap64 (263 * x7_1)) + (wrap64 (bt a2 x8_1)))) 65521), (wrap64 (x8_1 + 1)), wZ, wZ, H', ⟨by have := HK1.out; omega⟩, by repeat (first | exact Drawn0.refl _ | apply Drawn0.step)⟩
        · rw [if_neg c5] at H
          exact absurd H (by simp)
      · rw [if_neg c4] at H
        have c4b0 : decide (x8_1 < (a2.size : Int)) = false := decide_eq_false c4; clear c4; obtain rfl := Option.some.inj H
        go_wp2
        go_ret
        exact ⟨by first | rfl | (simp; done) | (simp [*]; done), by repeat (first | exact Drawn0.refl _ | apply Drawn0.step)⟩

def spec_biPlace.f (k : Nat) (a0 : Int) (a1 : Int) (a2 : ByteArray) (a3 : Int) : Option (Int) := (spec_biHash.f k a0 a1 a2).bind fun t445 => (some (wrap64 (Int.tdiv (wrap64 (t445 * a3)) 65521)))
theorem spec_biPlace.calls (k : Nat) (a0 : Int) (a1 : Int) (a2 : ByteArray) (a3 : Int) (r : Int) (w : World) (h : spec_biPlace.f k a0 a1 a2 a3 = some r) :
    Calls Try.prog 149 #[.int .i64 a0, .int .i64 a1, .string a2, .int .i64 a3] w fun e w' => e = .returned (.int .i64 r) ∧ Drawn0 w w' := by
  have H : ((spec_biHash.f k a0 a1 a2).bind fun t445 => (some (wrap64 (Int.tdiv (wrap64 (t445 * a3)) 65521)))) = some r := h; clear h; replace H := Option.bind_eq_some_iff.mp H; obtain ⟨t445, A50, H⟩ := H; (try dsimp -simprocs only at H); have A5 := am A50; clear A50; obtain rfl := Option.some.inj H
  go_enter Try.func149, Try.ntmps149
  go_wp2_with (first | ((with_reducible refine gate_callee (f := 166) rfl ?_); refine gL (some 12) Try.func166 #[.int .i64 a0, .int .i64 a1, .string a2] ?_; (with_reducible refine (spec_biHash.calls k a0 a1 a2 t445 _ A5.out).mono ?_); rintro e w' ⟨rfl, ⟨nd, rfl⟩⟩; refine ⟨_, rfl, ?_⟩))
  go_ret
  exact ⟨by first | rfl | (simp; done) | (simp [*]; done), by repeat (first | exact Drawn0.refl _ | apply Drawn0.step)⟩

def spec_cuCells.f (k : Nat) (a0 : Int) (a1 : ByteArray) (a2 : Int) : Option (List Int) := (spec_biPlace.f k a0 0 a1 a2).bind fun t446 => ((spec_biPlace.f k a0 1 a1 a2).bind fun t447 => (some (([t446, t447] : List Int))))
theorem spec_cuCells.calls (k : Nat) (a0 : Int) (a1 : ByteArray) (a2 : Int) (r : List Int) (w : World) (h : spec_cuCells.f k a0 a1 a2 = some r) :
    Calls Try.prog 125 #[.int .i64 a0, .string a1, .int .i64 a2] w fun e w' => ∃ v0_ : Value, e = .returned (v0_) ∧ Kd.R (Kd.int .i64) 3 w' w.heap.size (fun _ => True) v0_ r ∧ Below w.heap.size w w' := by
  have HB := am (Below.refl w.heap.size w); have H : ((spec_biPlace.f k a0 0 a1 a2).bind fun t446 => ((spec_biPlace.f k a0 1 a1 a2).bind fun t447 => (some (([t446, t447] : List Int))))) = some r := h; clear h; replace H := Option.bind_eq_some_iff.mp H; obtain ⟨t446, A40, H⟩ := H; (try dsimp -simprocs only at H); have A4 := am A40; clear A40; replace H := Option.bind_eq_some_iff.mp H; obtain ⟨t447, A50, H⟩ := H; (try dsimp -simprocs only at H); have A5 := am A50; clear A50; obtain ⟨y448, hy448⟩ : ∃ y_ : List Int, y_ = (([t446, t447] : List Int)) := ⟨_, rfl⟩
  replace H : (some y448) = some r := by first | (rw [hy448]; with_reducible exact H) | (have H2_ := (Option.bind_some _ _).symm.trans H; rw [hy448]; with_reducible exact H2_) | (have H2_ := (Option.bind_some _ _).symm.trans H; with_reducible exact H2_) | with_reducible exact H | (rw [hy448]; exact H) | exact H
  have Ny448 := am hy448; clear hy448; obtain rfl := Option.some.inj H
  go_enter Try.func125, Try.ntmps125
  go_wp2_with (first | ((with_reducible refine gate_callee (f := 149) rfl ?_); refine gL (some 10) Try.func149 #[.int .i64 a0, .int .i64 0, .string a1, .int .i64 a2] ?_; (with_reducible refine (spec_biPlace.calls k a0 0 a1 a2 t446 _ A4.out).mono ?_); rintro e w' ⟨rfl, ⟨nd, rfl⟩⟩; refine ⟨_, rfl, ?_⟩) | ((with_reducible refine gate_callee (f := 149) rfl ?_); refine gL (some 14) Try.func149 #[.int .i64 a0, .int .i64 1, .string a1, .int .i64 a2] ?_; (with_reducible refine (spec_biPlace.calls k a0 1 a1 a2 t447 _ A5.out).mono ?_); rintro e w' ⟨rfl, ⟨nd, rfl⟩⟩; refine ⟨_, rfl, ?_⟩) | ((with_reducible refine gate_dst (N := 15) rfl ?_); refine Kd.R_lit (Kd.int .i64) _ 3 ?hg (N := 15) ?hd (xs := ([t446, t447] : List Int)) (inner := [.int .i64 t446, .int .i64 t447]) (ok := fun _ => True) (okp := fun _ => True) ?hr ?hp (fun _ hk => hk) trivial (Below.refl _ _) (Nat.le_refl _) (by simp) ?_; (case hd => rfl); (case hg => rfl); (case hr => first | (go_simp; done) | (go_simp; rfl)); (case hp => exact (Reps.one (show Kd.M (Kd.int .i64) _ _ _ t446 [.int .i64 t446] from rfl) (Reps.one (show Kd.M (Kd.int .i64) _ _ _ t447 [.int .i64 t447] from rfl) (Reps.none _ _)))); intro v449 w6 ho7 hb hg_ hnew_; clear hg_ hnew_; (first | rw [← Ny448.out] at ho7 | (simp only [Int.reduceToNat] at ho7; rw [← Ny448.out] at ho7)); have n0_ := Rl ho7 HB; have n1_ := Bb HB hb; clear HB; revert n0_ n1_; intro HO450 HB; clear hb ho7))
  go_ret
  exact ⟨_, eZ, Rz HO450.out, Bz HB.out⟩

def spec_cuPairs.l0 : Nat → Int → Int → List (List Int) → List ByteArray → Int → Int → Option ((List (List Int)))
  | 0, _, _, _, _, _, _ => none
  | k + 1, x0, x2, x7, x10, x11, x12 => if x12 < x11 then (if 0 ≤ x12 then (if x12 < (x10.length : Int) then ((spec_cuCells.f k x0 (rdOf ByteArray.empty x10 x12) x2).bind fun t452 => (if x7.length < 5864062014805 then (spec_cuPairs.l0 k x0 x2 (x7 ++ [t452]) x10 x11 (wrap64 (x12 + 1))) else (none))) else (none)) else (none)) else (some x7)
def spec_cuPairs.f (k : Nat) (a0 : Int) (l1 : List ByteArray) (a2 : Int) : Option ((List (List Int))) := spec_cuPairs.l0 k a0 a2 ([] : List (List Int)) l1 (l1.length : Int) 0
theorem spec_cuPairs.calls (k : Nat) (a0 : Int) (A1 : Option Addr) (c1 : Nat) (l1 : List ByteArray) (a2 : Int) (r : List (List Int)) (w : World) (hr1 : Kd.C Kd.string w A1 l1.length l1) (hc1 : l1.length ≤ c1) (h : spec_cuPairs.f k a0 l1 a2 = some r) :
    Calls Try.prog 64 #[.int .i64 a0, .slice A1 l1.length c1, .int .i64 a2] w fun e w' => ∃ v0_ : Value, e = .returned (v0_) ∧ Kd.S (Kd.slice 3 (Kd.int .i64)) 31 w' w.heap.size (fun _ => True) v0_ r ∧ Below w.heap.size w w' := by
  have HR1 := am hr1; have HC1 := am hc1; clear hr1 hc1; have HB := am (Below.refl w.heap.size w); have H : (spec_cuPairs.l0 k a0 a2 ([] : List (List Int)) l1 (l1.length : Int) 0) = some r := h; clear h; have H' := am H; clear H
  go_enter Try.func64, Try.ntmps64
  go_wp2
  go_loopg [7, 12] k (fun kq v7 v12 w' => ∃ (x7_1 : List (List Int)) (x12_1 : Int), v12 = .int .i64 x12_1 ∧ Aside0 (spec_cuPairs.l0 kq a0 a2 x7_1 l1 (l1.length : Int) x12_1 = some r) ∧ Aside0 (kq ≤ k) ∧ Aside0 (Kd.S (Kd.slice 3 (Kd.int .i64)) 31 w' w.heap.size (fun _ => True) v7 x7_1) ∧ Aside0 (Below w.heap.size w w'))
  case atStart => exact ⟨(([] : List (List Int))), (0), wZ, H', ⟨Nat.le_refl _⟩, ⟨by first | exact Kd.S_nil _ _ _ _ _ | exact Kd.N_nil _ _ _ _ _ | exact Kd.V_nil _ _ _ _ _ | exact Kd.Q_nil _ _ _ _ _ | exact Kd.R_nil _ _ _ _ _⟩, ⟨Bz HB.out⟩⟩
  case round =>
    clear H'
    try clear c1
    try clear p2
    obtain ⟨x7_1, x12_1, rfl, HA, HK1, HO_7, HB⟩ := hrel; cases gk with
    | zero => exact absurd HA.out (by simp [spec_cuPairs.l0])
    | succ k1 =>
      have H := HA.out; clear HA
      simp only [spec_cuPairs.l0] at H
      by_cases c4 : x12_1 < (l1.length : Int)
      · rw [if_pos c4] at H
        have c4b0 : decide (x12_1 < (l1.length : Int)) = true := decide_eq_true c4; clear c4
        by_cases c5 : 0 ≤ x12_1
        · rw [if_pos c5] at H
          have c5b0 : decide (0 ≤ x12_1) = true := decide_eq_true c5; clear c5
          by_cases c6 : x12_1 < (l1.length : Int)
          · rw [if_pos c6] at H
            have c6b0 : decide (x12_1 < (l1.length : Int)) = true := decide_eq_true c6; clear c6; replace H := Option.bind_eq_some_iff.mp H; obtain ⟨t452, A70, H⟩ := H; (try dsimp -simprocs only at H); have A7 := am A70; clear A70
            by_cases c8 : x7_1.length < 5864062014805
            · rw [if_pos c8] at H
              have LMc8 := am c8; clear c8; obtain ⟨y455, hy455⟩ : ∃ y_ : List (List Int), y_ = (x7_1 ++ [t452]) := ⟨_, rfl⟩
              replace H : (spec_cuPairs.l0 k1 a0 a2 y455 l1 (l1.length : Int) (wrap64 (x12_1 + 1))) = some r := by first | (rw [hy455]; with_reducible exact H) | (have H2_ := (Option.bind_some _ _).symm.trans H; rw [hy455]; with_reducible exact H2_) | (have H2_ := (Option.bind_some _ _).symm.trans H; with_reducible exact H2_) | with_reducible exact H | (rw [hy455]; exact H) | exact H
              have Ny455 := am hy455; clear hy455; have H' := am H; clear H; have p451 : 0 ≤ (x12_1 : Int) := dT; have q451 : x12_1 < (l1.length : Int) := dT; obtain ⟨ad451, e451, hx451_0⟩ := Kd.at_string HR1.out x12_1 p451 q451; cases e451; replace hx451_0 := (HB.out.cell (World.block_lt_of_cell? w _ hx451_0)).trans hx451_0; replace p451 := eq_true p451; replace q451 := eq_true q451
              go_wp2_with (first | ((with_reducible refine gate_callee (f := 125) rfl ?_); refine gL (some 20) Try.func125 #[.int .i64 a0, .string (rdOf ByteArray.empty l1 x12_1), .int .i64 a2] ?_; (with_reducible refine (spec_cuCells.calls k1 a0 (rdOf ByteArray.empty l1 x12_1) a2 t452 _ A7.out).mono ?_); rintro e w9 ⟨v453, rfl, ho0, hb⟩; refine ⟨_, rfl, ?_⟩; have n0_ := am (Kd.S_elder' (by (with_reducible repeat (first | apply Kd.S_alloc | apply Kd.S_drewN | apply Kd.S_drew)); exact HO_7.out) (Kd.R_base ho0) hb); have n1_ := Rl ho0 HB; have n2_ := Bb HB hb; clear HO_7 HB; revert n0_ n1_ n2_; intro HO_7 HO454 HB; (try clear hb); (try clear hb2); (try clear hk); (try clear hi); (try clear ho0); obtain ⟨Ao11, co11, eo11⟩ := Kd.R_slice HO454.out; subst eo11) | ((with_reducible refine gate_builtin (b := .append) (xs := #[.tmp 16, .tmp 21]) rfl ?_); at_builtin; refine Kd.S_append (Kd.slice 3 (Kd.int .i64)) (w0 := w) w.heap.size rfl (.tmp 16) (.tmp 21) 27 31 (.slice none 0 0) 24 rfl Try.underlying27 info31 rfl (by decide) (by omega) u7 x7_1 t452 [.slice Ao11 t452.length co11] (fun _ => True) (fun k_ => some k_ = (.slice Ao11 t452.length co11 : Value).ownBlock) rfl rfl ?aP (fun k_ hk_ => ((Kd.R_mono (ok' := fun k_ => ((fun _ => True)) k_ ∧ some k_ ≠ (u7 : Value).ownBlock) (Kd.R_apart' (HO454.out) (Kd.S_typed HO_7.out) (by decide)) (fun k_ hk => ⟨trivial, hk.2⟩))).1 k_ hk_.symm) ?aF ?aO ?aB ?aS ?aL ?_; (case aP => exact Kd.M_row (Kd.R_mono (Kd.R_tight rfl (Kd.R_mono (ok' := fun k_ => ((fun _ => True)) k_ ∧ some k_ ≠ (u7 : Value).ownBlock) (Kd.R_apart' (HO454.out) (Kd.S_typed HO_7.out) (by decide)) (fun k_ hk => ⟨trivial, hk.2⟩))) (fun _ h_ => h_))); (case aB => exact (Bz HB.out)); (case aF => exact (fun _ _ => trivial)); (case aO => exact (by (with_reducible repeat (first | apply Kd.S_alloc | apply Kd.S_drewN | apply Kd.S_drew)); exact Kd.S_mono HO_7.out (fun k_ hk => ⟨trivial, fun e_ => hk.2 e_⟩))); (case aS => exact (below_size (Bz HB.out))); (case aL => have := LMc8.out; omega); intro v456 w10 ho hb hg hat; rw [← Ny455.out] at ho; have n0_ := am (hb); have n1_ := am (ho); clear HB HO_7 HO454; revert n0_ n1_; intro HB HO457; clear ho hb hg hat))
              go_roundg k1
              case measure => have := HK1.out; omega
              case rel => exact ⟨(y455), (wrap64 (x12_1 + 1)), wZ, H', ⟨by have := HK1.out; omega⟩, ⟨by (with_reducible repeat (first | apply Kd.S_alloc | apply Kd.S_drewN | apply Kd.S_drew)); exact HO457.out⟩, ⟨Bz HB.out⟩⟩
            · rw [if_neg c8] at H
              exact absurd H (by simp)
          · rw [if_neg c6] at H
            exact absurd H (by simp)
        · rw [if_neg c5] at H
          exact absurd H (by simp)
      · rw [if_neg c4] at H
        have c4b0 : decide (x12_1 < (l1.length : Int)) = false := decide_eq_false c4; clear c4; obtain rfl := Option.some.inj H
        go_wp2
        go_ret
        exact ⟨_, eZ, by (with_reducible repeat (first | apply Kd.S_alloc | apply Kd.S_drewN | apply Kd.S_drew)); exact HO_7.out, Bz HB.out⟩

def spec_KeyGroups.f (k : Nat) (a0 : Int) (l1 : List ByteArray) (a2 : Int) : Option ((List (List Int)) × Bool) := (spec_cuKeyed.f k a0 l1 a2).bind fun t458 => (if t458 = true then ((spec_cuPairs.f k a0 l1 a2).bind fun t459 => ((spec_cuGroups.f k t459).bind fun t462 => (some (t462, true)))) else (some (([] : List (List Int)), false)))
theorem spec_KeyGroups.calls (k : Nat) (a0 : Int) (A1 : Option Addr) (c1 : Nat) (l1 : List ByteArray) (a2 : Int) (r1 : List (List Int)) (r2 : Bool) (w : World) (hr1 : Kd.C Kd.string w A1 l1.length l1) (hc1 : l1.length ≤ c1) (h : spec_KeyGroups.f k a0 l1 a2 = some (r1, r2)) :
    Calls Try.prog 14 #[.int .i64 a0, .slice A1 l1.length c1, .int .i64 a2] w fun e w' => ∃ v0_ : Value, e = .returned (.tuple #[v0_, .bool r2]) ∧ Kd.N (Kd.slice 3 (Kd.int .i64)) 31 w' w.heap.size (fun k_ => (w.heap.size ≤ k_)) v0_ r1 ∧ Below w.heap.size w w' := by
  have HR1 := am hr1; have HC1 := am hc1; clear hr1 hc1; have HB := am (Below.refl w.heap.size w); have H : ((spec_cuKeyed.f k a0 l1 a2).bind fun t458 => (if t458 = true then ((spec_cuPairs.f k a0 l1 a2).bind fun t459 => ((spec_cuGroups.f k t459).bind fun t462 => (some (t462, true)))) else (some (([] : List (List Int)), false)))) = some (r1, r2) := h; clear h; replace H := Option.bind_eq_some_iff.mp H; obtain ⟨t458, A40, H⟩ := H; (try dsimp -simprocs only at H); have A4 := am A40; clear A40
  by_cases c5 : t458 = true
  · subst c5
    rw [if_pos rfl] at H; replace H := Option.bind_eq_some_iff.mp H; obtain ⟨t459, A60, H⟩ := H; (try dsimp -simprocs only at H); have A6 := am A60; clear A60; replace H := Option.bind_eq_some_iff.mp H; obtain ⟨t462, A70, H⟩ := H; (try dsimp -simprocs only at H); have A7 := am A70; clear A70
    simp only [Option.some.injEq, Prod.mk.injEq] at H
    obtain ⟨rfl, rfl⟩ := H
    go_enter Try.func14, Try.ntmps14
    go_wp2_with (first | ((with_reducible refine gate_callee (f := 62) rfl ?_); refine gL (some 11) Try.func62 #[.int .i64 a0, .slice A1 l1.length c1, .int .i64 a2] ?_; (with_reducible refine (spec_cuKeyed.calls k a0 _ _ l1 a2 true _ ?side1 ?side2 A4.out).mono ?_); (case side1 => exact Cz HR1.out); (case side2 => exact HC1.out); rintro e w' ⟨rfl, ⟨nd, rfl⟩⟩; refine ⟨_, rfl, ?_⟩) | ((with_reducible refine gate_callee (f := 64) rfl ?_); refine gL (some 16) Try.func64 #[.int .i64 a0, .slice A1 l1.length c1, .int .i64 a2] ?_; (with_reducible refine (spec_cuPairs.calls k a0 _ _ l1 a2 t459 _ ?side1 ?side2 A6.out).mono ?_); (case side1 => exact Cz HR1.out); (case side2 => exact HC1.out); rintro e w8 ⟨v460, rfl, ho0, hb⟩; refine ⟨_, rfl, ?_⟩; have n0_ := am (Kd.N_lower (Kd.N_mono (ok' := fun k_ => (w.heap.size ≤ k_)) (Kd.S_N (Kd.S_bound ho0)) (fun k_ hk_ => (Nat.le_trans (below_size (Bz HB.out)) hk_.2.1))) (below_size (Bz HB.out))); have n1_ := Bb HB hb; clear HB; revert n0_ n1_; intro HO461 HB; (try clear hb); (try clear hb2); (try clear hk); (try clear hi); (try clear ho0); obtain ⟨Ao9, co9, eo9⟩ := Kd.N_slice HO461.out; subst eo9) | ((with_reducible refine gate_callee (f := 63) rfl ?_); refine gL (some 17) Try.func63 #[.slice Ao9 t459.length co9] ?_; (with_reducible refine (spec_cuGroups.calls k _ _ t459 t462 _ ?side1 ?side2 A7.out).mono ?_); (case side1 => exact Cz ((Kd.N_reads' HO461.out).2.2)); (case side2 => exact (Kd.N_reads' HO461.out).2.1); rintro e w10 ⟨v463, rfl, ho0, hb⟩; refine ⟨_, rfl, ?_⟩; have n0_ := am (Kd.N_elder' (by (with_reducible repeat (first | apply Kd.N_alloc | apply Kd.N_drewN | apply Kd.N_drew)); exact HO461.out) (Kd.N_base ho0) hb); have n1_ := am (Kd.N_lower (Kd.N_mono (ok' := fun k_ => (w.heap.size ≤ k_) ∧ some k_ ≠ (.slice Ao9 t459.length co9 : Value).ownBlock) ho0 (fun k_ hk_ => ⟨(Nat.le_trans (below_size (Bz HB.out)) hk_), (Kd.fresh' (Kd.N_lt (by (with_reducible repeat (first | apply Kd.N_alloc | apply Kd.N_drewN | apply Kd.N_drew)); exact HO461.out)) k_ hk_)⟩)) (below_size (Bz HB.out))); have n2_ := Bb HB hb; clear HO461 HB; revert n0_ n1_ n2_; intro HO461 HO464 HB; (try clear hb); (try clear hb2); (try clear hk); (try clear hi); (try clear ho0)))
    go_ret2
    exact ⟨_, eZ, by (with_reducible repeat (first | apply Kd.N_alloc | apply Kd.N_drewN | apply Kd.N_drew)); exact Kd.N_mono HO464.out (fun _ hk => hk.1), Bz HB.out⟩
  · replace c5 := Bool.eq_false_iff.mpr c5
    subst c5
    rw [if_neg (show ¬ (false = true) by decide)] at H
    simp only [Option.some.injEq, Prod.mk.injEq] at H
    obtain ⟨rfl, rfl⟩ := H
    go_enter Try.func14, Try.ntmps14
    go_wp2_with (first | ((with_reducible refine gate_callee (f := 62) rfl ?_); refine gL (some 11) Try.func62 #[.int .i64 a0, .slice A1 l1.length c1, .int .i64 a2] ?_; (with_reducible refine (spec_cuKeyed.calls k a0 _ _ l1 a2 false _ ?side1 ?side2 A4.out).mono ?_); (case side1 => exact Cz HR1.out); (case side2 => exact HC1.out); rintro e w' ⟨rfl, ⟨nd, rfl⟩⟩; refine ⟨_, rfl, ?_⟩))
    go_ret2
    exact ⟨_, eZ, by first | exact Kd.S_nil _ _ _ _ _ | exact Kd.N_nil _ _ _ _ _ | exact Kd.V_nil _ _ _ _ _ | exact Kd.Q_nil _ _ _ _ _ | exact Kd.R_nil _ _ _ _ _, Bz HB.out⟩

def laws_pSameInts.l0 : Nat → List Int → List Int → Int → Int → Option (Bool)
  | 0, _, _, _, _ => none
  | k + 1, x0, x1, x12, x13 => if x13 < x12 then (if 0 ≤ x13 then (if x13 < (x0.length : Int) then (if x13 < (x1.length : Int) then (if (rd x0 x13) = (rd x1 x13) then (laws_pSameInts.l0 k x0 x1 x12 (wrap64 (x13 + 1))) else (some false)) else (none)) else (none)) else (none)) else (some true)
def laws_pSameInts.f (k : Nat) (l0 : List Int) (l1 : List Int) : Option (Bool) := if (l0.length : Int) = (l1.length : Int) then (laws_pSameInts.l0 k l0 l1 (l0.length : Int) 0) else (some false)
theorem laws_pSameInts.calls (k : Nat) (A0 : Option Addr) (c0 : Nat) (l0 : List Int) (A1 : Option Addr) (c1 : Nat) (l1 : List Int) (r : Bool) (w : World) (hr0 : Kd.C (Kd.int .i64) w A0 l0.length l0) (hc0 : l0.length ≤ c0) (hr1 : Kd.C (Kd.int .i64) w A1 l1.length l1) (hc1 : l1.length ≤ c1) (h : laws_pSameInts.f k l0 l1 = some r) :
    Calls Try.prog 30 #[.slice A0 l0.length c0, .slice A1 l1.length c1] w fun e w' => e = .returned (.bool r) ∧ Drawn0 w w' := by
  have HR0 := am hr0; have HC0 := am hc0; clear hr0 hc0; have HR1 := am hr1; have HC1 := am hc1; clear hr1 hc1; have H : (if (l0.length : Int) = (l1.length : Int) then (laws_pSameInts.l0 k l0 l1 (l0.length : Int) 0) else (some false)) = some r := h; clear h
  by_cases c3 : (l0.length : Int) = (l1.length : Int)
  · rw [if_pos c3] at H
    have c3b0 : ((l0.length : Int) == (l1.length : Int)) = true := beq_iff_eq.mpr c3; have c3b1 : ((l0.length : Int) != (l1.length : Int)) = false := bne_eq_false_iff_eq.mpr c3
    have c3b2 : (l0.length == l1.length) = true := by first | simpa using c3 | (simp at c3 ⊢; omega)
    clear c3; have H' := am H; clear H
    go_enter Try.func30, Try.ntmps30
    go_wp2
    repeat (go_quiet (fail); try go_wp2)
    go_loopg [13] k (fun kq v13 w' => ∃ (x13_1 : Int), v13 = .int .i64 x13_1 ∧ Aside0 (laws_pSameInts.l0 kq l0 l1 (l0.length : Int) x13_1 = some r) ∧ Aside0 (kq ≤ k) ∧ Drawn0 w w')
    case atStart => exact ⟨(0), wZ, H', ⟨Nat.le_refl _⟩, by repeat (first | exact Drawn0.refl _ | apply Drawn0.step)⟩
    case round =>
      clear H'
      try clear c1
      try clear p2
      try clear c3
      try clear c3b0
      try clear c3b1
      try clear c3b2
      obtain ⟨x13_1, rfl, HA, HK1, ⟨m1, rfl⟩⟩ := hrel; cases gk with
      | zero => exact absurd HA.out (by simp [laws_pSameInts.l0])
      | succ k1 =>
        have H := HA.out; clear HA
        simp only [laws_pSameInts.l0] at H
        by_cases c4 : x13_1 < (l0.length : Int)
        · rw [if_pos c4] at H
          have c4b0 : decide (x13_1 < (l0.length : Int)) = true := decide_eq_true c4; clear c4
          by_cases c5 : 0 ≤ x13_1
          · rw [if_pos c5] at H
            have c5b0 : decide (0 ≤ x13_1) = true := decide_eq_true c5; clear c5
            by_cases c6 : x13_1 < (l0.length : Int)
            · rw [if_pos c6] at H
              have c6b0 : decide (x13_1 < (l0.length : Int)) = true := decide_eq_true c6; clear c6
              by_cases c7 : x13_1 < (l1.length : Int)
              · rw [if_pos c7] at H
                have c7b0 : decide (x13_1 < (l1.length : Int)) = true := decide_eq_true c7; clear c7
                by_cases c8 : (rd l0 x13_1) = (rd l1 x13_1)
                · rw [if_pos c8] at H
                  have c8b0 : ((rd l0 x13_1) == (rd l1 x13_1)) = true := beq_iff_eq.mpr c8; have c8b1 : ((rd l0 x13_1) != (rd l1 x13_1)) = false := bne_eq_false_iff_eq.mpr c8; clear c8; have H' := am H; clear H; obtain ⟨ad465, e465, hx465_0⟩ := Kd.at_int HR0.out x13_1 dT dT; cases e465; have p465 := eT (0 ≤ (x13_1 : Int)); have q465 := eT (x13_1 < (l0.length : Int)); obtain ⟨ad466, e466, hx466_0⟩ := Kd.at_int HR1.out x13_1 dT dT; cases e466; have p466 := eT (0 ≤ (x13_1 : Int)); have q466 := eT (x13_1 < (l1.length : Int))
                  go_wp2
                  repeat (go_quiet (fail); try go_wp2)
                  go_roundg k1
                  case measure => have := HK1.out; omega
                  case rel => exact ⟨(wrap64 (x13_1 + 1)), wZ, H', ⟨by have := HK1.out; omega⟩, by repeat (first | exact Drawn0.refl _ | apply Drawn0.step)⟩
                · rw [if_neg c8] at H
                  have c8b0 : ((rd l0 x13_1) == (rd l1 x13_1)) = false := beq_eq_false_iff_ne.mpr c8; have c8b1 : ((rd l0 x13_1) != (rd l1 x13_1)) = true := bne_iff_ne.mpr c8; obtain rfl := Option.some.inj H; obtain ⟨ad465, e465, hx465_0⟩ := Kd.at_int HR0.out x13_1 dT dT; cases e465; have p465 := eT (0 ≤ (x13_1 : Int)); have q465 := eT (x13_1 < (l0.length : Int)); obtain ⟨ad466, e466, hx466_0⟩ := Kd.at_int HR1.out x13_1 dT dT; cases e466; have p466 := eT (0 ≤ (x13_1 : Int)); have q466 := eT (x13_1 < (l1.length : Int))
                  go_wp2
                  repeat (go_quiet (fail); try go_wp2)
                  go_ret
                  exact ⟨by first | rfl | (simp; done) | (simp [*]; done), by repeat (first | exact Drawn0.refl _ | apply Drawn0.step)⟩
              · rw [if_neg c7] at H
                exact absurd H (by simp)
            · rw [if_neg c6] at H
              exact absurd H (by simp)
          · rw [if_neg c5] at H
            exact absurd H (by simp)
        · rw [if_neg c4] at H
          have c4b0 : decide (x13_1 < (l0.length : Int)) = false := decide_eq_false c4; clear c4; obtain rfl := Option.some.inj H
          go_wp2
          repeat (go_quiet (fail); try go_wp2)
          go_ret
          exact ⟨by first | rfl | (simp; done) | (simp [*]; done), by repeat (first | exact Drawn0.refl _ | apply Drawn0.step)⟩
  · rw [if_neg c3] at H
    have c3b0 : ((l0.length : Int) == (l1.length : Int)) = false := beq_eq_false_iff_ne.mpr c3; have c3b1 : ((l0.length : Int) != (l1.length : Int)) = true := bne_iff_ne.mpr c3
    have c3b2 : (l0.length == l1.length) = false := by first | simpa using c3 | (simp at c3 ⊢; omega)
    obtain rfl := Option.some.inj H
    go_enter Try.func30, Try.ntmps30
    go_wp2
    repeat (go_quiet (fail); try go_wp2)
    go_ret
    exact ⟨by first | rfl | (simp; done) | (simp [*]; done), by repeat (first | exact Drawn0.refl _ | apply Drawn0.step)⟩

def laws_rSameLists.l0 : Nat → List (List Int) → List (List Int) → Int → Int → Option (Bool)
  | 0, _, _, _, _ => none
  | k + 1, x0, x1, x12, x13 => if x13 < x12 then (if 0 ≤ x13 then (if x13 < (x0.length : Int) then (if x13 < (x1.length : Int) then ((laws_pSameInts.f k (rd_L3 x0 x13) (rd_L3 x1 x13)).bind fun t469 => (if t469 = true then (laws_rSameLists.l0 k x0 x1 x12 (wrap64 (x13 + 1))) else (some false))) else (none)) else (none)) else (none)) else (some true)
def laws_rSameLists.f (k : Nat) (l0 : List (List Int)) (l1 : List (List Int)) : Option (Bool) := if (l0.length : Int) = (l1.length : Int) then (laws_rSameLists.l0 k l0 l1 (l0.length : Int) 0) else (some false)
theorem laws_rSameLists.calls (k : Nat) (A0 : Option Addr) (c0 : Nat) (l0 : List (List Int)) (A1 : Option Addr) (c1 : Nat) (l1 : List (List Int)) (r : Bool) (w : World) (hr0 : Kd.C (Kd.slice 3 (Kd.int .i64)) w A0 l0.length l0) (hc0 : l0.length ≤ c0) (hr1 : Kd.C (Kd.slice 3 (Kd.int .i64)) w A1 l1.length l1) (hc1 : l1.length ≤ c1) (h : laws_rSameLists.f k l0 l1 = some r) :
    Calls Try.prog 15 #[.slice A0 l0.length c0, .slice A1 l1.length c1] w fun e w' => e = .returned (.bool r) ∧ Drawn0 w w' := by
  have HR0 := am hr0; have HC0 := am hc0; clear hr0 hc0; have HR1 := am hr1; have HC1 := am hc1; clear hr1 hc1; have H : (if (l0.length : Int) = (l1.length : Int) then (laws_rSameLists.l0 k l0 l1 (l0.length : Int) 0) else (some false)) = some r := h; clear h
  by_cases c3 : (l0.length : Int) = (l1.length : Int)
  · rw [if_pos c3] at H
    have c3b0 : ((l0.length : Int) == (l1.length : Int)) = true := beq_iff_eq.mpr c3; have c3b1 : ((l0.length : Int) != (l1.length : Int)) = false := bne_eq_false_iff_eq.mpr c3
    have c3b2 : (l0.length == l1.length) = true := by first | simpa using c3 | (simp at c3 ⊢; omega)
    clear c3; have H' := am H; clear H
    go_enter Try.func15, Try.ntmps15
    go_wp2
    repeat (go_quiet (fail); try go_wp2)
    go_loopg [13] k (fun kq v13 w' => ∃ (x13_1 : Int), v13 = .int .i64 x13_1 ∧ Aside0 (laws_rSameLists.l0 kq l0 l1 (l0.length : Int) x13_1 = some r) ∧ Aside0 (kq ≤ k) ∧ Drawn0 w w')
    case atStart => exact ⟨(0), wZ, H', ⟨Nat.le_refl _⟩, by repeat (first | exact Drawn0.refl _ | apply Drawn0.step)⟩
    case round =>
      clear H'
      try clear c1
      try clear p2
      try clear c3
      try clear c3b0
      try clear c3b1
      try clear c3b2
      obtain ⟨x13_1, rfl, HA, HK1, ⟨m1, rfl⟩⟩ := hrel; cases gk with
      | zero => exact absurd HA.out (by simp [laws_rSameLists.l0])
      | succ k1 =>
        have H := HA.out; clear HA
        simp only [laws_rSameLists.l0] at H
        by_cases c4 : x13_1 < (l0.length : Int)
        · rw [if_pos c4] at H
          have c4b0 : decide (x13_1 < (l0.length : Int)) = true := decide_eq_true c4; clear c4
          by_cases c5 : 0 ≤ x13_1
          · rw [if_pos c5] at H
            have c5b0 : decide (0 ≤ x13_1) = true := decide_eq_true c5; clear c5
            by_cases c6 : x13_1 < (l0.length : Int)
            · rw [if_pos c6] at H
              have c6b0 : decide (x13_1 < (l0.length : Int)) = true := decide_eq_true c6; clear c6
              by_cases c7 : x13_1 < (l1.length : Int)
              · rw [if_pos c7] at H
                have c7b0 : decide (x13_1 < (l1.length : Int)) = true := decide_eq_true c7; clear c7; replace H := Option.bind_eq_some_iff.mp H; obtain ⟨t469, A80, H⟩ := H; (try dsimp -simprocs only at H); have A8 := am A80; clear A80
                by_cases c9 : t469 = true
                · subst c9
                  rw [if_pos rfl] at H; have H' := am H; clear H; have p467 : 0 ≤ (x13_1 : Int) := dT; have q467 : x13_1 < (l0.length : Int) := dT; obtain ⟨ad467, A467_0, c467_0, e467, hx467_0, hl467_0, hi467_0⟩ := at_L3 HR0.out x13_1 p467 q467; cases e467; have HR467_0 := am hi467_0; have HC467_0 := am hl467_0; clear hi467_0 hl467_0; replace p467 := eq_true p467; replace q467 := eq_true q467; have p468 : 0 ≤ (x13_1 : Int) := dT; have q468 : x13_1 < (l1.length : Int) := dT; obtain ⟨ad468, A468_0, c468_0, e468, hx468_0, hl468_0, hi468_0⟩ := at_L3 HR1.out x13_1 p468 q468; cases e468; have HR468_0 := am hi468_0; have HC468_0 := am hl468_0; clear hi468_0 hl468_0; replace p468 := eq_true p468; replace q468 := eq_true q468
                  go_wp2_with (first | (go_at_call 30; (with_reducible refine (laws_pSameInts.calls k1 _ _ (rd_L3 l0 x13_1) _ _ (rd_L3 l1 x13_1) true _ ?side1 ?side2 ?side3 ?side4 A8.out).mono ?_); (case side1 => exact Cz HR467_0.out); (case side2 => exact HC467_0.out); (case side3 => exact Cz HR468_0.out); (case side4 => exact HC468_0.out); rintro e w' ⟨rfl, ⟨nd, rfl⟩⟩; (try exact yZ)))
                  repeat (go_quiet (first | (go_at_call 30; (with_reducible refine (laws_pSameInts.calls k1 _ _ (rd_L3 l0 x13_1) _ _ (rd_L3 l1 x13_1) true _ ?side1 ?side2 ?side3 ?side4 A8.out).mono ?_); (case side1 => exact Cz HR467_0.out); (case side2 => exact HC467_0.out); (case side3 => exact Cz HR468_0.out); (case side4 => exact HC468_0.out); rintro e w' ⟨rfl, ⟨nd, rfl⟩⟩; (try exact yZ))); try go_wp2_with (first | (go_at_call 30; (with_reducible refine (laws_pSameInts.calls k1 _ _ (rd_L3 l0 x13_1) _ _ (rd_L3 l1 x13_1) true _ ?side1 ?side2 ?side3 ?side4 A8.out).mono ?_); (case side1 => exact Cz HR467_0.out); (case side2 => exact HC467_0.out); (case side3 => exact Cz HR468_0.out); (case side4 => exact HC468_0.out); rintro e w' ⟨rfl, ⟨nd, rfl⟩⟩; (try exact yZ))))
                  go_roundg k1
                  case measure => have := HK1.out; omega
                  case rel => exact ⟨(wrap64 (x13_1 + 1)), wZ, H', ⟨by have := HK1.out; omega⟩, by repeat (first | exact Drawn0.refl _ | apply Drawn0.step)⟩
                · replace c9 := Bool.eq_false_iff.mpr c9
                  subst c9
                  rw [if_neg (show ¬ (false = true) by decide)] at H; obtain rfl := Option.some.inj H; have p467 : 0 ≤ (x13_1 : Int) := dT; have q467 : x13_1 < (l0.length : Int) := dT; obtain ⟨ad467, A467_0, c467_0, e467, hx467_0, hl467_0, hi467_0⟩ := at_L3 HR0.out x13_1 p467 q467; cases e467; have HR467_0 := am hi467_0; have HC467_0 := am hl467_0; clear hi467_0 hl467_0; replace p467 := eq_true p467; replace q467 := eq_true q467; have p468 : 0 ≤ (x13_1 : Int) := dT; have q468 : x13_1 < (l1.length : Int) := dT; obtain ⟨ad468, A468_0, c468_0, e468, hx468_0, hl468_0, hi468_0⟩ := at_L3 HR1.out x13_1 p468 q468; cases e468; have HR468_0 := am hi468_0; have HC468_0 := am hl468_0; clear hi468_0 hl468_0; replace p468 := eq_true p468; replace q468 := eq_true q468
                  go_wp2_with (first | (go_at_call 30; (with_reducible refine (laws_pSameInts.calls k1 _ _ (rd_L3 l0 x13_1) _ _ (rd_L3 l1 x13_1) false _ ?side1 ?side2 ?side3 ?side4 A8.out).mono ?_); (case side1 => exact Cz HR467_0.out); (case side2 => exact HC467_0.out); (case side3 => exact Cz HR468_0.out); (case side4 => exact HC468_0.out); rintro e w' ⟨rfl, ⟨nd, rfl⟩⟩; (try exact yZ)))
                  repeat (go_quiet (first | (go_at_call 30; (with_reducible refine (laws_pSameInts.calls k1 _ _ (rd_L3 l0 x13_1) _ _ (rd_L3 l1 x13_1) false _ ?side1 ?side2 ?side3 ?side4 A8.out).mono ?_); (case side1 => exact Cz HR467_0.out); (case side2 => exact HC467_0.out); (case side3 => exact Cz HR468_0.out); (case side4 => exact HC468_0.out); rintro e w' ⟨rfl, ⟨nd, rfl⟩⟩; (try exact yZ))); try go_wp2_with (first | (go_at_call 30; (with_reducible refine (laws_pSameInts.calls k1 _ _ (rd_L3 l0 x13_1) _ _ (rd_L3 l1 x13_1) false _ ?side1 ?side2 ?side3 ?side4 A8.out).mono ?_); (case side1 => exact Cz HR467_0.out); (case side2 => exact HC467_0.out); (case side3 => exact Cz HR468_0.out); (case side4 => exact HC468_0.out); rintro e w' ⟨rfl, ⟨nd, rfl⟩⟩; (try exact yZ))))
                  go_ret
                  exact ⟨by first | rfl | (simp; done) | (simp [*]; done), by repeat (first | exact Drawn0.refl _ | apply Drawn0.step)⟩
              · rw [if_neg c7] at H
                exact absurd H (by simp)
            · rw [if_neg c6] at H
              exact absurd H (by simp)
          · rw [if_neg c5] at H
            exact absurd H (by simp)
        · rw [if_neg c4] at H
          have c4b0 : decide (x13_1 < (l0.length : Int)) = false := decide_eq_false c4; clear c4; obtain rfl := Option.some.inj H
          go_wp2
          repeat (go_quiet (fail); try go_wp2)
          go_ret
          exact ⟨by first | rfl | (simp; done) | (simp [*]; done), by repeat (first | exact Drawn0.refl _ | apply Drawn0.step)⟩
  · rw [if_neg c3] at H
    have c3b0 : ((l0.length : Int) == (l1.length : Int)) = false := beq_eq_false_iff_ne.mpr c3; have c3b1 : ((l0.length : Int) != (l1.length : Int)) = true := bne_iff_ne.mpr c3
    have c3b2 : (l0.length == l1.length) = false := by first | simpa using c3 | (simp at c3 ⊢; omega)
    obtain rfl := Option.some.inj H
    go_enter Try.func15, Try.ntmps15
    go_wp2
    repeat (go_quiet (fail); try go_wp2)
    go_ret
    exact ⟨by first | rfl | (simp; done) | (simp [*]; done), by repeat (first | exact Drawn0.refl _ | apply Drawn0.step)⟩

def laws_pHas.l0 : Nat → Int → List Int → Int → Int → Option (Bool)
  | 0, _, _, _, _ => none
  | k + 1, x1, x7, x8, x9 => if x9 < x8 then (if 0 ≤ x9 then (if x9 < (x7.length : Int) then (if (rd x7 x9) = x1 then (some true) else (laws_pHas.l0 k x1 x7 x8 (wrap64 (x9 + 1)))) else (none)) else (none)) else (some false)
def laws_pHas.f (k : Nat) (l0 : List Int) (a1 : Int) : Option (Bool) := laws_pHas.l0 k a1 l0 (l0.length : Int) 0
theorem laws_pHas.calls (k : Nat) (A0 : Option Addr) (c0 : Nat) (l0 : List Int) (a1 : Int) (r : Bool) (w : World) (hr0 : Kd.C (Kd.int .i64) w A0 l0.length l0) (hc0 : l0.length ≤ c0) (h : laws_pHas.f k l0 a1 = some r) :
    Calls Try.prog 16 #[.slice A0 l0.length c0, .int .i64 a1] w fun e w' => e = .returned (.bool r) ∧ Drawn0 w w' := by
  have HR0 := am hr0; have HC0 := am hc0; clear hr0 hc0; have H : (laws_pHas.l0 k a1 l0 (l0.length : Int) 0) = some r := h; clear h; have H' := am H; clear H
  go_enter Try.func16, Try.ntmps16
  go_wp2
  go_loopg [9] k (fun kq v9 w' => ∃ (x9_1 : Int), v9 = .int .i64 x9_1 ∧ Aside0 (laws_pHas.l0 kq a1 l0 (l0.length : Int) x9_1 = some r) ∧ Aside0 (kq ≤ k) ∧ Drawn0 w w')
  case atStart => exact ⟨(0), wZ, H', ⟨Nat.le_refl _⟩, by repeat (first | exact Drawn0.refl _ | apply Drawn0.step)⟩
  case round =>
    clear H'
    try clear c1
    try clear p2
    obtain ⟨x9_1, rfl, HA, HK1, ⟨m1, rfl⟩⟩ := hrel; cases gk with
    | zero => exact absurd HA.out (by simp [laws_pHas.l0])
    | succ k1 =>
      have H := HA.out; clear HA
      simp only [laws_pHas.l0] at H
      by_cases c3 : x9_1 < (l0.length : Int)
      · rw [if_pos c3] at H
        have c3b0 : decide (x9_1 < (l0.length : Int)) = true := decide_eq_true c3; clear c3
        by_cases c4 : 0 ≤ x9_1
        · rw [if_pos c4] at H
          have c4b0 : decide (0 ≤ x9_1) = true := decide_eq_true c4; clear c4
          by_cases c5 : x9_1 < (l0.length : Int)
          · rw [if_pos c5] at H
            have c5b0 : decide (x9_1 < (l0.length : Int)) = true := decide_eq_true c5; clear c5
            by_cases c6 : (rd l0 x9_1) = a1
            · rw [if_pos c6] at H
              have c6b0 : ((rd l0 x9_1) == a1) = true := beq_iff_eq.mpr c6; have c6b1 : ((rd l0 x9_1) != a1) = false := bne_eq_false_iff_eq.mpr c6; clear c6; obtain rfl := Option.some.inj H; obtain ⟨ad470, e470, hx470_0⟩ := Kd.at_int HR0.out x9_1 dT dT; cases e470; have p470 := eT (0 ≤ (x9_1 : Int)); have q470 := eT (x9_1 < (l0.length : Int))
              go_wp2
              go_ret
              exact ⟨by first | rfl | (simp; done) | (simp [*]; done), by repeat (first | exact Drawn0.refl _ | apply Drawn0.step)⟩
            · rw [if_neg c6] at H
              have c6b0 : ((rd l0 x9_1) == a1) = false := beq_eq_false_iff_ne.mpr c6; have c6b1 : ((rd l0 x9_1) != a1) = true := bne_iff_ne.mpr c6; have H' := am H; clear H; obtain ⟨ad470, e470, hx470_0⟩ := Kd.at_int HR0.out x9_1 dT dT; cases e470; have p470 := eT (0 ≤ (x9_1 : Int)); have q470 := eT (x9_1 < (l0.length : Int))
              go_wp2
              go_roundg k1
              case measure => have := HK1.out; omega
              case rel => exact ⟨(wrap64 (x9_1 + 1)), wZ, H', ⟨by have := HK1.out; omega⟩, by repeat (first | exact Drawn0.refl _ | apply Drawn0.step)⟩
          · rw [if_neg c5] at H
            exact absurd H (by simp)
        · rw [if_neg c4] at H
          exact absurd H (by simp)
      · rw [if_neg c3] at H
        have c3b0 : decide (x9_1 < (l0.length : Int)) = false := decide_eq_false c3; clear c3; obtain rfl := Option.some.inj H
        go_wp2
        go_ret
        exact ⟨by first | rfl | (simp; done) | (simp [*]; done), by repeat (first | exact Drawn0.refl _ | apply Drawn0.step)⟩

def impl_CellsOf.f (k : Nat) (a0 : Int) (a1 : ByteArray) (a2 : Int) : Option (Int × Int × Bool) := (impl_isSeed.f a0).bind fun t471 => (if t471 = true then ((impl_IsKey.f k a1).bind fun t472 => (if t472 = true then ((impl_cellsOk.f a2).bind fun t473 => (if t473 = true then ((impl_cellsOf.f k a0 a1 a2).bind fun bt474 => (some (bt474.1, bt474.2, true))) else (some (0, 0, false)))) else (some (0, 0, false)))) else (some (0, 0, false)))
theorem impl_CellsOf.calls (k : Nat) (a0 : Int) (a1 : ByteArray) (a2 : Int) (r1 : Int) (r2 : Int) (r3 : Bool) (w : World) (h : impl_CellsOf.f k a0 a1 a2 = some (r1, r2, r3)) :
    Calls Try.prog 17 #[.int .i64 a0, .string a1, .int .i64 a2] w fun e w' => e = .returned (.tuple #[.int .i64 r1, .int .i64 r2, .bool r3]) ∧ Drawn0 w w' := by
  have H : ((impl_isSeed.f a0).bind fun t471 => (if t471 = true then ((impl_IsKey.f k a1).bind fun t472 => (if t472 = true then ((impl_cellsOk.f a2).bind fun t473 => (if t473 = true then ((impl_cellsOf.f k a0 a1 a2).bind fun bt474 => (some (bt474.1, bt474.2, true))) else (some (0, 0, false)))) else (some (0, 0, false)))) else (some (0, 0, false)))) = some (r1, r2, r3) := h; clear h; replace H := Option.bind_eq_some_iff.mp H; obtain ⟨t471, A40, H⟩ := H; (try dsimp -simprocs only at H); have A4 := am A40; clear A40
  by_cases c5 : t471 = true
  · subst c5
    rw [if_pos rfl] at H; replace H := Option.bind_eq_some_iff.mp H; obtain ⟨t472, A60, H⟩ := H; (try dsimp -simprocs only at H); have A6 := am A60; clear A60
    by_cases c7 : t472 = true
    · subst c7
      rw [if_pos rfl] at H; replace H := Option.bind_eq_some_iff.mp H; obtain ⟨t473, A80, H⟩ := H; (try dsimp -simprocs only at H); have A8 := am A80; clear A80
      by_cases c9 : t473 = true
      · subst c9
        rw [if_pos rfl] at H; replace H := Option.bind_eq_some_iff.mp H; obtain ⟨⟨t474, t475⟩, A100, H⟩ := H; (try dsimp -simprocs only at H); have A10 := am A100; clear A100
        simp only [Option.some.injEq, Prod.mk.injEq] at H
        obtain ⟨rfl, rfl, rfl⟩ := H
        go_enter Try.func17, Try.ntmps17
        go_wp2_with (first | ((with_reducible refine gate_callee (f := 65) rfl ?_); refine gL (some 12) Try.func65 #[.int .i64 a0] ?_; (with_reducible refine (impl_isSeed.calls a0 true _ A4.out).mono ?_); rintro e w' ⟨rfl, ⟨nd, rfl⟩⟩; refine ⟨_, rfl, ?_⟩) | (go_at_call 66; (with_reducible refine (impl_IsKey.calls k a1 true _ A6.out).mono ?_); rintro e w' ⟨rfl, ⟨nd, rfl⟩⟩) | (go_at_call 67; (with_reducible refine (impl_cellsOk.calls a2 true _ A8.out).mono ?_); rintro e w' ⟨rfl, ⟨nd, rfl⟩⟩) | ((with_reducible refine gate_callee (f := 68) rfl ?_); refine gL (some 28) Try.func68 #[.int .i64 a0, .string a1, .int .i64 a2] ?_; (with_reducible refine (impl_cellsOf.calls k a0 a1 a2 t474 t475 _ A10.out).mono ?_); rintro e w' ⟨rfl, ⟨nd, rfl⟩⟩; refine ⟨_, rfl, ?_⟩))
        go_ret3
        exact ⟨by first | rfl | (simp; done) | (simp [*]; done), by repeat (first | exact Drawn0.refl _ | apply Drawn0.step)⟩
      · replace c9 := Bool.eq_false_iff.mpr c9
        subst c9
        rw [if_neg (show ¬ (false = true) by decide)] at H
        simp only [Option.some.injEq, Prod.mk.injEq] at H
        obtain ⟨rfl, rfl, rfl⟩ := H
        go_enter Try.func17, Try.ntmps17
        go_wp2_with (first | ((with_reducible refine gate_callee (f := 65) rfl ?_); refine gL (some 12) Try.func65 #[.int .i64 a0] ?_; (with_reducible refine (impl_isSeed.calls a0 true _ A4.out).mono ?_); rintro e w' ⟨rfl, ⟨nd, rfl⟩⟩; refine ⟨_, rfl, ?_⟩) | (go_at_call 66; (with_reducible refine (impl_IsKey.calls k a1 true _ A6.out).mono ?_); rintro e w' ⟨rfl, ⟨nd, rfl⟩⟩) | (go_at_call 67; (with_reducible refine (impl_cellsOk.calls a2 false _ A8.out).mono ?_); rintro e w' ⟨rfl, ⟨nd, rfl⟩⟩))
        go_ret3
        exact ⟨by first | rfl | (simp; done) | (simp [*]; done), by repeat (first | exact Drawn0.refl _ | apply Drawn0.step)⟩
    · replace c7 := Bool.eq_false_iff.mpr c7
      subst c7
      rw [if_neg (show ¬ (false = true) by decide)] at H
      simp only [Option.some.injEq, Prod.mk.injEq] at H
      obtain ⟨rfl, rfl, rfl⟩ := H
      go_enter Try.func17, Try.ntmps17
      go_wp2_with (first | ((with_reducible refine gate_callee (f := 65) rfl ?_); refine gL (some 12) Try.func65 #[.int .i64 a0] ?_; (with_reducible refine (impl_isSeed.calls a0 true _ A4.out).mono ?_); rintro e w' ⟨rfl, ⟨nd, rfl⟩⟩; refine ⟨_, rfl, ?_⟩) | (go_at_call 66; (with_reducible refine (impl_IsKey.calls k a1 false _ A6.out).mono ?_); rintro e w' ⟨rfl, ⟨nd, rfl⟩⟩))
      go_ret3
      exact ⟨by first | rfl | (simp; done) | (simp [*]; done), by repeat (first | exact Drawn0.refl _ | apply Drawn0.step)⟩
  · replace c5 := Bool.eq_false_iff.mpr c5
    subst c5
    rw [if_neg (show ¬ (false = true) by decide)] at H
    simp only [Option.some.injEq, Prod.mk.injEq] at H
    obtain ⟨rfl, rfl, rfl⟩ := H
    go_enter Try.func17, Try.ntmps17
    go_wp2_with (first | ((with_reducible refine gate_callee (f := 65) rfl ?_); refine gL (some 12) Try.func65 #[.int .i64 a0] ?_; (with_reducible refine (impl_isSeed.calls a0 false _ A4.out).mono ?_); rintro e w' ⟨rfl, ⟨nd, rfl⟩⟩; refine ⟨_, rfl, ?_⟩))
    go_ret3
    exact ⟨by first | rfl | (simp; done) | (simp [*]; done), by repeat (first | exact Drawn0.refl _ | apply Drawn0.step)⟩

open Go Go.Maps Go.Proofs.YtephjmmkggcmeaaGp
theorem cellsK : Keyed Try.prog 3 := int_keyed Try.underlying3
theorem cellsZ (w : World) : (zeroValue 4).run Try.prog w = .ok (.bool false) w := by kernel_rfl
def okC (x : Int) : Bool := decide (-9223372036854775808 ≤ x) && decide (x ≤ 9223372036854775807)
theorem okC_wf {x : Int} (h : okC x = true) : (Lit.int .i64 x).wf = true := h
def impl_cellCount.l0 : Nat → List (List Int) → List Int → List Int → Int → Int → Option (Int)
 | 0, _, _, _, _, _ => none
 | k + 1, x0, x5, x8, x9, x10 => if x10 < x9 then (if 0 ≤ x10 then (if x10 < (x8.length : Int) then (if 0 ≤ (rd x8 x10) then (if (rd x8 x10) < (x0.length : Int) then (if 0 < ((rd_L3 x0 (rd x8 x10)).length : Int) then (if 1 < ((rd_L3 x0 (rd x8 x10)).length : Int) then (if okC (rd (rd_L3 x0 (rd x8 x10)) 0) = true then (if okC (rd (rd_L3 x0 (rd x8 x10)) 1) = true then (impl_cellCount.l0 k x0 (rd (rd_L3 x0 (rd x8 x10)) 1 :: rd (rd_L3 x0 (rd x8 x10)) 0 :: x5) x8 x9 (wrap64 (x10 + 1))) else (none)) else (none)) else (none)) else (none)) else (none)) else (none)) else (none)) else (none)) else (some ((Go.Proofs.YtephjmmkggcmeaaGp.nubI x5).length : Int))
def impl_cellCount.f (k : Nat) (l0 : List (List Int)) (l1 : List Int) : Option (Int) := if l1.length ≤ 1000000 then (impl_cellCount.l0 k l0 ([] : List Int) l1 (l1.length : Int) 0) else (none)
def impl_cellCount.T5 : Bool × List (List Nat × List Nat) := (true, [([], []), ([], []), ([], []), ([1, 2], [1, 2]), ([3], [3]), ([4], [4]), ([5], [5]), ([], []), ([], []), ([], []), ([8, 9], [8, 9]), ([10], [10]), ([11], [11]), ([12], [12]), ([0, 6, 11, 13], [0, 6]), ([14], [14]), ([0, 15, 14, 0, 1, 2, 3, 4, 5, 6, 11, 13, 14], [0, 15]), ([7, 13, 16, 0, 1, 2, 3, 4, 5, 6, 11, 13, 14, 15, 16], [7, 13]), ([17], [17]), ([7, 18, 17, 0, 1, 2, 3, 4, 5, 6, 7, 8, 9, 10, 11, 12, 13, 14, 15, 16, 17], [7, 18])])
def impl_cellCount.B5 : List Nat := [0, 0, 0, 6, 14, 30, 62, 0, 0, 0, 768, 1792, 3840, 7936, 16255, 32639, 65407, 131071, 262143, 524287]
theorem impl_cellCount.tab5 : rtab .any (opsOf Try.f69 5) = impl_cellCount.T5 := by kernel_rfl
theorem impl_cellCount.bits5 : waitsOk impl_cellCount.T5.2 impl_cellCount.B5 = true := by kernel_rfl
theorem impl_cellCount.calls (k : Nat) (A0 : Option Addr) (c0 : Nat) (l0 : List (List Int)) (A1 : Option Addr) (c1 : Nat) (l1 : List Int) (r : Int) (w : World) (hr0 : Kd.C (Kd.slice 3 (Kd.int .i64)) w A0 l0.length l0) (hc0 : l0.length ≤ c0) (hr1 : Kd.C (Kd.int .i64) w A1 l1.length l1) (hc1 : l1.length ≤ c1) (h : impl_cellCount.f k l0 l1 = some r) :
  Calls Try.prog 69 #[.slice A0 l0.length c0, .slice A1 l1.length c1] w fun e w' => e = .returned (.int .i64 r) ∧ Below w.heap.size w w' := by
 unfold impl_cellCount.f at h
 split at h
 case isFalse => cases h
 case isTrue hl =>
 have HL : Aside0 (l1.length ≤ 1000000) := ⟨hl⟩; clear hl; have HR0 := am hr0; have HC0 := am hc0; clear hr0 hc0; have HR1 := am hr1; have HC1 := am hc1; clear hr1 hc1; have HB := am (Below.refl w.heap.size w); have H' := am h; clear h; have hmm := @run_makeMap Try.prog
 go_enter Try.func69, Try.ntmps69
 go_wp2
 go_loopg [11] k (fun kq v10 w' => ∃ (x5_1 : List Int) (x10_1 : Int) (m : Nat) (D : DataW Unit), v10 = .int .i64 x10_1 ∧ Aside0 (x10_1 = (m : Int)) ∧ Aside0 (impl_cellCount.l0 kq l0 x5_1 l1 (l1.length : Int) x10_1 = some r) ∧ Aside0 (kq ≤ k) ∧ Aside0 (w'.ownsMap Try.prog 3 (plainElem (H := Unit) Try.prog 4) w.heap.size (2 * m) D) ∧ Aside0 (SetIs .i64 D x5_1) ∧ Aside0 (Below w.heap.size w w'))
 case atStart => exact ⟨([] : List Int), 0, 0, .map [], rfl, ⟨rfl⟩, H', ⟨Nat.le_refl _⟩, ⟨World.ownsMap_made _ _ _ _⟩, ⟨SetIs.empty _⟩, ⟨(Below.refl _ _).alloc (Nat.le_refl _) _⟩⟩
 case round =>
  clear H' hmm; obtain ⟨x5_1, x10_1, m, D, rfl, HM, HA, HK1, HO, HS, HB⟩ := hrel; cases gk with
  | zero => exact absurd HA.out (by simp [impl_cellCount.l0])
  | succ k1 =>
   have H := HA.out; clear HA
   simp only [impl_cellCount.l0] at H
   by_cases c3 : x10_1 < (l1.length : Int)
   · rw [if_pos c3] at H
     have c3b0 : decide (x10_1 < (l1.length : Int)) = true := decide_eq_true c3; clear c3
     by_cases c4 : 0 ≤ x10_1
     · rw [if_pos c4] at H
       have c4b0 : decide (0 ≤ x10_1) = true := decide_eq_true c4; clear c4
       by_cases c5 : x10_1 < (l1.length : Int)
       · rw [if_pos c5] at H
         have c5b0 : decide (x10_1 < (l1.length : Int)) = true := decide_eq_true c5; clear c5
         by_cases c6 : 0 ≤ (rd l1 x10_1)
         · rw [if_pos c6] at H
           have c6b0 : decide (0 ≤ (rd l1 x10_1)) = true := decide_eq_true c6; clear c6
           by_cases c7 : (rd l1 x10_1) < (l0.length : Int)
           · rw [if_pos c7] at H
             have c7b0 : decide ((rd l1 x10_1) < (l0.length : Int)) = true := decide_eq_true c7; clear c7
             by_cases c8 : 0 < ((rd_L3 l0 (rd l1 x10_1)).length : Int)
             · rw [if_pos c8] at H
               have c8b0 : decide (0 < ((rd_L3 l0 (rd l1 x10_1)).length : Int)) = true := decide_eq_true c8; have c8b1 : decide (0 < (rd_L3 l0 (rd l1 x10_1)).length) = true := decide_eq_true (by omega); clear c8
               by_cases c10 : 1 < ((rd_L3 l0 (rd l1 x10_1)).length : Int)
               · rw [if_pos c10] at H
                 have c10b0 : decide (1 < ((rd_L3 l0 (rd l1 x10_1)).length : Int)) = true := decide_eq_true c10; have c10b1 : decide (1 < (rd_L3 l0 (rd l1 x10_1)).length) = true := decide_eq_true (by omega); clear c10
                 by_cases c11 : okC (rd (rd_L3 l0 (rd l1 x10_1)) 0) = true
                 · rw [if_pos c11] at H
                   have HQ0 : Aside0 (keyOf Try.prog 3 (.int .i64 (rd (rd_L3 l0 (rd l1 x10_1)) 0)) = some (.int .i64 (rd (rd_L3 l0 (rd l1 x10_1)) 0))) := ⟨keyOf_int_mk Try.underlying3 (okC_wf c11)⟩; clear c11
                   by_cases c12 : okC (rd (rd_L3 l0 (rd l1 x10_1)) 1) = true
                   · rw [if_pos c12] at H
                     have HQ1 : Aside0 (keyOf Try.prog 3 (.int .i64 (rd (rd_L3 l0 (rd l1 x10_1)) 1)) = some (.int .i64 (rd (rd_L3 l0 (rd l1 x10_1)) 1))) := ⟨keyOf_int_mk Try.underlying3 (okC_wf c12)⟩; clear c12
                     have HN : Aside0 (2 * m + 1 < maxLen) := ⟨by
                       have h1 := HM.out; have h2 := HL.out; have h3 := of_decide_eq_true c5b0
                       unfold maxLen; omega⟩
                     have H' := am H; clear H; have p529 : 0 ≤ (x10_1 : Int) := of_decide_eq_true c4b0; have q529 : x10_1 < (l1.length : Int) := of_decide_eq_true c5b0; obtain ⟨ad529, e529, hx529_0⟩ := Kd.at_int HR1.out x10_1 p529 q529; cases e529; replace hx529_0 := (HB.out.cell (World.block_lt_of_cell? w _ hx529_0)).trans hx529_0; replace p529 := eq_true p529; replace q529 := eq_true q529
                     go_wp2
                     have n0_ := am (World.ownsMap.drew HO.out); have n1_ := am (below_drew1 HB.out); clear HO HB; revert n0_ n1_; intro HO HB; have p530 : 0 ≤ ((rd l1 x10_1) : Int) := of_decide_eq_true c6b0; have q530 : (rd l1 x10_1) < (l0.length : Int) := of_decide_eq_true c7b0; obtain ⟨ad530, A530_0, c530_0, e530, hx530_0, hl530_0, hi530_0⟩ := at_L3 HR0.out (rd l1 x10_1) p530 q530; have hw530_0 := hx530_0; cases e530; replace hx530_0 := (HB.out.cell (World.block_lt_of_cell? w _ hx530_0)).trans hx530_0; have HR530_0 := am hi530_0; have HC530_0 := am hl530_0; clear hi530_0 hl530_0; replace p530 := eq_true p530; replace q530 := eq_true q530; have p531 : 0 ≤ (0 : Int) := (by omega); have q531 : 0 < ((rd_L3 l0 (rd l1 x10_1)).length : Int) := of_decide_eq_true c8b0; obtain ⟨ad531, e531, hx531_0⟩ := Kd.at_int HR530_0.out 0 p531 q531; have hw531_0 := hx531_0
                     (try rw [show ((0 : Int)).toNat = 0 from rfl] at hw531_0)
                     (try rw [show 0 * 1 = 0 from rfl] at hw531_0)
                     (try rw [Addr.add_zero'] at hw531_0)
                     cases e531; have qi531 : (0 < (rd_L3 l0 (rd l1 x10_1)).length) = True := eq_true (of_decide_eq_true c8b1)
                     (try rw [show ((0 : Int)).toNat = 0 from rfl] at hx531_0)
                     (try rw [Addr.add_zero'] at hx531_0)
                     replace hx531_0 := (HB.out.cell (World.block_lt_of_cell? w _ hx531_0)).trans hx531_0; replace p531 := eq_true p531; replace q531 := eq_true q531; have p536 : 0 ≤ (1 : Int) := (by omega); have q536 : 1 < ((rd_L3 l0 (rd l1 x10_1)).length : Int) := of_decide_eq_true c10b0; obtain ⟨ad536, e536, hx536_0⟩ := Kd.at_int HR530_0.out 1 p536 q536; have hw536_0 := hx536_0
                     (try rw [show ((1 : Int)).toNat = 1 from rfl] at hw536_0)
                     (try rw [show 1 * 1 = 1 from rfl] at hw536_0)
                     (try simp only [Nat.reduceMul, Nat.reduceEqDiff, Go.Addr.add, ↓reduceIte] at hw536_0)
                     cases e536
                     (try simp only [show (1 : Int).toNat = 1 from rfl, Nat.reduceMul, Nat.reduceEqDiff, Go.Addr.add, ↓reduceIte] at hx536_0)
                     have qi536 : (1 < (rd_L3 l0 (rd l1 x10_1)).length) = True := eq_true (of_decide_eq_true c10b1)
                     (try rw [show ((1 : Int)).toNat = 1 from rfl] at hx536_0)
                     replace hx536_0 := (HB.out.cell (World.block_lt_of_cell? w _ hx536_0)).trans hx536_0; replace p536 := eq_true p536; replace q536 := eq_true q536; refine start_ (n := 20) (S := fun w' => w'.cell? (ad530.add ((rd l1 x10_1)).toNat) = some (.slice (some ad531) (rd_L3 l0 (rd l1 x10_1)).length c530_0) ∧ w'.cell? ad531 = some (.int .i64 (rd (rd_L3 l0 (rd l1 x10_1)) 0)) ∧ w'.cell? ⟨ad531.block, ad531.off + 1, none⟩ = some (.int .i64 (rd (rd_L3 l0 (rd l1 x10_1)) 1))) (ds := []) (bA 20 0) (by kernel_rfl) rfl rfl ⟨((HB.out.cell (World.block_lt_of_cell? w _ hw530_0)).trans hw530_0), ((HB.out.cell (World.block_lt_of_cell? w _ hw531_0)).trans hw531_0), ((HB.out.cell (World.block_lt_of_cell? w _ hw536_0)).trans hw536_0)⟩ (fun hHeld => ?_); refine with_tabW impl_cellCount.tab5 impl_cellCount.bits5 (fun HT_ HW_ => ?_); generalize wr.drew = w12 at HO HB HR530_0 hx530_0 hx531_0 hx536_0 hHeld ⊢; refine pZ 0 (some 15) (bA 20 1) HT_.out ?_; refine pZ 1 (some 16) (bA 20 3) HT_.out ?_; refine pZ 2 (some 17) (bA 20 7) HT_.out ?_; refine pZ 3 (some 18) (bA 20 15) HT_.out ?_; refine pZ 7 (some 22) (bA 20 143) HT_.out ?_; refine pZ 8 (some 23) (bA 20 399) HT_.out ?_; refine pZ 9 (some 24) (bA 20 911) HT_.out ?_; refine pZ 10 (some 25) (bA 20 1935) HT_.out ?_; refine tZ3 4 (some 19) (bA 20 1951) HT_.out HW_.out hHeld ?_; refine pZ 5 (some 20) (bA 20 1983) HT_.out ?_; refine tZ3 6 (some 21) (bA 20 2047) HT_.out HW_.out hHeld ?_; refine tZ3 11 (some 26) (bA 20 4095) HT_.out HW_.out hHeld ?_; refine pZ 12 (some 27) (bA 20 8191) HT_.out ?_; refine tZ3 13 (some 28) (bA 20 16383) HT_.out HW_.out hHeld ?_; refine oZ 14 (some 29) (bA 20 32767) HT_.out (fun K hK => ?_); refine entry_step (by rfl) rfl _ _ _ rfl 3 4 cellsK Try.underlying117 _ cellsZ (plainElem (H := Unit) Try.prog 4) w.heap.size (2 * m) D HO.out (by have := HN.out; omega) _ _ rfl rfl HQ0.out ?_; intro v0_ st w14 hent hgr; have n1_ := am (HB.out.grown hgr HB.out.size (fun j hj => by cases hj; exact Nat.le_refl _)); have HE := am hent; clear HB hent hgr HO; revert n1_; intro HB; refine hK.out _ _ ⟨((HB.out.cell (World.block_lt_of_cell? w _ hw530_0)).trans hw530_0), ((HB.out.cell (World.block_lt_of_cell? w _ hw531_0)).trans hw531_0), ((HB.out.cell (World.block_lt_of_cell? w _ hw536_0)).trans hw536_0)⟩ (fun hHeld => ?_); clear hK K; refine norm_ (a' := ?_) ?_ ?_; rotate_left; show Act.put _ (some 29) _ = _; simp only [aP, i64_w, i32_w]; rfl; refine pZ 15 (some 30) (bA 20 65535) HT_.out ?_; refine oZ 16 none (bA 20 131071) HT_.out (fun K hK => ?_); refine estore_step (by rfl) rfl _ _ _ _ rfl 3 (plainElem (H := Unit) Try.prog 4) w.heap.size (2 * m) D _ st w14 HE.out rfl _ rfl rfl rfl _ [] (plainElem_bool Try.underlying4 true) ?_; intro w16 hown hgr; have n1_ := am (HB.out.grown hgr HB.out.size (fun j hj => by cases hj; exact Nat.le_refl _)); have HO := am hown; clear HB hown hgr HE; revert n1_; intro HB; refine hK.out _ _ ⟨((HB.out.cell (World.block_lt_of_cell? w _ hw530_0)).trans hw530_0), ((HB.out.cell (World.block_lt_of_cell? w _ hw531_0)).trans hw531_0), ((HB.out.cell (World.block_lt_of_cell? w _ hw536_0)).trans hw536_0)⟩ (fun hHeld => ?_); clear hK K
                     refine oZ 17 (some 31) (bA 20 262143) HT_.out (fun K hK => ?_); refine entry_step (by rfl) rfl _ _ _ rfl 3 4 cellsK Try.underlying117 _ cellsZ (plainElem (H := Unit) Try.prog 4) w.heap.size (2 * m + 1) _ HO.out HN.out _ _ rfl rfl HQ1.out ?_; intro v1_ st1 w17 hent hgr; have n1_ := am (HB.out.grown hgr HB.out.size (fun j hj => by cases hj; exact Nat.le_refl _)); have HE := am hent; clear HB hent hgr HO; revert n1_; intro HB; refine hK.out _ _ ⟨((HB.out.cell (World.block_lt_of_cell? w _ hw530_0)).trans hw530_0), ((HB.out.cell (World.block_lt_of_cell? w _ hw531_0)).trans hw531_0), ((HB.out.cell (World.block_lt_of_cell? w _ hw536_0)).trans hw536_0)⟩ (fun hHeld => ?_); clear hK K; refine norm_ (a' := ?_) ?_ ?_; rotate_left; show Act.put _ (some 31) _ = _; simp only [aP, i64_w, i32_w]; rfl; refine pZ 18 (some 32) (bA 20 524287) HT_.out ?_; refine oZ 19 none (bA 20 1048575) HT_.out (fun K hK => ?_); refine estore_step (by rfl) rfl _ _ _ _ rfl 3 (plainElem (H := Unit) Try.prog 4) w.heap.size (2 * m + 1) _ _ st1 w17 HE.out rfl _ rfl rfl rfl _ [] (plainElem_bool Try.underlying4 true) ?_; intro w19 hown hgr; have n1_ := am (HB.out.grown hgr HB.out.size (fun j hj => by cases hj; exact Nat.le_refl _)); have HO := am hown; clear HB hown hgr HE; revert n1_; intro HB; refine hK.out _ _ ⟨((HB.out.cell (World.block_lt_of_cell? w _ hw530_0)).trans hw530_0), ((HB.out.cell (World.block_lt_of_cell? w _ hw531_0)).trans hw531_0), ((HB.out.cell (World.block_lt_of_cell? w _ hw536_0)).trans hw536_0)⟩ (fun hHeld => ?_); clear hK K; refine done_ (done_of HT_.out (by kernel_rfl)) ?_
                     try go_wp2
                     go_roundg k1
                     case measure => have := HK1.out; omega
                     case rel => exact ⟨_, (wrap64 (x10_1 + 1)), m + 1, _, rfl, ⟨by have h1 := HM.out; have h2 := HL.out; have h3 := of_decide_eq_true c5b0; unfold wrap64; omega⟩, H', ⟨by have := HK1.out; omega⟩, ⟨HO.out.mono (by omega)⟩, ⟨(HS.out.put _).put _⟩, ⟨HB.out⟩⟩
                   · rw [if_neg c12] at H
                     exact absurd H (by simp)
                 · rw [if_neg c11] at H
                   exact absurd H (by simp)
               · rw [if_neg c10] at H
                 exact absurd H (by simp)
             · rw [if_neg c8] at H
               exact absurd H (by simp)
           · rw [if_neg c7] at H
             exact absurd H (by simp)
         · rw [if_neg c6] at H
           exact absurd H (by simp)
       · rw [if_neg c5] at H
         exact absurd H (by simp)
     · rw [if_neg c4] at H
       exact absurd H (by simp)
   · rw [if_neg c3] at H
     have c3b0 : decide (x10_1 < (l1.length : Int)) = false := decide_eq_false c3; clear c3; have HRr := Option.some.inj H; clear H
     have hlen := fun ty => HO.out.len (t := 117) Try.underlying117 ty
     go_wp2
     go_ret
     exact ⟨by rw [HS.out.2.2.2, HRr]; rfl, HB.out⟩

def impl_MostPlaced.l0 : Nat → List (List Int) → Int → List (List Int) → Int → Int → Option (Int × Bool)
  | 0, _, _, _, _, _ => none
  | k + 1, x8, x10, x23, x24, x25 => if x25 < x24 then (if 0 ≤ x25 then (if x25 < (x23.length : Int) then ((impl_cellCount.f k x8 (rd_L3 x23 x25)).bind fun t484 => (impl_MostPlaced.l0 k x8 (wrap64 (x10 + (mn t484 ((rd_L3 x23 x25).length : Int)))) x23 x24 (wrap64 (x25 + 1)))) else (none)) else (none)) else (some (x10, true))
def impl_MostPlaced.f (k : Nat) (a0 : Int) (l1 : List ByteArray) (a2 : Int) : Option (Int × Bool) := (impl_pairs.f k a0 l1 a2).bind fun bt476 => (if bt476.2 = true then ((impl_groups.f k bt476.1).bind fun t480 => (impl_MostPlaced.l0 k bt476.1 0 t480 (t480.length : Int) 0)) else (some (0, false)))
theorem impl_MostPlaced.calls (k : Nat) (a0 : Int) (A1 : Option Addr) (c1 : Nat) (l1 : List ByteArray) (a2 : Int) (r1 : Int) (r2 : Bool) (w : World) (hr1 : Kd.C Kd.string w A1 l1.length l1) (hc1 : l1.length ≤ c1) (h : impl_MostPlaced.f k a0 l1 a2 = some (r1, r2)) :
    Calls Try.prog 18 #[.int .i64 a0, .slice A1 l1.length c1, .int .i64 a2] w fun e w' => e = .returned (.tuple #[.int .i64 r1, .bool r2]) ∧ Below w.heap.size w w' := by
  have HR1 := am hr1; have HC1 := am hc1; clear hr1 hc1; have HB := am (Below.refl w.heap.size w); have H : ((impl_pairs.f k a0 l1 a2).bind fun bt476 => (if bt476.2 = true then ((impl_groups.f k bt476.1).bind fun t480 => (impl_MostPlaced.l0 k bt476.1 0 t480 (t480.length : Int) 0)) else (some (0, false)))) = some (r1, r2) := h; clear h; replace H := Option.bind_eq_some_iff.mp H; obtain ⟨⟨t476, t477⟩, A40, H⟩ := H; (try dsimp -simprocs only at H); have A4 := am A40; clear A40
  by_cases c5 : t477 = true
  · subst c5
    rw [if_pos rfl] at H; replace H := Option.bind_eq_some_iff.mp H; obtain ⟨t480, A60, H⟩ := H; (try dsimp -simprocs only at H); have A6 := am A60; clear A60; have H' := am H; clear H
    go_enter Try.func18, Try.ntmps18
    go_wp2_with (first | ((with_reducible refine gate_callee (f := 60) rfl ?_); refine gL (some 17) Try.func60 #[.int .i64 a0, .slice A1 l1.length c1, .int .i64 a2] ?_; (with_reducible refine (impl_pairs.calls k a0 _ _ l1 a2 t476 true _ ?side1 ?side2 A4.out).mono ?_); (case side1 => exact Cz HR1.out); (case side2 => exact HC1.out); rintro e w7 ⟨v478, rfl, ho0, hb⟩; refine ⟨_, rfl, ?_⟩; have n0_ := am (Kd.S_lower ho0 (below_size (Bz HB.out))); have n1_ := Bb HB hb; clear HB; revert n0_ n1_; intro HO479 HB; (try clear hb); (try clear hb2); (try clear hk); (try clear hi); (try clear ho0); obtain ⟨Ao8, co8, eo8⟩ := Kd.S_slice HO479.out; subst eo8) | ((with_reducible refine gate_callee (f := 61) rfl ?_); refine gL (some 23) Try.func61 #[.slice Ao8 t476.length co8] ?_; (with_reducible refine (impl_groups.calls k _ _ t476 t480 _ ?side1 ?side2 A6.out).mono ?_); (case side1 => exact Cz ((Kd.S_reads' HO479.out).2.2)); (case side2 => exact (Kd.S_reads' HO479.out).2.1); rintro e w9 ⟨v481, rfl, ho0, hb⟩; refine ⟨_, rfl, ?_⟩; have n0_ := am (Kd.S_elder' (by (with_reducible repeat (first | apply Kd.S_alloc | apply Kd.S_drewN | apply Kd.S_drew)); exact HO479.out) (Kd.S_base ho0) hb); have n1_ := am (Kd.S_lower (Kd.S_new' ho0 (Kd.S_lt (by (with_reducible repeat (first | apply Kd.S_alloc | apply Kd.S_drewN | apply Kd.S_drew)); exact HO479.out))) (below_size (Bz HB.out))); have n2_ := Bb HB hb; clear HO479 HB; revert n0_ n1_ n2_; intro HO479 HO482 HB; (try clear hb); (try clear hb2); (try clear hk); (try clear hi); (try clear ho0); obtain ⟨Ao10, co10, eo10⟩ := Kd.S_slice HO482.out; subst eo10))
    (try simp only [aP])
    go_loopg [10, 25] k (fun kq v10 v25 w' => ∃ (x10_1 : Int) (x25_1 : Int), v10 = .int .i64 x10_1 ∧ v25 = .int .i64 x25_1 ∧ Aside0 (impl_MostPlaced.l0 kq t476 x10_1 t480 (t480.length : Int) x25_1 = some (r1, r2)) ∧ Aside0 (kq ≤ k) ∧ Aside0 (Kd.S (Kd.slice 3 (Kd.int .i64)) 31 w' w.heap.size (fun k_ => some k_ ≠ ((.slice Ao10 t480.length co10) : Value).ownBlock) (.slice Ao8 t476.length co8) t476) ∧ Aside0 (Kd.S (Kd.slice 3 (Kd.int .i64)) 31 w' w.heap.size (fun k_ => some k_ ≠ ((.slice Ao8 t476.length co8) : Value).ownBlock) (.slice Ao10 t480.length co10) t480) ∧ Aside0 (Below w.heap.size w w'))
    case atStart => exact ⟨(0), (0), wZ, wZ, H', ⟨Nat.le_refl _⟩, ⟨by (with_reducible repeat (first | apply Kd.S_alloc | apply Kd.S_drewN | apply Kd.S_drew)); exact Kd.S_mono HO479.out (fun _ hk => hk.2)⟩, ⟨by (with_reducible repeat (first | apply Kd.S_alloc | apply Kd.S_drewN | apply Kd.S_drew)); exact Kd.S_mono HO482.out (fun _ hk => hk.2)⟩, ⟨Bz HB.out⟩⟩
    case round =>
      clear H'
      try clear c1
      try clear p2
      try clear c5
      try clear c6
      obtain ⟨x10_1, x25_1, rfl, rfl, HA, HK1, HO_8, HO_23, HB⟩ := hrel; cases gk with
      | zero => exact absurd HA.out (by simp [impl_MostPlaced.l0])
      | succ k1 =>
        have H := HA.out; clear HA
        simp only [impl_MostPlaced.l0] at H
        by_cases c11 : x25_1 < (t480.length : Int)
        · rw [if_pos c11] at H
          have c11b0 : decide (x25_1 < (t480.length : Int)) = true := decide_eq_true c11; clear c11
          by_cases c12 : 0 ≤ x25_1
          · rw [if_pos c12] at H
            have c12b0 : decide (0 ≤ x25_1) = true := decide_eq_true c12; clear c12
            by_cases c13 : x25_1 < (t480.length : Int)
            · rw [if_pos c13] at H
              have c13b0 : decide (x25_1 < (t480.length : Int)) = true := decide_eq_true c13; clear c13; replace H := Option.bind_eq_some_iff.mp H; obtain ⟨t484, A140, H⟩ := H; (try dsimp -simprocs only at H); have A14 := am A140; clear A140; obtain ⟨ji15, hji15⟩ : ∃ j_ : Int, (mn t484 ((rd_L3 t480 x25_1).length : Int)) = j_ := ⟨_, rfl⟩
              replace H : (impl_MostPlaced.l0 k1 t476 (wrap64 (x10_1 + (ji15))) t480 (t480.length : Int) (wrap64 (x25_1 + 1))) = some (r1, r2) := by first | (rw [hji15] at H; exact H) | (simp only [hji15] at H ⊢; exact H)
              (try rw [hji15] at A14)
              have hji15_ : (if ((rd_L3 t480 x25_1).length : Int) < t484 then ((rd_L3 t480 x25_1).length : Int) else t484) = ji15 := hji15; have H' := am H; clear H; have p483 : 0 ≤ (x25_1 : Int) := dT; have q483 : x25_1 < (t480.length : Int) := dT; obtain ⟨ad483, A483_0, c483_0, e483, hx483_0, hl483_0, hi483_0⟩ := at_L3 (Kd.S_reads' HO_23.out).2.2 x25_1 p483 q483; cases e483; obtain ⟨ce483, hce483, hMe483, hcc483⟩ := Kd.S_get HO_23.out [] x25_1 p483 (by first | exact q483 | exact dT | (have e_ := (Kd.S_reads' HO_23.out).1; omega)); obtain ⟨ve483_0, rfl, ge483_0⟩ := hMe483; have hv483_0 := hcc483 0 _ rfl; rw [Nat.add_zero, show ((Kd.slice 3 (Kd.int .i64))).sz = 1 from rfl, Nat.mul_one] at hv483_0; replace hv483_0 := Option.some.inj (hv483_0.symm.trans hx483_0); rw [hv483_0] at ge483_0; have HL483_0 := am (show Kd.R (Kd.int .i64) 3 _ _ _ _ (rd_L3 t480 x25_1) from ge483_0); clear hv483_0 ge483_0; clear hcc483 hce483; have HR483_0 := am hi483_0; have HC483_0 := am hl483_0; clear hi483_0 hl483_0; replace p483 := eq_true p483; replace q483 := eq_true q483
              go_wp2_with (first | ((with_reducible refine gate_callee (f := 69) rfl ?_); refine gL (some 32) Try.func69 #[.slice Ao8 t476.length co8, .slice A483_0 (rd_L3 t480 x25_1).length c483_0] ?_; (with_reducible refine (impl_cellCount.calls k1 _ _ t476 _ _ (rd_L3 t480 x25_1) t484 _ ?side1 ?side2 ?side3 ?side4 A14.out).mono ?_); (case side1 => exact Cz ((Kd.S_reads' HO_8.out).2.2)); (case side2 => exact (Kd.S_reads' HO_8.out).2.1); (case side3 => repeat (first | exact (by repeat (first | (with_reducible exact HR483_0.out) | (with_reducible refine Kd.C_alloc ?_ _) | (with_reducible refine Kd.C_drewN ?_ _) | (with_reducible refine Kd.C_drew ?_) | exact HR483_0.out)) | (with_reducible refine Kd.C_alloc ?_ _) | (with_reducible refine Kd.C_drewN ?_ _) | (with_reducible refine Kd.C_drew ?_))); (case side4 => exact HC483_0.out); rintro e w16 ⟨rfl, hb⟩; refine ⟨_, rfl, ?_⟩; have n0_ := am (Kd.S_below (by (with_reducible repeat (first | apply Kd.S_alloc | apply Kd.S_drewN | apply Kd.S_drew)); exact HO_8.out) hb); have n1_ := am (Kd.S_below (by (with_reducible repeat (first | apply Kd.S_alloc | apply Kd.S_drewN | apply Kd.S_drew)); exact HO_23.out) hb); have n2_ := Rb HL483_0 hb; have n3_ := am (Kd.C_below (by repeat (first | (with_reducible exact HR483_0.out) | (with_reducible refine Kd.C_alloc ?_ _) | (with_reducible refine Kd.C_drewN ?_ _) | (with_reducible refine Kd.C_drew ?_) | exact HR483_0.out)) hb); have n4_ := Bb HB hb; clear HO_8 HO_23 HL483_0 HR483_0 HB; revert n0_ n1_ n2_ n3_ n4_; intro HO_8 HO_23 HL483_0 HR483_0 HB; (try clear hb); (try clear hb2); (try clear hk); (try clear hi)))
              go_roundg k1
              case measure => have := HK1.out; omega
              case rel => exact ⟨(wrap64 (x10_1 + (ji15))), (wrap64 (x25_1 + 1)), (by first | rfl | (simp; done) | (simp only [← hji15] <;> (first | rfl | simp)) | (simp [*]; done)), wZ, H', ⟨by have := HK1.out; omega⟩, ⟨by (with_reducible repeat (first | apply Kd.S_alloc | apply Kd.S_drewN | apply Kd.S_drew)); exact HO_8.out⟩, ⟨by (with_reducible repeat (first | apply Kd.S_alloc | apply Kd.S_drewN | apply Kd.S_drew)); exact HO_23.out⟩, ⟨Bz HB.out⟩⟩
            · rw [if_neg c13] at H
              exact absurd H (by simp)
          · rw [if_neg c12] at H
            exact absurd H (by simp)
        · rw [if_neg c11] at H
          have c11b0 : decide (x25_1 < (t480.length : Int)) = false := decide_eq_false c11; clear c11
          simp only [Option.some.injEq, Prod.mk.injEq] at H
          obtain ⟨rfl, rfl⟩ := H
          go_wp2
          go_ret2
          exact ⟨eZ, Bz HB.out⟩
  · replace c5 := Bool.eq_false_iff.mpr c5
    subst c5
    rw [if_neg (show ¬ (false = true) by decide)] at H
    simp only [Option.some.injEq, Prod.mk.injEq] at H
    obtain ⟨rfl, rfl⟩ := H
    go_enter Try.func18, Try.ntmps18
    go_wp2_with (first | ((with_reducible refine gate_callee (f := 60) rfl ?_); refine gL (some 17) Try.func60 #[.int .i64 a0, .slice A1 l1.length c1, .int .i64 a2] ?_; (with_reducible refine (impl_pairs.calls k a0 _ _ l1 a2 t476 false _ ?side1 ?side2 A4.out).mono ?_); (case side1 => exact Cz HR1.out); (case side2 => exact HC1.out); rintro e w17 ⟨v478, rfl, ho0, hb⟩; refine ⟨_, rfl, ?_⟩; have n0_ := am (Kd.S_lower ho0 (below_size (Bz HB.out))); have n1_ := Bb HB hb; clear HB; revert n0_ n1_; intro HO479 HB; (try clear hb); (try clear hb2); (try clear hk); (try clear hi); (try clear ho0)))
    go_ret2
    exact ⟨eZ, Bz HB.out⟩

end Go.Proofs.Ytephjmmkggcmeaa.PG
-- printed by a program of this session (wip/gp) out of the translation; Lean checks it
namespace Go.Proofs.Ytephjmmkggcmeaa.PG
open Go.RowKit Go.Proofs.YtephjmmkggcmeaaW.PrintWords Go.Proofs.YtephjmmkggcmeaaW.PrintLast Go.Proofs.YtephjmmkggcmeaaW.PrintMore Go.Proofs.YtephjmmkggcmeaaSq
attribute [local go_sem] max2_int min2_int max_two min_two max_three min_three max_four min_four   -- for this text's walks alone
attribute [local go_sem] Go.Proofs.YtephjmmkggcmeaaGp.str_geq Go.Proofs.YtephjmmkggcmeaaGp.str_gtr Go.Proofs.YtephjmmkggcmeaaGp.str_leq
set_option linter.unusedVariables false
set_option linter.unusedSimpArgs false

set_option maxHeartbeats 8000000
set_option maxRecDepth 100000
mutual
def laws_FnGroupsOfKeys.j0 : Nat → Int → List ByteArray → Int → List (List Int) → Bool → Bool → Option (Bool)
 | 0, _, _, _, _, _, _ => none
 | k + 1, x5, x6, x7, x8, x9, x56 => if x56 = true then (some false) else (if x9 = true then (laws_FnGroupsOfKeys.l0 k x5 x6 x7 ([] : List Int) ([] : List Int) 0 x8 (x8.length : Int) 0) else (some true))
def laws_FnGroupsOfKeys.l0 : Nat → Int → List ByteArray → Int → List Int → List Int → Int → List (List Int) → Int → Int → Option (Bool)
 | 0, _, _, _, _, _, _, _, _, _ => none
 | k + 1, x5, x6, x7, x12, x13, x14, x59, x60, x61 => if x61 < x60 then (if 0 ≤ x61 then (if x61 < (x59.length : Int) then (laws_FnGroupsOfKeys.l1 k x5 x6 x7 x12 x13 x14 (rd_L3 x59 x61) ([] : List Int) x59 x60 x61 (rd_L3 x59 x61) ((rd_L3 x59 x61).length : Int) 0) else (none)) else (none)) else ((impl_MostPlaced.f k x5 x6 x7).bind fun bt500 => (if bt500.2 = true then (if bt500.1 = x14 then (some ((x12.length : Int) == (x6.length : Int))) else (some false)) else (some false)))
def laws_FnGroupsOfKeys.l1 : Nat → Int → List ByteArray → Int → List Int → List Int → Int → List Int → List Int → List (List Int) → Int → Int → List Int → Int → Int → Option (Bool)
 | 0, _, _, _, _, _, _, _, _, _, _, _, _, _, _ => none
 | k + 1, x5, x6, x7, x12, x13, x14, x16, x17, x59, x60, x61, x65, x66, x67 => if x67 < x66 then (if 0 ≤ x67 then (if x67 < (x65.length : Int) then ((laws_pHas.f k x12 (rd x65 x67)).bind fun t507 => (if t507 = true then (laws_FnGroupsOfKeys.j3 k x5 x6 x7 x12 x13 x14 x16 x17 (rd x65 x67) x59 x60 x61 x65 x66 x67 true) else (if (rd x65 x67) < 0 then (laws_FnGroupsOfKeys.j3 k x5 x6 x7 x12 x13 x14 x16 x17 (rd x65 x67) x59 x60 x61 x65 x66 x67 true) else (laws_FnGroupsOfKeys.j3 k x5 x6 x7 x12 x13 x14 x16 x17 (rd x65 x67) x59 x60 x61 x65 x66 x67 (decide ((rd x65 x67) ≥ (x6.length : Int))))))) else (none)) else (none)) else (if x13.length + x17.length < 17592186044416 then ((some (x13 ++ x17 : List Int)).bind fun y503 => (if (x17.length : Int) < (x16.length : Int) then (laws_FnGroupsOfKeys.l0 k x5 x6 x7 x12 y503 (wrap64 (x14 + (x17.length : Int))) x59 x60 (wrap64 (x61 + 1))) else (laws_FnGroupsOfKeys.l0 k x5 x6 x7 x12 y503 (wrap64 (x14 + (x16.length : Int))) x59 x60 (wrap64 (x61 + 1))))) else (none))
def laws_FnGroupsOfKeys.j3 : Nat → Int → List ByteArray → Int → List Int → List Int → Int → List Int → List Int → Int → List (List Int) → Int → Int → List Int → Int → Int → Bool → Option (Bool)
 | 0, _, _, _, _, _, _, _, _, _, _, _, _, _, _, _, _ => none
 | k + 1, x5, x6, x7, x12, x13, x14, x16, x17, x19, x59, x60, x61, x65, x66, x67, x83 => if x83 = true then (some false) else (if x12.length < 17592186044416 then ((some (x12 ++ [x19] : List Int)).bind fun y508 => (if 0 ≤ x19 then (if x19 < (x6.length : Int) then ((impl_CellsOf.f k x5 (rdOf ByteArray.empty x6 x19) x7).bind fun bt512 => (if bt512.2.2 = true then ((laws_pHas.f k x13 bt512.1).bind fun t515 => (if t515 = true then (laws_FnGroupsOfKeys.j4 k x5 x6 x7 y508 x13 x14 x16 x17 bt512.1 bt512.2.1 x59 x60 x61 x65 x66 x67 true) else ((laws_pHas.f k x13 bt512.2.1).bind fun t516 => (laws_FnGroupsOfKeys.j4 k x5 x6 x7 y508 x13 x14 x16 x17 bt512.1 bt512.2.1 x59 x60 x61 x65 x66 x67 t516)))) else (laws_FnGroupsOfKeys.j4 k x5 x6 x7 y508 x13 x14 x16 x17 bt512.1 bt512.2.1 x59 x60 x61 x65 x66 x67 true))) else (none)) else (none))) else (none))
def laws_FnGroupsOfKeys.j4 : Nat → Int → List ByteArray → Int → List Int → List Int → Int → List Int → List Int → Int → Int → List (List Int) → Int → Int → List Int → Int → Int → Bool → Option (Bool)
 | 0, _, _, _, _, _, _, _, _, _, _, _, _, _, _, _, _, _ => none
 | k + 1, x5, x6, x7, x12, x13, x14, x16, x17, x20, x21, x59, x60, x61, x65, x66, x67, x110 => if x110 = true then (some false) else ((laws_pHas.f k x17 x20).bind fun t517 => (if t517 = true then ((laws_pHas.f k x17 x21).bind fun t518 => (if t518 = true then (laws_FnGroupsOfKeys.l1 k x5 x6 x7 x12 x13 x14 x16 x17 x59 x60 x61 x65 x66 (wrap64 (x67 + 1))) else (if x17.length < 17592186044416 then (laws_FnGroupsOfKeys.l1 k x5 x6 x7 x12 x13 x14 x16 (x17 ++ [x21]) x59 x60 x61 x65 x66 (wrap64 (x67 + 1))) else (none)))) else (if x17.length < 17592186044416 then ((some (x17 ++ [x20] : List Int)).bind fun y522 => ((laws_pHas.f k y522 x21).bind fun t525 => (if t525 = true then (laws_FnGroupsOfKeys.l1 k x5 x6 x7 x12 x13 x14 x16 y522 x59 x60 x61 x65 x66 (wrap64 (x67 + 1))) else (if y522.length < 17592186044416 then (laws_FnGroupsOfKeys.l1 k x5 x6 x7 x12 x13 x14 x16 (y522 ++ [x21]) x59 x60 x61 x65 x66 (wrap64 (x67 + 1))) else (none))))) else (none))))
end
def laws_FnGroupsOfKeys.f (k : Nat) (l0 : List Int) (l1 : List Int) : Option (Bool) := (laws_big.f l0 l1).bind fun t485 => (if t485 = true then (some true) else ((spec_DrawKeyGroups.f k l0).bind fun bt486 => ((impl_KeyGroups.f k bt486.1 bt486.2.1 bt486.2.2).bind fun bt491 => ((spec_KeyGroups.f k bt486.1 bt486.2.1 bt486.2.2).bind fun bt495 => (if (bt491.2 != bt495.2) = true then (laws_FnGroupsOfKeys.j0 k bt486.1 bt486.2.1 bt486.2.2 bt491.1 bt491.2 true) else ((laws_rSameLists.f k bt491.1 bt495.1).bind fun t499 => (laws_FnGroupsOfKeys.j0 k bt486.1 bt486.2.1 bt486.2.2 bt491.1 bt491.2 (!t499))))))))
theorem laws_FnGroupsOfKeys.j0.dead (k : Nat) (y0 : Int) (y1 : List ByteArray) (y2 : Int) (y3 : List (List Int)) (y4 : Bool) : laws_FnGroupsOfKeys.j0 k y0 y1 y2 y3 y4 true ≠ some true := by cases k <;> simp [laws_FnGroupsOfKeys.j0]
theorem laws_FnGroupsOfKeys.j3.dead (k : Nat) (y0 : Int) (y1 : List ByteArray) (y2 : Int) (y3 : List Int) (y4 : List Int) (y5 : Int) (y6 : List Int) (y7 : List Int) (y8 : Int) (y9 : List (List Int)) (y10 : Int) (y11 : Int) (y12 : List Int) (y13 : Int) (y14 : Int) : laws_FnGroupsOfKeys.j3 k y0 y1 y2 y3 y4 y5 y6 y7 y8 y9 y10 y11 y12 y13 y14 true ≠ some true := by cases k <;> simp [laws_FnGroupsOfKeys.j3]
theorem laws_FnGroupsOfKeys.j4.dead (k : Nat) (y0 : Int) (y1 : List ByteArray) (y2 : Int) (y3 : List Int) (y4 : List Int) (y5 : Int) (y6 : List Int) (y7 : List Int) (y8 : Int) (y9 : Int) (y10 : List (List Int)) (y11 : Int) (y12 : Int) (y13 : List Int) (y14 : Int) (y15 : Int) : laws_FnGroupsOfKeys.j4 k y0 y1 y2 y3 y4 y5 y6 y7 y8 y9 y10 y11 y12 y13 y14 y15 true ≠ some true := by cases k <;> simp [laws_FnGroupsOfKeys.j4]
theorem laws_FnGroupsOfKeys.calls (k : Nat) (A0 : Option Addr) (c0 : Nat) (l0 : List Int) (A1 : Option Addr) (c1 : Nat) (l1 : List Int) (r : Bool) (w : World) (hr0 : Kd.C (Kd.int .u8) w A0 l0.length l0) (hc0 : l0.length ≤ c0) (hr1 : Kd.C (Kd.int .u8) w A1 l1.length l1) (hc1 : l1.length ≤ c1) (h : laws_FnGroupsOfKeys.f k l0 l1 = some r) (hT_ : r = true) :
  Calls Try.prog 3 #[.slice A0 l0.length c0, .slice A1 l1.length c1] w fun e w' => e = .returned (.bool r) ∧ Below w.heap.size w w' := by
 have HR0 := am hr0; have HC0 := am hc0; clear hr0 hc0; have HR1 := am hr1; have HC1 := am hc1; clear hr1 hc1; have HB := am (Below.refl w.heap.size w); have H : ((laws_big.f l0 l1).bind fun t485 => (if t485 = true then (some true) else ((spec_DrawKeyGroups.f k l0).bind fun bt486 => ((impl_KeyGroups.f k bt486.1 bt486.2.1 bt486.2.2).bind fun bt491 => ((spec_KeyGroups.f k bt486.1 bt486.2.1 bt486.2.2).bind fun bt495 => (if (bt491.2 != bt495.2) = true then (laws_FnGroupsOfKeys.j0 k bt486.1 bt486.2.1 bt486.2.2 bt491.1 bt491.2 true) else ((laws_rSameLists.f k bt491.1 bt495.1).bind fun t499 => (laws_FnGroupsOfKeys.j0 k bt486.1 bt486.2.1 bt486.2.2 bt491.1 bt491.2 (!t499))))))))) = some r := h; clear h; have HQT_ := am hT_; clear hT_; replace H := Option.bind_eq_some_iff.mp H; obtain ⟨t485, A30, H⟩ := H; (try dsimp -simprocs only at H); have A3 := am A30; clear A30
 by_cases c4 : t485 = true
 ·subst c4
  rw [if_pos rfl] at H; obtain rfl := Option.some.inj H
  go_enter Try.func3, Try.ntmps3
  go_wp2_with (first | ((with_reducible refine gate_callee (f := 11) rfl ?_); refine gL (some 27) Try.func11 #[.slice A0 l0.length c0, .slice A1 l1.length c1] ?_; (with_reducible refine (laws_big.calls _ _ l0 _ _ l1 true _ ?side1 ?side2 ?side3 ?side4 A3.out).mono ?_); (case side1 => exact Cz HR0.out); (case side2 => exact HC0.out); (case side3 => exact Cz HR1.out); (case side4 => exact HC1.out); rintro e w' ⟨rfl, ⟨nd, rfl⟩⟩; refine ⟨_, rfl, ?_⟩))
  go_ret
  exact ⟨eZ, Bz HB.out⟩
 ·replace c4 := Bool.eq_false_iff.mpr c4
  subst c4
  rw [if_neg (show ¬ (false = true) by decide)] at H; replace H := Option.bind_eq_some_iff.mp H; obtain ⟨⟨t486, t487, t488⟩, A50, H⟩ := H; (try dsimp -simprocs only at H); have A5 := am A50; clear A50; replace H := Option.bind_eq_some_iff.mp H; obtain ⟨⟨t491, t492⟩, A60, H⟩ := H; (try dsimp -simprocs only at H); have A6 := am A60; clear A60; replace H := Option.bind_eq_some_iff.mp H; obtain ⟨⟨t495, t498⟩, A70, H⟩ := H; (try dsimp -simprocs only at H); have A7 := am A70; clear A70; have HC8 := am H; clear H
  go_enter Try.func3, Try.ntmps3
  go_upto_region 6 with (first | ((with_reducible refine gate_callee (f := 11) rfl ?_); refine gL (some 27) Try.func11 #[.slice A0 l0.length c0, .slice A1 l1.length c1] ?_; (with_reducible refine (laws_big.calls _ _ l0 _ _ l1 false _ ?side1 ?side2 ?side3 ?side4 A3.out).mono ?_); (case side1 => exact Cz HR0.out); (case side2 => exact HC0.out); (case side3 => exact Cz HR1.out); (case side4 => exact HC1.out); rintro e w' ⟨rfl, ⟨nd, rfl⟩⟩; refine ⟨_, rfl, ?_⟩) | ((with_reducible refine gate_callee (f := 12) rfl ?_); refine gL (some 30) Try.func12 #[.slice A0 l0.length c0] ?_; (with_reducible refine (spec_DrawKeyGroups.calls k _ _ l0 t486 t487 t488 _ ?side1 ?side2 A5.out).mono ?_); (case side1 => exact Cz HR0.out); (case side2 => exact HC0.out); rintro e w9 ⟨v489, rfl, ho0, hb⟩; refine ⟨_, rfl, ?_⟩; have n0_ := Rl ho0 HB; have n1_ := Bb HB hb; clear HB; revert n0_ n1_; intro HO490 HB; (try clear hb); (try clear hb2); (try clear hk); (try clear hi); (try clear ho0); obtain ⟨Ao10, co10, eo10⟩ := Kd.R_slice HO490.out; subst eo10) | ((with_reducible refine gate_callee (f := 13) rfl ?_); refine gL (some 38) Try.func13 #[.int .i64 t486, .slice Ao10 t487.length co10, .int .i64 t488] ?_; (with_reducible refine (impl_KeyGroups.calls k t486 _ _ t487 t488 t491 t492 _ ?side1 ?side2 A6.out).mono ?_); (case side1 => exact Cz ((Kd.R_reads' HO490.out).2.2)); (case side2 => exact (Kd.R_reads' HO490.out).2.1); rintro e w11 ⟨v493, rfl, ho0, hb⟩; refine ⟨_, rfl, ?_⟩; have n0_ := Rb HO490 hb; have n1_ := am (Kd.N_lower (Kd.N_mono (ok' := fun k_ => some k_ ≠ (.slice Ao10 t487.length co10 : Value).ownBlock) (Kd.S_N (Kd.S_bound ho0)) (fun k_ hk_ => (Kd.fresh' (Kd.R_lt (Rz HO490.out)) k_ hk_.2.1))) (below_size (Bz HB.out))); have n2_ := Bb HB hb; clear HO490 HB; revert n0_ n1_ n2_; intro HO490 HO494 HB; (try clear hb); (try clear hb2); (try clear hk); (try clear hi); (try clear ho0)) | ((with_reducible refine gate_callee (f := 14) rfl ?_); refine gL (some 45) Try.func14 #[.int .i64 t486, .slice Ao10 t487.length co10, .int .i64 t488] ?_; (with_reducible refine (spec_KeyGroups.calls k t486 _ _ t487 t488 t495 t498 _ ?side1 ?side2 A7.out).mono ?_); (case side1 => exact Cz ((Kd.R_reads' HO490.out).2.2)); (case side2 => exact (Kd.R_reads' HO490.out).2.1); rintro e w12 ⟨v496, rfl, ho0, hb⟩; refine ⟨_, rfl, ?_⟩; have n0_ := Rb HO490 hb; have n1_ := am (Kd.N_elder' (by (with_reducible repeat (first | apply Kd.N_alloc | apply Kd.N_drewN | apply Kd.N_drew)); exact HO494.out) (Kd.N_base ho0) hb); have n2_ := am (Kd.N_lower (Kd.N_mono (ok' := fun k_ => some k_ ≠ (.slice Ao10 t487.length co10 : Value).ownBlock ∧ some k_ ≠ (v493 : Value).ownBlock) ho0 (fun k_ hk_ => ⟨(Kd.fresh' (Kd.R_lt (Rz HO490.out)) k_ hk_), (Kd.fresh' (Kd.N_lt (by (with_reducible repeat (first | apply Kd.N_alloc | apply Kd.N_drewN | apply Kd.N_drew)); exact HO494.out)) k_ hk_)⟩)) (below_size (Bz HB.out))); have n3_ := Bb HB hb; clear HO490 HO494 HB; revert n0_ n1_ n2_ n3_; intro HO490 HO494 HO497 HB; (try clear hb); (try clear hb2); (try clear hk); (try clear hi); (try clear ho0)))
  (try simp only [aP])
  go_cut [56] (fun v56 wc => ∃ (kq : Nat) (x56_7 : Bool), v56 = .bool x56_7 ∧ Aside0 (laws_FnGroupsOfKeys.j0 kq t486 t487 t488 t491 t492 x56_7 = some r) ∧ Aside0 (kq ≤ k) ∧ Aside0 (Kd.R Kd.string 9 wc w.heap.size (fun _ => True) (.slice Ao10 t487.length co10) t487) ∧ Aside0 (Kd.N (Kd.slice 3 (Kd.int .i64)) 31 wc w.heap.size (fun k_ => some k_ ≠ ((.slice Ao10 t487.length co10) : Value).ownBlock) v493 t491) ∧ Aside0 (Below w.heap.size w wc))
  case first =>
   have H := HC8.out; clear HC8
   by_cases c13 : (t492 != t498) = true
   ·rw [if_pos c13] at H
    have c13b0 : (t492 != t498) = true := c13
    (try (have c13b1 : decide (t492 = t498) = false := by simpa using c13))
    (try (have c13b2 : (t492 == t498) = false := by simpa using c13))
    (try (have c13b3 : ¬ (t492 = t498) := by simpa using c13))
    (try (have c13b4 : (!(t492 == t498)) = true := c13b0))
    clear c13
    (first | rw [c13b0] | (simp only [i64_w, i32_w]; rw [c13b0]) | skip)
    exact absurd (H.trans (congrArg some HQT_.out)) (laws_FnGroupsOfKeys.j0.dead _ _ _ _ _ _)
   ·rw [if_neg c13] at H
    have c13b0 : (t492 != t498) = false := by simpa using c13
    (try (have c13b1 : decide (t492 = t498) = true := by simpa using c13))
    (try (have c13b2 : (t492 == t498) = true := by simpa using c13))
    (try (have c13b3 : (!(t492 == t498)) = false := c13b0))
    clear c13
    (first | rw [c13b0] | (simp only [i64_w, i32_w]; rw [c13b0]) | skip)
    replace H := Option.bind_eq_some_iff.mp H; obtain ⟨t499, A140, H⟩ := H; (try dsimp -simprocs only at H); have A14 := am A140; clear A140; have H' := am H; clear H; obtain ⟨Ao15, co15, eo15⟩ := Kd.N_slice HO494.out; subst eo15; obtain ⟨Ao16, co16, eo16⟩ := Kd.N_slice HO497.out; subst eo16
    go_wp2_with (first | (go_at_call 15; (with_reducible refine (laws_rSameLists.calls k _ _ t491 _ _ t495 t499 _ ?side1 ?side2 ?side3 ?side4 A14.out).mono ?_); (case side1 => exact Cz ((Kd.N_reads' HO494.out).2.2)); (case side2 => exact (Kd.N_reads' HO494.out).2.1); (case side3 => exact Cz ((Kd.N_reads' HO497.out).2.2)); (case side4 => exact (Kd.N_reads' HO497.out).2.1); rintro e w' ⟨rfl, ⟨nd, rfl⟩⟩))
    go_meet
    case rel => exact ⟨_, (!t499), wZ, H', ⟨by first | omega | exact Nat.le_refl _⟩, ⟨Rz HO490.out⟩, ⟨by (with_reducible repeat (first | apply Kd.N_alloc | apply Kd.N_drewN | apply Kd.N_drew)); exact Kd.N_mono HO494.out (fun _ hk => hk.1)⟩, ⟨Bz HB.out⟩⟩
  case rest =>
   clear HC8
   try clear c1
   try clear p2
   try clear c3
   try clear c4
   try clear c11
   try clear c12
   try clear c13
   try clear c13b0
   try clear c13b1
   try clear c13b2
   try clear c14
   obtain ⟨kq, x56_7, rfl, HA, HJ7, HO_6, HO_8, HB⟩ := hcut; cases kq with
   | zero => exact absurd HA.out (by simp [laws_FnGroupsOfKeys.j0])
   | succ kj7 =>
    have H := HA.out; clear HA
    simp only [laws_FnGroupsOfKeys.j0] at H
    by_cases c17 : x56_7 = true
    ·subst c17
     rw [if_pos rfl] at H; exact absurd (Option.some.inj H) (by rw [HQT_.out]; decide)
    ·replace c17 := Bool.eq_false_iff.mpr c17
     subst c17
     rw [if_neg (show ¬ (false = true) by decide)] at H
     by_cases c18 : t492 = true
     ·subst c18
      rw [if_pos rfl] at H; have H' := am H; clear H; obtain ⟨Ao19, co19, eo19⟩ := Kd.N_slice HO_8.out; subst eo19
      go_wp2
      go_loopg [12, 13, 14, 61] kj7 (fun kq v12 v13 v14 v61 w' => ∃ (x12_2 : List Int) (x13_2 : List Int) (x14_2 : Int) (x61_2 : Int), v14 = .int .i64 x14_2 ∧ v61 = .int .i64 x61_2 ∧ Aside0 (laws_FnGroupsOfKeys.l0 kq t486 t487 t488 x12_2 x13_2 x14_2 t491 (t491.length : Int) x61_2 = some r) ∧ Aside0 (kq ≤ kj7) ∧ Aside0 (Kd.R Kd.string 9 w' w.heap.size (fun _ => True) (.slice Ao10 t487.length co10) t487) ∧ Aside0 (Kd.R (Kd.int .i64) 3 w' w.heap.size (fun k_ => some k_ ≠ (v13 : Value).ownBlock) v12 x12_2) ∧ Aside0 (Kd.R (Kd.int .i64) 3 w' w.heap.size (fun k_ => some k_ ≠ (v12 : Value).ownBlock) v13 x13_2) ∧ Aside0 (Kd.N (Kd.slice 3 (Kd.int .i64)) 31 w' w.heap.size (fun k_ => some k_ ≠ ((.slice Ao10 t487.length co10) : Value).ownBlock ∧ some k_ ≠ (v12 : Value).ownBlock ∧ some k_ ≠ (v13 : Value).ownBlock) (.slice Ao19 t491.length co19) t491) ∧ Aside0 (Below w.heap.size w w'))
      case atStart => exact ⟨(([] : List Int)), (([] : List Int)), (0), (0), wZ, wZ, H', ⟨Nat.le_refl _⟩, ⟨Rz HO_6.out⟩, ⟨nZ⟩, ⟨nZ⟩, ⟨by (with_reducible repeat (first | apply Kd.N_alloc | apply Kd.N_drewN | apply Kd.N_drew)); exact Kd.N_mono HO_8.out (fun _ hk => ⟨hk, ⟨(by simp [Value.ownBlock]), (by simp [Value.ownBlock])⟩⟩)⟩, ⟨Bz HB.out⟩⟩
      case round =>
       clear H'
       try clear c1
       try clear p2
       try clear c3
       try clear c4
       try clear c11
       try clear c12
       try clear c13
       try clear c13b0
       try clear c13b1
       try clear c13b2
       try clear c14
       try clear c17
       try clear c18
       try clear p2
       obtain ⟨x12_2, x13_2, x14_2, x61_2, rfl, rfl, HA, HK2, HO_6, HO_12, HO_13, HO_59, HB⟩ := hrel; cases gk with
       | zero => exact absurd HA.out (by simp [laws_FnGroupsOfKeys.l0])
       | succ k2 =>
        have H := HA.out; clear HA
        simp only [laws_FnGroupsOfKeys.l0] at H
        by_cases c20 : x61_2 < (t491.length : Int)
        ·rw [if_pos c20] at H
         have c20b0 : decide (x61_2 < (t491.length : Int)) = true := decide_eq_true c20; clear c20
         by_cases c21 : 0 ≤ x61_2
         ·rw [if_pos c21] at H
          have c21b0 : decide (0 ≤ x61_2) = true := decide_eq_true c21; clear c21
          by_cases c22 : x61_2 < (t491.length : Int)
          ·rw [if_pos c22] at H
           have c22b0 : decide (x61_2 < (t491.length : Int)) = true := decide_eq_true c22; clear c22; have H' := am H; clear H; have p502 : 0 ≤ (x61_2 : Int) := dT; have q502 : x61_2 < (t491.length : Int) := dT; obtain ⟨ad502, A502_0, c502_0, e502, hx502_0, hl502_0, hi502_0⟩ := at_L3 (Kd.N_reads' HO_59.out).2.2 x61_2 p502 q502; cases e502; obtain ⟨ce502, hce502, hMe502, hcc502⟩ := Kd.N_get HO_59.out [] x61_2 p502 (by first | exact q502 | exact dT | (have e_ := (Kd.N_reads' HO_59.out).1; omega)); obtain ⟨ua502_0, uc502_0, rfl, ul502_0, ge502_0⟩ := Kd.FK_slice_open hMe502; have hv502_0 := hcc502 0 _ rfl; rw [Nat.add_zero, show ((Kd.slice 3 (Kd.int .i64))).sz = 1 from rfl, Nat.mul_one] at hv502_0; replace hv502_0 := Option.some.inj (hv502_0.symm.trans hx502_0)
           injection hv502_0 with hva_ hvn_ hvc_
           rw [hva_] at ge502_0; rw [hvc_] at ul502_0; have HL502_0 := am (show Kd.V (Kd.int .i64) 3 _ w.heap.size _ _ (rd_L3 t491 x61_2) from Kd.V_mk ul502_0 ge502_0); clear hva_ hvn_ hvc_ ge502_0 ul502_0; clear hcc502 hce502; have HR502_0 := am hi502_0; have HC502_0 := am hl502_0; clear hi502_0 hl502_0; replace p502 := eq_true p502; replace q502 := eq_true q502
           go_wp2
           go_loopg [12, 17, 67] k2 (fun kq v12 v17 v67 w' => ∃ (x12_3 : List Int) (x17_3 : List Int) (x67_3 : Int), v67 = .int .i64 x67_3 ∧ Aside0 (laws_FnGroupsOfKeys.l1 kq t486 t487 t488 x12_3 x13_2 x14_2 (rd_L3 t491 x61_2) x17_3 t491 (t491.length : Int) x61_2 (rd_L3 t491 x61_2) ((rd_L3 t491 x61_2).length : Int) x67_3 = some r) ∧ Aside0 (kq ≤ k2) ∧ Aside0 (Kd.R Kd.string 9 w' w.heap.size (fun _ => True) (.slice Ao10 t487.length co10) t487) ∧ Aside0 (Kd.R (Kd.int .i64) 3 w' w.heap.size (fun k_ => some k_ ≠ (u13 : Value).ownBlock ∧ some k_ ≠ (v17 : Value).ownBlock) v12 x12_3) ∧ Aside0 (Kd.R (Kd.int .i64) 3 w' w.heap.size (fun k_ => some k_ ≠ (v12 : Value).ownBlock ∧ some k_ ≠ (v17 : Value).ownBlock) u13 x13_2) ∧ Aside0 (Kd.R (Kd.int .i64) 3 w' w.heap.size (fun k_ => some k_ ≠ (v12 : Value).ownBlock ∧ some k_ ≠ (u13 : Value).ownBlock) v17 x17_3) ∧ Aside0 (Kd.N (Kd.slice 3 (Kd.int .i64)) 31 w' w.heap.size (fun k_ => some k_ ≠ ((.slice Ao10 t487.length co10) : Value).ownBlock ∧ some k_ ≠ (v12 : Value).ownBlock ∧ some k_ ≠ (u13 : Value).ownBlock ∧ some k_ ≠ (v17 : Value).ownBlock) (.slice (some ad502) t491.length co19) t491) ∧ Aside0 (Kd.V (Kd.int .i64) 3 w' w.heap.size (fun k_ => some k_ ≠ ((.slice Ao10 t487.length co10) : Value).ownBlock ∧ some k_ ≠ (v12 : Value).ownBlock ∧ some k_ ≠ (u13 : Value).ownBlock ∧ some k_ ≠ (v17 : Value).ownBlock) (.slice A502_0 (rd_L3 t491 x61_2).length c502_0) (rd_L3 t491 x61_2)) ∧ Aside0 (Below w.heap.size w w'))
           case atStart => exact ⟨(x12_2), (([] : List Int)), (0), wZ, H', ⟨Nat.le_refl _⟩, ⟨Rz HO_6.out⟩, ⟨Rz (Kd.R_mono HO_12.out (fun _ hk => ⟨hk, (by simp [Value.ownBlock])⟩))⟩, ⟨Rz (Kd.R_mono HO_13.out (fun _ hk => ⟨hk, (by simp [Value.ownBlock])⟩))⟩, ⟨nZ⟩, ⟨by (with_reducible repeat (first | apply Kd.N_alloc | apply Kd.N_drewN | apply Kd.N_drew)); exact Kd.N_mono HO_59.out (fun _ hk => ⟨hk.1, ⟨hk.2.1, ⟨hk.2.2, (by simp [Value.ownBlock])⟩⟩⟩)⟩, ⟨by (with_reducible repeat (first | apply Kd.V_alloc | apply Kd.V_drewN | apply Kd.V_drew)); exact Kd.V_mono HL502_0.out (fun _ hk_ => have hk := hk_.1; ⟨hk.1, ⟨hk.2.1, ⟨hk.2.2, (by simp [Value.ownBlock])⟩⟩⟩)⟩, ⟨Bz HB.out⟩⟩
           case round =>
            clear H'
            try clear c1
            try clear c2
            try clear p2
            try clear c3
            try clear c4
            try clear c5
            try clear p5
            try clear q5
            try clear hx5
            try clear c11
            try clear c12
            try clear c13
            try clear c13b0
            try clear c13b1
            try clear c13b2
            try clear c14
            try clear c17
            try clear c18
            try clear c20
            try clear c20b0
            try clear c21
            try clear c21b0
            try clear c22
            try clear c22b0
            try clear hx502_0
            try clear p2
            try clear p502
            try clear q502
            obtain ⟨x12_3, x17_3, x67_3, rfl, HA, HK3, HO_6, HO_12, HO_13, HO_17, HO_59, HLT, HB⟩ := hrel; cases gk with
            | zero => exact absurd HA.out (by simp [laws_FnGroupsOfKeys.l1])
            | succ k3 =>
             have H := HA.out; clear HA
             simp only [laws_FnGroupsOfKeys.l1] at H
             by_cases c23 : x67_3 < ((rd_L3 t491 x61_2).length : Int)
             ·rw [if_pos c23] at H
              have c23b0 : decide (x67_3 < ((rd_L3 t491 x61_2).length : Int)) = true := decide_eq_true c23; clear c23
              by_cases c24 : 0 ≤ x67_3
              ·rw [if_pos c24] at H
               have c24b0 : decide (0 ≤ x67_3) = true := decide_eq_true c24; clear c24
               by_cases c25 : x67_3 < ((rd_L3 t491 x61_2).length : Int)
               ·rw [if_pos c25] at H
                have c25b0 : decide (x67_3 < ((rd_L3 t491 x61_2).length : Int)) = true := decide_eq_true c25; clear c25; have HC26 := am H; clear H; obtain ⟨ad506, e506, hx506_0⟩ := Kd.at_int (Kd.V_reads' HLT.out).2.2 x67_3 dT dT; cases e506; have p506 := eT (0 ≤ (x67_3 : Int)); have q506 := eT (x67_3 < ((rd_L3 t491 x61_2).length : Int))
                go_upto_region 19 with (fail)
                go_cut [83] (fun v83 wc => ∃ (kq : Nat) (x83_25 : Bool), v83 = .bool x83_25 ∧ Aside0 (laws_FnGroupsOfKeys.j3 kq t486 t487 t488 x12_3 x13_2 x14_2 (rd_L3 t491 x61_2) x17_3 (rd (rd_L3 t491 x61_2) x67_3) t491 (t491.length : Int) x61_2 (rd_L3 t491 x61_2) ((rd_L3 t491 x61_2).length : Int) x67_3 x83_25 = some r) ∧ Aside0 (kq ≤ k3) ∧ Aside0 (Kd.R Kd.string 9 wc w.heap.size (fun _ => True) (.slice Ao10 t487.length co10) t487) ∧ Aside0 (Kd.R (Kd.int .i64) 3 wc w.heap.size (fun k_ => some k_ ≠ (u13 : Value).ownBlock ∧ some k_ ≠ (u17 : Value).ownBlock) u12 x12_3) ∧ Aside0 (Kd.R (Kd.int .i64) 3 wc w.heap.size (fun k_ => some k_ ≠ (u12 : Value).ownBlock ∧ some k_ ≠ (u17 : Value).ownBlock) u13 x13_2) ∧ Aside0 (Kd.R (Kd.int .i64) 3 wc w.heap.size (fun k_ => some k_ ≠ (u12 : Value).ownBlock ∧ some k_ ≠ (u13 : Value).ownBlock) u17 x17_3) ∧ Aside0 (Kd.N (Kd.slice 3 (Kd.int .i64)) 31 wc w.heap.size (fun k_ => some k_ ≠ ((.slice Ao10 t487.length co10) : Value).ownBlock ∧ some k_ ≠ (u12 : Value).ownBlock ∧ some k_ ≠ (u13 : Value).ownBlock ∧ some k_ ≠ (u17 : Value).ownBlock) (.slice (some ad502) t491.length co19) t491) ∧ Aside0 (Kd.V (Kd.int .i64) 3 wc w.heap.size (fun k_ => some k_ ≠ ((.slice Ao10 t487.length co10) : Value).ownBlock ∧ some k_ ≠ (u12 : Value).ownBlock ∧ some k_ ≠ (u13 : Value).ownBlock ∧ some k_ ≠ (u17 : Value).ownBlock) (.slice (some ad506) (rd_L3 t491 x61_2).length c502_0) (rd_L3 t491 x61_2)) ∧ Aside0 (Below w.heap.size w wc))
                case first =>
                 have H := HC26.out; clear HC26; replace H := Option.bind_eq_some_iff.mp H; obtain ⟨t507, A270, H⟩ := H; (try dsimp -simprocs only at H); have A27 := am A270; clear A270
                 by_cases c28 : t507 = true
                 ·subst c28
                  rw [if_pos rfl] at H; exact absurd (H.trans (congrArg some HQT_.out)) (laws_FnGroupsOfKeys.j3.dead _ _ _ _ _ _ _ _ _ _ _ _ _ _ _ _)
                 ·replace c28 := Bool.eq_false_iff.mpr c28
                  subst c28
                  rw [if_neg (show ¬ (false = true) by decide)] at H
                  by_cases c29 : (rd (rd_L3 t491 x61_2) x67_3) < 0
                  ·rw [if_pos c29] at H
                   have c29b0 : decide ((rd (rd_L3 t491 x61_2) x67_3) < 0) = true := decide_eq_true c29; clear c29
                   (first | rw [c29b0] | (simp only [i64_w, i32_w]; rw [c29b0]) | skip)
                   exact absurd (H.trans (congrArg some HQT_.out)) (laws_FnGroupsOfKeys.j3.dead _ _ _ _ _ _ _ _ _ _ _ _ _ _ _ _)
                  ·rw [if_neg c29] at H
                   have c29b0 : decide ((rd (rd_L3 t491 x61_2) x67_3) < 0) = false := decide_eq_false c29; clear c29
                   (first | rw [c29b0] | (simp only [i64_w, i32_w]; rw [c29b0]) | skip)
                   have H' := am H; clear H; obtain ⟨Ao30, co30, eo30⟩ := Kd.R_slice HO_12.out; subst eo30
                   go_wp2_with (first | ((with_reducible refine gate_callee (f := 16) rfl ?_); refine gL (some 73) Try.func16 #[.slice Ao30 x12_3.length co30, .int .i64 (rd (rd_L3 t491 x61_2) x67_3)] ?_; (with_reducible refine (laws_pHas.calls k3 _ _ x12_3 (rd (rd_L3 t491 x61_2) x67_3) false _ ?side1 ?side2 A27.out).mono ?_); (case side1 => exact Cz ((Kd.R_reads' HO_12.out).2.2)); (case side2 => exact (Kd.R_reads' HO_12.out).2.1); rintro e w' ⟨rfl, ⟨nd, rfl⟩⟩; refine ⟨_, rfl, ?_⟩))
                   go_meet
                   case rel => exact ⟨_, (decide ((rd (rd_L3 t491 x61_2) x67_3) ≥ (t487.length : Int))), wZ, H', ⟨by have := HJ7.out; have := HK2.out; have := HK3.out; first | omega | exact Nat.le_refl _⟩, ⟨Rz HO_6.out⟩, ⟨Rz HO_12.out⟩, ⟨Rz HO_13.out⟩, ⟨Rz HO_17.out⟩, ⟨by (with_reducible repeat (first | apply Kd.N_alloc | apply Kd.N_drewN | apply Kd.N_drew)); exact HO_59.out⟩, ⟨by (with_reducible repeat (first | apply Kd.V_alloc | apply Kd.V_drewN | apply Kd.V_drew)); exact HLT.out⟩, ⟨Bz HB.out⟩⟩
                case rest =>
                 clear HC26
                 try clear c1
                 try clear c2
                 try clear p2
                 try clear c3
                 try clear c4
                 try clear c5
                 try clear p5
                 try clear q5
                 try clear hx5
                 try clear c11
                 try clear c12
                 try clear c13
                 try clear c13b0
                 try clear c13b1
                 try clear c13b2
                 try clear c14
                 try clear c16
                 try clear c17
                 try clear c18
                 try clear c20
                 try clear c20b0
                 try clear c21
                 try clear c21b0
                 try clear c22
                 try clear c22b0
                 try clear c23
                 try clear c23b0
                 try clear c24
                 try clear c24b0
                 try clear c25
                 try clear c25b0
                 try clear c28
                 try clear c29
                 try clear c29b0
                 try clear hx502_0
                 try clear hx506_0
                 try clear p2
                 try clear p5
                 try clear p502
                 try clear p506
                 try clear q5
                 try clear q502
                 try clear q506
                 obtain ⟨kq, x83_25, rfl, HA, HJ25, HO_6, HO_12, HO_13, HO_17, HO_59, HLT, HB⟩ := hcut; cases kq with
                 | zero => exact absurd HA.out (by simp [laws_FnGroupsOfKeys.j3])
                 | succ kj25 =>
                  have H := HA.out; clear HA
                  simp only [laws_FnGroupsOfKeys.j3] at H
                  by_cases c31 : x83_25 = true
                  ·subst c31
                   rw [if_pos rfl] at H; exact absurd (Option.some.inj H) (by rw [HQT_.out]; decide)
                  ·replace c31 := Bool.eq_false_iff.mpr c31
                   subst c31
                   rw [if_neg (show ¬ (false = true) by decide)] at H
                   by_cases c32 : x12_3.length < 17592186044416
                   ·rw [if_pos c32] at H
                    have LMc32 := am c32; clear c32; obtain ⟨y508, hy508⟩ : ∃ y_ : List Int, y_ = (x12_3 ++ [(rd (rd_L3 t491 x61_2) x67_3)]) := ⟨_, rfl⟩
                    replace H : (if 0 ≤ (rd (rd_L3 t491 x61_2) x67_3) then (if (rd (rd_L3 t491 x61_2) x67_3) < (t487.length : Int) then ((impl_CellsOf.f kj25 t486 (rdOf ByteArray.empty t487 (rd (rd_L3 t491 x61_2) x67_3)) t488).bind fun bt512 => (if bt512.2.2 = true then ((laws_pHas.f kj25 x13_2 bt512.1).bind fun t515 => (if t515 = true then (laws_FnGroupsOfKeys.j4 kj25 t486 t487 t488 y508 x13_2 x14_2 (rd_L3 t491 x61_2) x17_3 bt512.1 bt512.2.1 t491 (t491.length : Int) x61_2 (rd_L3 t491 x61_2) ((rd_L3 t491 x61_2).length : Int) x67_3 true) else ((laws_pHas.f kj25 x13_2 bt512.2.1).bind fun t516 => (laws_FnGroupsOfKeys.j4 kj25 t486 t487 t488 y508 x13_2 x14_2 (rd_L3 t491 x61_2) x17_3 bt512.1 bt512.2.1 t491 (t491.length : Int) x61_2 (rd_L3 t491 x61_2) ((rd_L3 t491 x61_2).length : Int) x67_3 t516)))) else (laws_FnGroupsOfKeys.j4 kj25 t486 t487 t488 y508 x13_2 x14_2 (rd_L3 t491 x61_2) x17_3 bt512.1 bt512.2.1 t491 (t491.length : Int) x61_2 (rd_L3 t491 x61_2) ((rd_L3 t491 x61_2).length : Int) x67_3 true))) else (none)) else (none)) = some r := by first | (rw [hy508]; with_reducible exact H) | (have H2_ := (Option.bind_some _ _).symm.trans H; rw [hy508]; with_reducible exact H2_) | (have H2_ := (Option.bind_some _ _).symm.trans H; with_reducible exact H2_) | with_reducible exact H | (rw [hy508]; exact H) | exact H
                    have Ny508 := am hy508; clear hy508
                    by_cases c33 : 0 ≤ (rd (rd_L3 t491 x61_2) x67_3)
                    ·rw [if_pos c33] at H
                     have c33b0 : decide (0 ≤ (rd (rd_L3 t491 x61_2) x67_3)) = true := decide_eq_true c33; clear c33
                     by_cases c34 : (rd (rd_L3 t491 x61_2) x67_3) < (t487.length : Int)
                     ·rw [if_pos c34] at H
                      have c34b0 : decide ((rd (rd_L3 t491 x61_2) x67_3) < (t487.length : Int)) = true := decide_eq_true c34; clear c34; replace H := Option.bind_eq_some_iff.mp H; obtain ⟨⟨t512, t513, t514⟩, A350, H⟩ := H; (try dsimp -simprocs only at H); have A35 := am A350; clear A350; have HC36 := am H; clear H
                      go_upto_region 23 with (first | ((with_reducible refine gate_builtin (b := .append) (xs := #[.tmp 84, .tmp 86]) rfl ?_); (try (refine gate_guard (by rfl) ?_; dsimp only)); at_builtin; refine Kd.R_append (Kd.int .i64) (w0 := w) w.heap.size rfl (.tmp 84) (.tmp 86) 31 3 (.int .i64 0) 8 rfl Try.underlying31 info3 rfl (by decide) (by omega) u12 x12_3 (rd (rd_L3 t491 x61_2) x67_3) [.int .i64 (rd (rd_L3 t491 x61_2) x67_3)] (fun k_ => some k_ ≠ (u13 : Value).ownBlock ∧ some k_ ≠ (u17 : Value).ownBlock) (fun _ => False) rfl rfl ?aP (fun _ hk => hk.elim) ?aF ?aO ?aB ?aS ?aL ?_; (case aP => exact rfl); (case aB => exact (Bz HB.out)); (case aF => exact (fun k_ hk => ⟨Kd.fresh' (Kd.R_lt (Rz HO_13.out)) k_ hk, Kd.fresh' (Kd.R_lt (Rz HO_17.out)) k_ hk⟩)); (case aO => exact (Rz HO_12.out)); (case aS => exact (below_size (Bz HB.out))); (case aL => have := LMc32.out; omega); intro v509 w37 ho hb hg hat; rw [← Ny508.out] at ho; have n0_ := am (Kd.R_over' (Rz HO_6.out) (Kd.R_typed (Rz HO_12.out)) (by decide) hg); have n1_ := am (Kd.R_after (ok := (fun k_ => some k_ ≠ (u17 : Value).ownBlock)) (Rz (Kd.R_mono HO_13.out (fun _ hk => ⟨hk.2, hk.1⟩))) hg hat); have n2_ := am (Kd.R_after (ok := (fun k_ => some k_ ≠ (u13 : Value).ownBlock)) (Rz (Kd.R_mono HO_17.out (fun _ hk => ⟨hk.2, hk.1⟩))) hg hat); have n3_ := am (Kd.N_afterv (ok := (fun k_ => some k_ ≠ (.slice Ao10 t487.length co10 : Value).ownBlock ∧ some k_ ≠ (u13 : Value).ownBlock ∧ some k_ ≠ (u17 : Value).ownBlock)) (by (with_reducible repeat (first | apply Kd.N_alloc | apply Kd.N_drewN | apply Kd.N_drew)); exact Kd.N_mono HO_59.out (fun _ hk => ⟨⟨hk.1, ⟨hk.2.2.1, hk.2.2.2⟩⟩, hk.2.1⟩)) hg hat); have n39_ := am (Kd.V_afterv (ok := (fun k_ => some k_ ≠ (.slice Ao10 t487.length co10 : Value).ownBlock ∧ some k_ ≠ (u13 : Value).ownBlock ∧ some k_ ≠ (u17 : Value).ownBlock)) (by (with_reducible repeat (first | apply Kd.V_alloc | apply Kd.V_drewN | apply Kd.V_drew)); exact Kd.V_mono HLT.out (fun _ hk => ⟨⟨hk.1, ⟨hk.2.2.1, hk.2.2.2⟩⟩, hk.2.1⟩)) hg hat); have n4_ := am (hb); have n5_ := am (ho); clear HO_6 HO_13 HO_17 HO_59 HLT HB HO_12; revert n0_ n1_ n2_ n3_ n39_ n4_ n5_; intro HO_6 HO_13 HO_17 HO_59 HLT HB HO510; clear ho hb hg hat; obtain ⟨ad511, e511, hx511_0⟩ := Kd.at_string (Kd.R_reads' HO_6.out).2.2 (rd (rd_L3 t491 x61_2) x67_3) dT dT; cases e511; have p511 := eT (0 ≤ ((rd (rd_L3 t491 x61_2) x67_3) : Int)); have q511 := eT ((rd (rd_L3 t491 x61_2) x67_3) < (t487.length : Int))) | ((with_reducible refine gate_callee (f := 17) rfl ?_); refine gL (some 95) Try.func17 #[.int .i64 t486, .string (rdOf ByteArray.empty t487 (rd (rd_L3 t491 x61_2) x67_3)), .int .i64 t488] ?_; (with_reducible refine (impl_CellsOf.calls kj25 t486 (rdOf ByteArray.empty t487 (rd (rd_L3 t491 x61_2) x67_3)) t488 t512 t513 t514 _ A35.out).mono ?_); rintro e w' ⟨rfl, ⟨nd, rfl⟩⟩; refine ⟨_, rfl, ?_⟩))
                      (try simp only [aP])
                      go_cut [110] (fun v110 wc => ∃ (kq : Nat) (x110_35 : Bool), v110 = .bool x110_35 ∧ Aside0 (laws_FnGroupsOfKeys.j4 kq t486 t487 t488 y508 x13_2 x14_2 (rd_L3 t491 x61_2) x17_3 t512 t513 t491 (t491.length : Int) x61_2 (rd_L3 t491 x61_2) ((rd_L3 t491 x61_2).length : Int) x67_3 x110_35 = some r) ∧ Aside0 (kq ≤ kj25) ∧ Aside0 (Kd.R Kd.string 9 wc w.heap.size (fun _ => True) (.slice (some ad511) t487.length co10) t487) ∧ Aside0 (Kd.R (Kd.int .i64) 3 wc w.heap.size (fun k_ => some k_ ≠ (u13 : Value).ownBlock ∧ some k_ ≠ (u17 : Value).ownBlock) v509 y508) ∧ Aside0 (Kd.R (Kd.int .i64) 3 wc w.heap.size (fun k_ => some k_ ≠ (v509 : Value).ownBlock ∧ some k_ ≠ (u17 : Value).ownBlock) u13 x13_2) ∧ Aside0 (Kd.R (Kd.int .i64) 3 wc w.heap.size (fun k_ => some k_ ≠ (v509 : Value).ownBlock ∧ some k_ ≠ (u13 : Value).ownBlock) u17 x17_3) ∧ Aside0 (Kd.N (Kd.slice 3 (Kd.int .i64)) 31 wc w.heap.size (fun k_ => some k_ ≠ ((.slice (some ad511) t487.length co10) : Value).ownBlock ∧ some k_ ≠ (v509 : Value).ownBlock ∧ some k_ ≠ (u13 : Value).ownBlock ∧ some k_ ≠ (u17 : Value).ownBlock) (.slice (some ad502) t491.length co19) t491) ∧ Aside0 (Kd.V (Kd.int .i64) 3 wc w.heap.size (fun k_ => some k_ ≠ ((.slice (some ad511) t487.length co10) : Value).ownBlock ∧ some k_ ≠ (v509 : Value).ownBlock ∧ some k_ ≠ (u13 : Value).ownBlock ∧ some k_ ≠ (u17 : Value).ownBlock) (.slice (some ad506) (rd_L3 t491 x61_2).length c502_0) (rd_L3 t491 x61_2)) ∧ Aside0 (Below w.heap.size w wc))
                      case first =>
                       have H := HC36.out; clear HC36
                       by_cases c38 : t514 = true
                       ·subst c38
                        rw [if_pos rfl] at H; replace H := Option.bind_eq_some_iff.mp H; obtain ⟨t515, A390, H⟩ := H; (try dsimp -simprocs only at H); have A39 := am A390; clear A390
                        by_cases c40 : t515 = true
                        ·subst c40
                         rw [if_pos rfl] at H; exact absurd (H.trans (congrArg some HQT_.out)) (laws_FnGroupsOfKeys.j4.dead _ _ _ _ _ _ _ _ _ _ _ _ _ _ _ _ _)
                        ·replace c40 := Bool.eq_false_iff.mpr c40
                         subst c40
                         rw [if_neg (show ¬ (false = true) by decide)] at H; replace H := Option.bind_eq_some_iff.mp H; obtain ⟨t516, A410, H⟩ := H; (try dsimp -simprocs only at H); have A41 := am A410; clear A410; have H' := am H; clear H; obtain ⟨Ao42, co42, eo42⟩ := Kd.R_slice HO_13.out; subst eo42
                         go_wp2_with (first | (go_at_call 16; (with_reducible refine (laws_pHas.calls kj25 _ _ x13_2 t512 false _ ?side1 ?side2 A39.out).mono ?_); (case side1 => exact Cz ((Kd.R_reads' HO_13.out).2.2)); (case side2 => exact (Kd.R_reads' HO_13.out).2.1); rintro e w' ⟨rfl, ⟨nd, rfl⟩⟩) | (go_at_call 16; (with_reducible refine (laws_pHas.calls kj25 _ _ x13_2 t513 t516 _ ?side1 ?side2 A41.out).mono ?_); (case side1 => exact Cz ((Kd.R_reads' HO_13.out).2.2)); (case side2 => exact (Kd.R_reads' HO_13.out).2.1); rintro e w' ⟨rfl, ⟨nd, rfl⟩⟩))
                         go_meet
                         case rel => exact ⟨_, (t516), wZ, H', ⟨by have := HJ7.out; have := HK2.out; have := HK3.out; have := HJ25.out; first | omega | exact Nat.le_refl _⟩, ⟨Rz HO_6.out⟩, ⟨Rz HO510.out⟩, ⟨Rz (Kd.R_mono HO_13.out (fun _ hk => ⟨hk.2, hk.1⟩))⟩, ⟨Rz (Kd.R_mono HO_17.out (fun _ hk => ⟨hk.2, hk.1⟩))⟩, ⟨by (with_reducible repeat (first | apply Kd.N_alloc | apply Kd.N_drewN | apply Kd.N_drew)); exact Kd.N_mono HO_59.out (fun _ hk => ⟨hk.1.1, ⟨hk.2, ⟨hk.1.2.1, hk.1.2.2⟩⟩⟩)⟩, ⟨by (with_reducible repeat (first | apply Kd.V_alloc | apply Kd.V_drewN | apply Kd.V_drew)); exact Kd.V_mono HLT.out (fun _ hk => ⟨hk.1.1, ⟨hk.2, ⟨hk.1.2.1, hk.1.2.2⟩⟩⟩)⟩, ⟨Bz HB.out⟩⟩
                       ·replace c38 := Bool.eq_false_iff.mpr c38
                        subst c38
                        rw [if_neg (show ¬ (false = true) by decide)] at H; exact absurd (H.trans (congrArg some HQT_.out)) (laws_FnGroupsOfKeys.j4.dead _ _ _ _ _ _ _ _ _ _ _ _ _ _ _ _ _)
                      case rest =>
                       clear HC36
                       try clear c1
                       try clear c2
                       try clear p2
                       try clear c3
                       try clear c4
                       try clear c5
                       try clear p5
                       try clear q5
                       try clear hx5
                       try clear c11
                       try clear c12
                       try clear c13
                       try clear c13b0
                       try clear c13b1
                       try clear c13b2
                       try clear c14
                       try clear c16
                       try clear c17
                       try clear c18
                       try clear c20
                       try clear c20b0
                       try clear c21
                       try clear c21b0
                       try clear c22
                       try clear c22b0
                       try clear c23
                       try clear c23b0
                       try clear c24
                       try clear c24b0
                       try clear c25
                       try clear c25b0
                       try clear c28
                       try clear c29
                       try clear c29b0
                       try clear c31
                       try clear c32
                       try clear c33
                       try clear c33b0
                       try clear c34
                       try clear c34b0
                       try clear c38
                       try clear c40
                       try clear hx502_0
                       try clear hx506_0
                       try clear hx511_0
                       try clear p2
                       try clear p5
                       try clear p502
                       try clear p506
                       try clear p511
                       try clear q5
                       try clear q502
                       try clear q506
                       try clear q511
                       obtain ⟨kq, x110_35, rfl, HA, HJ35, HO_6, HO_12, HO_13, HO_17, HO_59, HLT, HB⟩ := hcut; cases kq with
                       | zero => exact absurd HA.out (by simp [laws_FnGroupsOfKeys.j4])
                       | succ kj35 =>
                        have H := HA.out; clear HA
                        simp only [laws_FnGroupsOfKeys.j4] at H
                        by_cases c43 : x110_35 = true
                        ·subst c43
                         rw [if_pos rfl] at H; exact absurd (Option.some.inj H) (by rw [HQT_.out]; decide)
                        ·replace c43 := Bool.eq_false_iff.mpr c43
                         subst c43
                         rw [if_neg (show ¬ (false = true) by decide)] at H; replace H := Option.bind_eq_some_iff.mp H; obtain ⟨t517, A440, H⟩ := H; (try dsimp -simprocs only at H); have A44 := am A440; clear A440
                         by_cases c45 : t517 = true
                         ·subst c45
                          rw [if_pos rfl] at H; replace H := Option.bind_eq_some_iff.mp H; obtain ⟨t518, A460, H⟩ := H; (try dsimp -simprocs only at H); have A46 := am A460; clear A460
                          by_cases c47 : t518 = true
                          ·subst c47
                           rw [if_pos rfl] at H; have H' := am H; clear H; obtain ⟨Ao48, co48, eo48⟩ := Kd.R_slice HO_17.out; subst eo48
                           go_wp2_with (first | ((with_reducible refine gate_callee (f := 16) rfl ?_); refine gL (some 113) Try.func16 #[.slice Ao48 x17_3.length co48, .int .i64 t512] ?_; (with_reducible refine (laws_pHas.calls kj35 _ _ x17_3 t512 true _ ?side1 ?side2 A44.out).mono ?_); (case side1 => exact Cz ((Kd.R_reads' HO_17.out).2.2)); (case side2 => exact (Kd.R_reads' HO_17.out).2.1); rintro e w' ⟨rfl, ⟨nd, rfl⟩⟩; refine ⟨_, rfl, ?_⟩) | ((with_reducible refine gate_callee (f := 16) rfl ?_); refine gL (some 121) Try.func16 #[.slice Ao48 x17_3.length co48, .int .i64 t513] ?_; (with_reducible refine (laws_pHas.calls kj35 _ _ x17_3 t513 true _ ?side1 ?side2 A46.out).mono ?_); (case side1 => exact Cz ((Kd.R_reads' HO_17.out).2.2)); (case side2 => exact (Kd.R_reads' HO_17.out).2.1); rintro e w' ⟨rfl, ⟨nd, rfl⟩⟩; refine ⟨_, rfl, ?_⟩))
                           go_roundg kj35
                           case measure => have := HJ7.out; have := HK2.out; have := HK3.out; have := HJ25.out; have := HJ35.out; omega
                           case rel => exact ⟨(y508), (x17_3), (wrap64 (x67_3 + 1)), wZ, H', ⟨by have := HJ7.out; have := HK2.out; have := HK3.out; have := HJ25.out; have := HJ35.out; omega⟩, ⟨Rz HO_6.out⟩, ⟨Rz HO_12.out⟩, ⟨Rz HO_13.out⟩, ⟨Rz HO_17.out⟩, ⟨by (with_reducible repeat (first | apply Kd.N_alloc | apply Kd.N_drewN | apply Kd.N_drew)); exact HO_59.out⟩, ⟨by (with_reducible repeat (first | apply Kd.V_alloc | apply Kd.V_drewN | apply Kd.V_drew)); exact HLT.out⟩, ⟨Bz HB.out⟩⟩
                          ·replace c47 := Bool.eq_false_iff.mpr c47
                           subst c47
                           rw [if_neg (show ¬ (false = true) by decide)] at H
                           by_cases c49 : x17_3.length < 17592186044416
                           ·rw [if_pos c49] at H
                            have LMc49 := am c49; clear c49; obtain ⟨y519, hy519⟩ : ∃ y_ : List Int, y_ = (x17_3 ++ [t513]) := ⟨_, rfl⟩
                            replace H : (laws_FnGroupsOfKeys.l1 kj35 t486 t487 t488 y508 x13_2 x14_2 (rd_L3 t491 x61_2) y519 t491 (t491.length : Int) x61_2 (rd_L3 t491 x61_2) ((rd_L3 t491 x61_2).length : Int) (wrap64 (x67_3 + 1))) = some r := by first | (rw [hy519]; with_reducible exact H) | (have H2_ := (Option.bind_some _ _).symm.trans H; rw [hy519]; with_reducible exact H2_) | (have H2_ := (Option.bind_some _ _).symm.trans H; with_reducible exact H2_) | with_reducible exact H | (rw [hy519]; exact H) | exact H
                            have Ny519 := am hy519; clear hy519; have H' := am H; clear H; obtain ⟨Ao50, co50, eo50⟩ := Kd.R_slice HO_17.out; subst eo50
                            go_wp2_with (first | ((with_reducible refine gate_callee (f := 16) rfl ?_); refine gL (some 113) Try.func16 #[.slice Ao50 x17_3.length co50, .int .i64 t512] ?_; (with_reducible refine (laws_pHas.calls kj35 _ _ x17_3 t512 true _ ?side1 ?side2 A44.out).mono ?_); (case side1 => exact Cz ((Kd.R_reads' HO_17.out).2.2)); (case side2 => exact (Kd.R_reads' HO_17.out).2.1); rintro e w' ⟨rfl, ⟨nd, rfl⟩⟩; refine ⟨_, rfl, ?_⟩) | ((with_reducible refine gate_callee (f := 16) rfl ?_); refine gL (some 121) Try.func16 #[.slice Ao50 x17_3.length co50, .int .i64 t513] ?_; (with_reducible refine (laws_pHas.calls kj35 _ _ x17_3 t513 false _ ?side1 ?side2 A46.out).mono ?_); (case side1 => exact Cz ((Kd.R_reads' HO_17.out).2.2)); (case side2 => exact (Kd.R_reads' HO_17.out).2.1); rintro e w' ⟨rfl, ⟨nd, rfl⟩⟩; refine ⟨_, rfl, ?_⟩) | ((with_reducible refine gate_builtin (b := .append) (xs := #[.tmp 123, .tmp 125]) rfl ?_); (try (refine gate_guard (by rfl) ?_; dsimp only)); at_builtin; refine Kd.R_append (Kd.int .i64) (w0 := w) w.heap.size rfl (.tmp 123) (.tmp 125) 31 3 (.int .i64 0) 8 rfl Try.underlying31 info3 rfl (by decide) (by omega) (.slice Ao50 x17_3.length co50) x17_3 t513 [.int .i64 t513] (fun k_ => some k_ ≠ (v509 : Value).ownBlock ∧ some k_ ≠ (u13 : Value).ownBlock) (fun _ => False) rfl rfl ?aP (fun _ hk => hk.elim) ?aF ?aO ?aB ?aS ?aL ?_; (case aP => exact rfl); (case aB => exact (Bz HB.out)); (case aF => exact (fun k_ hk => ⟨Kd.fresh' (Kd.R_lt (Rz HO_12.out)) k_ hk, Kd.fresh' (Kd.R_lt (Rz HO_13.out)) k_ hk⟩)); (case aO => exact (Rz HO_17.out)); (case aS => exact (below_size (Bz HB.out))); (case aL => have := LMc49.out; omega); intro v520 w51 ho hb hg hat; rw [← Ny519.out] at ho; have n0_ := am (Kd.R_over' (Rz HO_6.out) (Kd.R_typed (Rz HO_17.out)) (by decide) hg); have n1_ := am (Kd.R_after (ok := (fun k_ => some k_ ≠ (u13 : Value).ownBlock)) (Rz HO_12.out) hg hat); have n2_ := am (Kd.R_after (ok := (fun k_ => some k_ ≠ (v509 : Value).ownBlock)) (Rz HO_13.out) hg hat); have n3_ := am (Kd.N_afterv (ok := (fun k_ => some k_ ≠ (.slice (some ad511) t487.length co10 : Value).ownBlock ∧ some k_ ≠ (v509 : Value).ownBlock ∧ some k_ ≠ (u13 : Value).ownBlock)) (by (with_reducible repeat (first | apply Kd.N_alloc | apply Kd.N_drewN | apply Kd.N_drew)); exact Kd.N_mono HO_59.out (fun _ hk => ⟨⟨hk.1, ⟨hk.2.1, hk.2.2.1⟩⟩, hk.2.2.2⟩)) hg hat); have n39_ := am (Kd.V_afterv (ok := (fun k_ => some k_ ≠ (.slice (some ad511) t487.length co10 : Value).ownBlock ∧ some k_ ≠ (v509 : Value).ownBlock ∧ some k_ ≠ (u13 : Value).ownBlock)) (by (with_reducible repeat (first | apply Kd.V_alloc | apply Kd.V_drewN | apply Kd.V_drew)); exact Kd.V_mono HLT.out (fun _ hk => ⟨⟨hk.1, ⟨hk.2.1, hk.2.2.1⟩⟩, hk.2.2.2⟩)) hg hat); have n4_ := am (hb); have n5_ := am (ho); clear HO_6 HO_12 HO_13 HO_59 HLT HB HO_17; revert n0_ n1_ n2_ n3_ n39_ n4_ n5_; intro HO_6 HO_12 HO_13 HO_59 HLT HB HO521; clear ho hb hg hat))
                            go_roundg kj35
                            case measure => have := HJ7.out; have := HK2.out; have := HK3.out; have := HJ25.out; have := HJ35.out; omega
                            case rel => exact ⟨(y508), (y519), (wrap64 (x67_3 + 1)), wZ, H', ⟨by have := HJ7.out; have := HK2.out; have := HK3.out; have := HJ25.out; have := HJ35.out; omega⟩, ⟨Rz HO_6.out⟩, ⟨Rz HO_12.out⟩, ⟨Rz HO_13.out⟩, ⟨Rz HO521.out⟩, ⟨by (with_reducible repeat (first | apply Kd.N_alloc | apply Kd.N_drewN | apply Kd.N_drew)); exact Kd.N_mono HO_59.out (fun _ hk => ⟨hk.1.1, ⟨hk.1.2.1, ⟨hk.1.2.2, hk.2⟩⟩⟩)⟩, ⟨by (with_reducible repeat (first | apply Kd.V_alloc | apply Kd.V_drewN | apply Kd.V_drew)); exact Kd.V_mono HLT.out (fun _ hk => ⟨hk.1.1, ⟨hk.1.2.1, ⟨hk.1.2.2, hk.2⟩⟩⟩)⟩, ⟨Bz HB.out⟩⟩
                           ·rw [if_neg c49] at H
                            exact absurd H (by simp)
                         ·replace c45 := Bool.eq_false_iff.mpr c45
                          subst c45
                          rw [if_neg (show ¬ (false = true) by decide)] at H
                          by_cases c52 : x17_3.length < 17592186044416
                          ·rw [if_pos c52] at H
                           have LMc52 := am c52; clear c52; obtain ⟨y522, hy522⟩ : ∃ y_ : List Int, y_ = (x17_3 ++ [t512]) := ⟨_, rfl⟩
                           replace H : ((laws_pHas.f kj35 y522 t513).bind fun t525 => (if t525 = true then (laws_FnGroupsOfKeys.l1 kj35 t486 t487 t488 y508 x13_2 x14_2 (rd_L3 t491 x61_2) y522 t491 (t491.length : Int) x61_2 (rd_L3 t491 x61_2) ((rd_L3 t491 x61_2).length : Int) (wrap64 (x67_3 + 1))) else (if y522.length < 17592186044416 then (laws_FnGroupsOfKeys.l1 kj35 t486 t487 t488 y508 x13_2 x14_2 (rd_L3 t491 x61_2) (y522 ++ [t513]) t491 (t491.length : Int) x61_2 (rd_L3 t491 x61_2) ((rd_L3 t491 x61_2).length : Int) (wrap64 (x67_3 + 1))) else (none)))) = some r := by first | (rw [hy522]; with_reducible exact H) | (have H2_ := (Option.bind_some _ _).symm.trans H; rw [hy522]; with_reducible exact H2_) | (have H2_ := (Option.bind_some _ _).symm.trans H; with_reducible exact H2_) | with_reducible exact H | (rw [hy522]; exact H) | exact H
                           have Ny522 := am hy522; clear hy522; replace H := Option.bind_eq_some_iff.mp H; obtain ⟨t525, A530, H⟩ := H; (try dsimp -simprocs only at H); have A53 := am A530; clear A530
                           by_cases c54 : t525 = true
                           ·subst c54
                            rw [if_pos rfl] at H; have H' := am H; clear H; obtain ⟨Ao55, co55, eo55⟩ := Kd.R_slice HO_17.out; subst eo55
                            go_wp2_with (first | ((with_reducible refine gate_callee (f := 16) rfl ?_); refine gL (some 113) Try.func16 #[.slice Ao55 x17_3.length co55, .int .i64 t512] ?_; (with_reducible refine (laws_pHas.calls kj35 _ _ x17_3 t512 false _ ?side1 ?side2 A44.out).mono ?_); (case side1 => exact Cz ((Kd.R_reads' HO_17.out).2.2)); (case side2 => exact (Kd.R_reads' HO_17.out).2.1); rintro e w' ⟨rfl, ⟨nd, rfl⟩⟩; refine ⟨_, rfl, ?_⟩) | ((with_reducible refine gate_builtin (b := .append) (xs := #[.tmp 115, .tmp 117]) rfl ?_); (try (refine gate_guard (by rfl) ?_; dsimp only)); at_builtin; refine Kd.R_append (Kd.int .i64) (w0 := w) w.heap.size rfl (.tmp 115) (.tmp 117) 31 3 (.int .i64 0) 8 rfl Try.underlying31 info3 rfl (by decide) (by omega) (.slice Ao55 x17_3.length co55) x17_3 t512 [.int .i64 t512] (fun k_ => some k_ ≠ (v509 : Value).ownBlock ∧ some k_ ≠ (u13 : Value).ownBlock) (fun _ => False) rfl rfl ?aP (fun _ hk => hk.elim) ?aF ?aO ?aB ?aS ?aL ?_; (case aP => exact rfl); (case aB => exact (Bz HB.out)); (case aF => exact (fun k_ hk => ⟨Kd.fresh' (Kd.R_lt (Rz HO_12.out)) k_ hk, Kd.fresh' (Kd.R_lt (Rz HO_13.out)) k_ hk⟩)); (case aO => exact (Rz HO_17.out)); (case aS => exact (below_size (Bz HB.out))); (case aL => have := LMc52.out; omega); intro v523 w56 ho hb hg hat; rw [← Ny522.out] at ho; have n0_ := am (Kd.R_over' (Rz HO_6.out) (Kd.R_typed (Rz HO_17.out)) (by decide) hg); have n1_ := am (Kd.R_after (ok := (fun k_ => some k_ ≠ (u13 : Value).ownBlock)) (Rz HO_12.out) hg hat); have n2_ := am (Kd.R_after (ok := (fun k_ => some k_ ≠ (v509 : Value).ownBlock)) (Rz HO_13.out) hg hat); have n3_ := am (Kd.N_afterv (ok := (fun k_ => some k_ ≠ (.slice (some ad511) t487.length co10 : Value).ownBlock ∧ some k_ ≠ (v509 : Value).ownBlock ∧ some k_ ≠ (u13 : Value).ownBlock)) (by (with_reducible repeat (first | apply Kd.N_alloc | apply Kd.N_drewN | apply Kd.N_drew)); exact Kd.N_mono HO_59.out (fun _ hk => ⟨⟨hk.1, ⟨hk.2.1, hk.2.2.1⟩⟩, hk.2.2.2⟩)) hg hat); have n39_ := am (Kd.V_afterv (ok := (fun k_ => some k_ ≠ (.slice (some ad511) t487.length co10 : Value).ownBlock ∧ some k_ ≠ (v509 : Value).ownBlock ∧ some k_ ≠ (u13 : Value).ownBlock)) (by (with_reducible repeat (first | apply Kd.V_alloc | apply Kd.V_drewN | apply Kd.V_drew)); exact Kd.V_mono HLT.out (fun _ hk => ⟨⟨hk.1, ⟨hk.2.1, hk.2.2.1⟩⟩, hk.2.2.2⟩)) hg hat); have n4_ := am (hb); have n5_ := am (ho); clear HO_6 HO_12 HO_13 HO_59 HLT HB HO_17; revert n0_ n1_ n2_ n3_ n39_ n4_ n5_; intro HO_6 HO_12 HO_13 HO_59 HLT HB HO524; clear ho hb hg hat; obtain ⟨Ao57, co57, eo57⟩ := Kd.R_slice HO524.out; subst eo57) | ((with_reducible refine gate_callee (f := 16) rfl ?_); refine gL (some 121) Try.func16 #[.slice Ao57 y522.length co57, .int .i64 t513] ?_; (with_reducible refine (laws_pHas.calls kj35 _ _ y522 t513 true _ ?side1 ?side2 A53.out).mono ?_); (case side1 => exact Cz ((Kd.R_reads' HO524.out).2.2)); (case side2 => exact (Kd.R_reads' HO524.out).2.1); rintro e w' ⟨rfl, ⟨nd, rfl⟩⟩; refine ⟨_, rfl, ?_⟩))
                            go_roundg kj35
                            case measure => have := HJ7.out; have := HK2.out; have := HK3.out; have := HJ25.out; have := HJ35.out; omega
                            case rel => exact ⟨(y508), (y522), (wrap64 (x67_3 + 1)), wZ, H', ⟨by have := HJ7.out; have := HK2.out; have := HK3.out; have := HJ25.out; have := HJ35.out; omega⟩, ⟨Rz HO_6.out⟩, ⟨Rz HO_12.out⟩, ⟨Rz HO_13.out⟩, ⟨Rz HO524.out⟩, ⟨by (with_reducible repeat (first | apply Kd.N_alloc | apply Kd.N_drewN | apply Kd.N_drew)); exact Kd.N_mono HO_59.out (fun _ hk => ⟨hk.1.1, ⟨hk.1.2.1, ⟨hk.1.2.2, hk.2⟩⟩⟩)⟩, ⟨by (with_reducible repeat (first | apply Kd.V_alloc | apply Kd.V_drewN | apply Kd.V_drew)); exact Kd.V_mono HLT.out (fun _ hk => ⟨hk.1.1, ⟨hk.1.2.1, ⟨hk.1.2.2, hk.2⟩⟩⟩)⟩, ⟨Bz HB.out⟩⟩
                           ·replace c54 := Bool.eq_false_iff.mpr c54
                            subst c54
                            rw [if_neg (show ¬ (false = true) by decide)] at H
                            by_cases c58 : y522.length < 17592186044416
                            ·rw [if_pos c58] at H
                             have LMc58 := am c58; clear c58; obtain ⟨y526, hy526⟩ : ∃ y_ : List Int, y_ = (y522 ++ [t513]) := ⟨_, rfl⟩
                             replace H : (laws_FnGroupsOfKeys.l1 kj35 t486 t487 t488 y508 x13_2 x14_2 (rd_L3 t491 x61_2) y526 t491 (t491.length : Int) x61_2 (rd_L3 t491 x61_2) ((rd_L3 t491 x61_2).length : Int) (wrap64 (x67_3 + 1))) = some r := by first | (rw [hy526]; with_reducible exact H) | (have H2_ := (Option.bind_some _ _).symm.trans H; rw [hy526]; with_reducible exact H2_) | (have H2_ := (Option.bind_some _ _).symm.trans H; with_reducible exact H2_) | with_reducible exact H | (rw [hy526]; exact H) | exact H
                             have Ny526 := am hy526; clear hy526; have H' := am H; clear H; obtain ⟨Ao59, co59, eo59⟩ := Kd.R_slice HO_17.out; subst eo59
                             go_wp2_with (first | ((with_reducible refine gate_callee (f := 16) rfl ?_); refine gL (some 113) Try.func16 #[.slice Ao59 x17_3.length co59, .int .i64 t512] ?_; (with_reducible refine (laws_pHas.calls kj35 _ _ x17_3 t512 false _ ?side1 ?side2 A44.out).mono ?_); (case side1 => exact Cz ((Kd.R_reads' HO_17.out).2.2)); (case side2 => exact (Kd.R_reads' HO_17.out).2.1); rintro e w' ⟨rfl, ⟨nd, rfl⟩⟩; refine ⟨_, rfl, ?_⟩) | ((with_reducible refine gate_builtin (b := .append) (xs := #[.tmp 115, .tmp 117]) rfl ?_); (try (refine gate_guard (by rfl) ?_; dsimp only)); at_builtin; refine Kd.R_append (Kd.int .i64) (w0 := w) w.heap.size rfl (.tmp 115) (.tmp 117) 31 3 (.int .i64 0) 8 rfl Try.underlying31 info3 rfl (by decide) (by omega) (.slice Ao59 x17_3.length co59) x17_3 t512 [.int .i64 t512] (fun k_ => some k_ ≠ (v509 : Value).ownBlock ∧ some k_ ≠ (u13 : Value).ownBlock) (fun _ => False) rfl rfl ?aP (fun _ hk => hk.elim) ?aF ?aO ?aB ?aS ?aL ?_; (case aP => exact rfl); (case aB => exact (Bz HB.out)); (case aF => exact (fun k_ hk => ⟨Kd.fresh' (Kd.R_lt (Rz HO_12.out)) k_ hk, Kd.fresh' (Kd.R_lt (Rz HO_13.out)) k_ hk⟩)); (case aO => exact (Rz HO_17.out)); (case aS => exact (below_size (Bz HB.out))); (case aL => have := LMc52.out; omega); intro v523 w60 ho hb hg hat; rw [← Ny522.out] at ho; have n0_ := am (Kd.R_over' (Rz HO_6.out) (Kd.R_typed (Rz HO_17.out)) (by decide) hg); have n1_ := am (Kd.R_after (ok := (fun k_ => some k_ ≠ (u13 : Value).ownBlock)) (Rz HO_12.out) hg hat); have n2_ := am (Kd.R_after (ok := (fun k_ => some k_ ≠ (v509 : Value).ownBlock)) (Rz HO_13.out) hg hat); have n3_ := am (Kd.N_afterv (ok := (fun k_ => some k_ ≠ (.slice (some ad511) t487.length co10 : Value).ownBlock ∧ some k_ ≠ (v509 : Value).ownBlock ∧ some k_ ≠ (u13 : Value).ownBlock)) (by (with_reducible repeat (first | apply Kd.N_alloc | apply Kd.N_drewN | apply Kd.N_drew)); exact Kd.N_mono HO_59.out (fun _ hk => ⟨⟨hk.1, ⟨hk.2.1, hk.2.2.1⟩⟩, hk.2.2.2⟩)) hg hat); have n39_ := am (Kd.V_afterv (ok := (fun k_ => some k_ ≠ (.slice (some ad511) t487.length co10 : Value).ownBlock ∧ some k_ ≠ (v509 : Value).ownBlock ∧ some k_ ≠ (u13 : Value).ownBlock)) (by (with_reducible repeat (first | apply Kd.V_alloc | apply Kd.V_drewN | apply Kd.V_drew)); exact Kd.V_mono HLT.out (fun _ hk => ⟨⟨hk.1, ⟨hk.2.1, hk.2.2.1⟩⟩, hk.2.2.2⟩)) hg hat); have n4_ := am (hb); have n5_ := am (ho); clear HO_6 HO_12 HO_13 HO_59 HLT HB HO_17; revert n0_ n1_ n2_ n3_ n39_ n4_ n5_; intro HO_6 HO_12 HO_13 HO_59 HLT HB HO524; clear ho hb hg hat; obtain ⟨Ao61, co61, eo61⟩ := Kd.R_slice HO524.out; subst eo61) | ((with_reducible refine gate_callee (f := 16) rfl ?_); refine gL (some 121) Try.func16 #[.slice Ao61 y522.length co61, .int .i64 t513] ?_; (with_reducible refine (laws_pHas.calls kj35 _ _ y522 t513 false _ ?side1 ?side2 A53.out).mono ?_); (case side1 => exact Cz ((Kd.R_reads' HO524.out).2.2)); (case side2 => exact (Kd.R_reads' HO524.out).2.1); rintro e w' ⟨rfl, ⟨nd, rfl⟩⟩; refine ⟨_, rfl, ?_⟩) | ((with_reducible refine gate_builtin (b := .append) (xs := #[.tmp 123, .tmp 125]) rfl ?_); (try (refine gate_guard (by rfl) ?_; dsimp only)); at_builtin; refine Kd.R_append (Kd.int .i64) (w0 := w) w.heap.size rfl (.tmp 123) (.tmp 125) 31 3 (.int .i64 0) 8 rfl Try.underlying31 info3 rfl (by decide) (by omega) (.slice Ao61 y522.length co61) y522 t513 [.int .i64 t513] (fun k_ => some k_ ≠ (v509 : Value).ownBlock ∧ some k_ ≠ (u13 : Value).ownBlock) (fun _ => False) rfl rfl ?aP (fun _ hk => hk.elim) ?aF ?aO ?aB ?aS ?aL ?_; (case aP => exact rfl); (case aB => exact (Bz HB.out)); (case aF => exact (fun k_ hk => ⟨Kd.fresh' (Kd.R_lt (Rz HO_12.out)) k_ hk, Kd.fresh' (Kd.R_lt (Rz HO_13.out)) k_ hk⟩)); (case aO => exact (Rz HO524.out)); (case aS => exact (below_size (Bz HB.out))); (case aL => have := LMc58.out; omega); intro v527 w62 ho hb hg hat; rw [← Ny526.out] at ho; have n0_ := am (Kd.R_over' (Rz HO_6.out) (Kd.R_typed (Rz HO524.out)) (by decide) hg); have n1_ := am (Kd.R_after (ok := (fun k_ => some k_ ≠ (u13 : Value).ownBlock)) (Rz HO_12.out) hg hat); have n2_ := am (Kd.R_after (ok := (fun k_ => some k_ ≠ (v509 : Value).ownBlock)) (Rz HO_13.out) hg hat); have n3_ := am (Kd.N_afterv (ok := (fun k_ => some k_ ≠ (.slice (some ad511) t487.length co10 : Value).ownBlock ∧ some k_ ≠ (v509 : Value).ownBlock ∧ some k_ ≠ (u13 : Value).ownBlock)) (by (with_reducible repeat (first | apply Kd.N_alloc | apply Kd.N_drewN | apply Kd.N_drew)); exact HO_59.out) hg hat); have n39_ := am (Kd.V_afterv (ok := (fun k_ => some k_ ≠ (.slice (some ad511) t487.length co10 : Value).ownBlock ∧ some k_ ≠ (v509 : Value).ownBlock ∧ some k_ ≠ (u13 : Value).ownBlock)) (by (with_reducible repeat (first | apply Kd.V_alloc | apply Kd.V_drewN | apply Kd.V_drew)); exact HLT.out) hg hat); have n4_ := am (hb); have n5_ := am (ho); clear HO_6 HO_12 HO_13 HO_59 HLT HB HO524; revert n0_ n1_ n2_ n3_ n39_ n4_ n5_; intro HO_6 HO_12 HO_13 HO_59 HLT HB HO528; clear ho hb hg hat))
                             go_roundg kj35
                             case measure => have := HJ7.out; have := HK2.out; have := HK3.out; have := HJ25.out; have := HJ35.out; omega
                             case rel => exact ⟨(y508), (y526), (wrap64 (x67_3 + 1)), wZ, H', ⟨by have := HJ7.out; have := HK2.out; have := HK3.out; have := HJ25.out; have := HJ35.out; omega⟩, ⟨Rz HO_6.out⟩, ⟨Rz HO_12.out⟩, ⟨Rz HO_13.out⟩, ⟨Rz HO528.out⟩, ⟨by (with_reducible repeat (first | apply Kd.N_alloc | apply Kd.N_drewN | apply Kd.N_drew)); exact Kd.N_mono HO_59.out (fun _ hk => ⟨hk.1.1, ⟨hk.1.2.1, ⟨hk.1.2.2, hk.2⟩⟩⟩)⟩, ⟨by (with_reducible repeat (first | apply Kd.V_alloc | apply Kd.V_drewN | apply Kd.V_drew)); exact Kd.V_mono HLT.out (fun _ hk => ⟨hk.1.1, ⟨hk.1.2.1, ⟨hk.1.2.2, hk.2⟩⟩⟩)⟩, ⟨Bz HB.out⟩⟩
                            ·rw [if_neg c58] at H
                             exact absurd H (by simp)
                          ·rw [if_neg c52] at H
                           exact absurd H (by simp)
                     ·rw [if_neg c34] at H
                      exact absurd H (by simp)
                    ·rw [if_neg c33] at H
                     exact absurd H (by simp)
                   ·rw [if_neg c32] at H
                    exact absurd H (by simp)
               ·rw [if_neg c25] at H
                exact absurd H (by simp)
              ·rw [if_neg c24] at H
               exact absurd H (by simp)
             ·rw [if_neg c23] at H
              have c23b0 : decide (x67_3 < ((rd_L3 t491 x61_2).length : Int)) = false := decide_eq_false c23; clear c23
              by_cases c63 : x13_2.length + x17_3.length < 17592186044416
              ·rw [if_pos c63] at H
               have LMc63 := am c63; clear c63; obtain ⟨y503, hy503⟩ : ∃ y_ : List Int, y_ = (x13_2 ++ x17_3) := ⟨_, rfl⟩
               replace H : (if (x17_3.length : Int) < ((rd_L3 t491 x61_2).length : Int) then (laws_FnGroupsOfKeys.l0 k3 t486 t487 t488 x12_3 y503 (wrap64 (x14_2 + (x17_3.length : Int))) t491 (t491.length : Int) (wrap64 (x61_2 + 1))) else (laws_FnGroupsOfKeys.l0 k3 t486 t487 t488 x12_3 y503 (wrap64 (x14_2 + ((rd_L3 t491 x61_2).length : Int))) t491 (t491.length : Int) (wrap64 (x61_2 + 1)))) = some r := by first | (rw [hy503]; with_reducible exact H) | (have H2_ := (Option.bind_some _ _).symm.trans H; rw [hy503]; with_reducible exact H2_) | (have H2_ := (Option.bind_some _ _).symm.trans H; with_reducible exact H2_) | with_reducible exact H | (rw [hy503]; exact H) | exact H
               have Ny503 := am hy503; clear hy503
               by_cases c64 : (x17_3.length : Int) < ((rd_L3 t491 x61_2).length : Int)
               ·rw [if_pos c64] at H
                have c64b0 : decide ((x17_3.length : Int) < ((rd_L3 t491 x61_2).length : Int)) = true := decide_eq_true c64; have c64b1 : decide (x17_3.length < (rd_L3 t491 x61_2).length) = true := decide_eq_true (Int.ofNat_lt.mp c64); clear c64; have H' := am H; clear H; obtain ⟨Ao66, co66, eo66⟩ := Kd.R_slice HO_17.out; subst eo66
                go_wp2_with (first | ((with_reducible refine gate_builtin (b := .append) (xs := #[.tmp 128, .tmp 129]) rfl ?_); (try (refine gate_guard (by rfl) ?_; dsimp only)); at_builtin; refine Kd.R_append_rows (Kd.int .i64) (w0 := w) w.heap.size rfl (.tmp 128) (.tmp 129) 31 3 (.int .i64 0) 8 rfl Try.underlying31 info3 rfl (by decide) (by omega) u13 x13_2 x17_3 _ _ _ (fun k_ => some k_ ≠ (u12 : Value).ownBlock ∧ some k_ ≠ (.slice Ao66 x17_3.length co66 : Value).ownBlock) (fun _ => False) rfl rfl ?aO ?aR (fun _ _ h => h) (fun _ h => h.elim) ?aF ?aB ?aS ?aL ?_; (case aR => repeat (first | exact (Kd.R_reads' HO_17.out).2.2 | (with_reducible refine Kd.C_alloc ?_ _) | (with_reducible refine Kd.C_drewN ?_ _) | (with_reducible refine Kd.C_drew ?_))); (case aB => exact (Bz HB.out)); (case aF => exact (fun k_ hk => ⟨Kd.fresh' (Kd.R_lt (Rz HO_12.out)) k_ hk, Kd.fresh' (Kd.R_lt (Rz HO_17.out)) k_ hk⟩)); (case aO => exact (Rz HO_13.out)); (case aS => exact (below_size (Bz HB.out))); (case aL => have := LMc63.out; omega); intro v504 w65 ho hb hg hat; rw [← Ny503.out] at ho; have n0_ := am (Kd.R_over' (Rz HO_6.out) (Kd.R_typed (Rz HO_13.out)) (by decide) hg); have n1_ := am (Kd.R_after (ok := (fun k_ => some k_ ≠ (.slice Ao66 x17_3.length co66 : Value).ownBlock)) (Rz (Kd.R_mono HO_12.out (fun _ hk => ⟨hk.2, hk.1⟩))) hg hat); have n2_ := am (Kd.R_after (ok := (fun k_ => some k_ ≠ (u12 : Value).ownBlock)) (Rz HO_17.out) hg hat); have n3_ := am (Kd.N_afterv (ok := (fun k_ => some k_ ≠ (.slice Ao10 t487.length co10 : Value).ownBlock ∧ some k_ ≠ (u12 : Value).ownBlock ∧ some k_ ≠ (.slice Ao66 x17_3.length co66 : Value).ownBlock)) (by (with_reducible repeat (first | apply Kd.N_alloc | apply Kd.N_drewN | apply Kd.N_drew)); exact Kd.N_mono HO_59.out (fun _ hk => ⟨⟨hk.1, ⟨hk.2.1, hk.2.2.2⟩⟩, hk.2.2.1⟩)) hg hat); have n39_ := am (Kd.V_afterv (ok := (fun k_ => some k_ ≠ (.slice Ao10 t487.length co10 : Value).ownBlock ∧ some k_ ≠ (u12 : Value).ownBlock ∧ some k_ ≠ (.slice Ao66 x17_3.length co66 : Value).ownBlock)) (by (with_reducible repeat (first | apply Kd.V_alloc | apply Kd.V_drewN | apply Kd.V_drew)); exact Kd.V_mono HLT.out (fun _ hk => ⟨⟨hk.1, ⟨hk.2.1, hk.2.2.2⟩⟩, hk.2.2.1⟩)) hg hat); have n4_ := am (hb); have n5_ := am (ho); clear HO_6 HO_12 HO_17 HO_59 HLT HB HO_13; revert n0_ n1_ n2_ n3_ n39_ n4_ n5_; intro HO_6 HO_12 HO_17 HO_59 HLT HB HO505; clear ho hb hg hat))
                go_roundg k3
                case measure => have := HJ7.out; have := HK2.out; have := HK3.out; omega
                case rel => exact ⟨(x12_3), (y503), (wrap64 (x14_2 + (x17_3.length : Int))), (wrap64 (x61_2 + 1)), wZ, wZ, H', ⟨by have := HJ7.out; have := HK2.out; have := HK3.out; omega⟩, ⟨Rz HO_6.out⟩, ⟨Rz (Kd.R_mono HO_12.out (fun _ hk => hk.2))⟩, ⟨Rz (Kd.R_mono HO505.out (fun _ hk => hk.1))⟩, ⟨by (with_reducible repeat (first | apply Kd.N_alloc | apply Kd.N_drewN | apply Kd.N_drew)); exact Kd.N_mono HO_59.out (fun _ hk => ⟨hk.1.1, ⟨hk.1.2.1, hk.2⟩⟩)⟩, ⟨Bz HB.out⟩⟩
               ·rw [if_neg c64] at H
                have c64b0 : decide ((x17_3.length : Int) < ((rd_L3 t491 x61_2).length : Int)) = false := decide_eq_false c64; have c64b1 : decide (x17_3.length < (rd_L3 t491 x61_2).length) = false := decide_eq_false (fun h => c64 (Int.ofNat_lt.mpr h)); clear c64; have H' := am H; clear H; obtain ⟨Ao68, co68, eo68⟩ := Kd.R_slice HO_17.out; subst eo68
                go_wp2_with (first | ((with_reducible refine gate_builtin (b := .append) (xs := #[.tmp 128, .tmp 129]) rfl ?_); (try (refine gate_guard (by rfl) ?_; dsimp only)); at_builtin; refine Kd.R_append_rows (Kd.int .i64) (w0 := w) w.heap.size rfl (.tmp 128) (.tmp 129) 31 3 (.int .i64 0) 8 rfl Try.underlying31 info3 rfl (by decide) (by omega) u13 x13_2 x17_3 _ _ _ (fun k_ => some k_ ≠ (u12 : Value).ownBlock ∧ some k_ ≠ (.slice Ao68 x17_3.length co68 : Value).ownBlock) (fun _ => False) rfl rfl ?aO ?aR (fun _ _ h => h) (fun _ h => h.elim) ?aF ?aB ?aS ?aL ?_; (case aR => repeat (first | exact (Kd.R_reads' HO_17.out).2.2 | (with_reducible refine Kd.C_alloc ?_ _) | (with_reducible refine Kd.C_drewN ?_ _) | (with_reducible refine Kd.C_drew ?_))); (case aB => exact (Bz HB.out)); (case aF => exact (fun k_ hk => ⟨Kd.fresh' (Kd.R_lt (Rz HO_12.out)) k_ hk, Kd.fresh' (Kd.R_lt (Rz HO_17.out)) k_ hk⟩)); (case aO => exact (Rz HO_13.out)); (case aS => exact (below_size (Bz HB.out))); (case aL => have := LMc63.out; omega); intro v504 w67 ho hb hg hat; rw [← Ny503.out] at ho; have n0_ := am (Kd.R_over' (Rz HO_6.out) (Kd.R_typed (Rz HO_13.out)) (by decide) hg); have n1_ := am (Kd.R_after (ok := (fun k_ => some k_ ≠ (.slice Ao68 x17_3.length co68 : Value).ownBlock)) (Rz (Kd.R_mono HO_12.out (fun _ hk => ⟨hk.2, hk.1⟩))) hg hat); have n2_ := am (Kd.R_after (ok := (fun k_ => some k_ ≠ (u12 : Value).ownBlock)) (Rz HO_17.out) hg hat); have n3_ := am (Kd.N_afterv (ok := (fun k_ => some k_ ≠ (.slice Ao10 t487.length co10 : Value).ownBlock ∧ some k_ ≠ (u12 : Value).ownBlock ∧ some k_ ≠ (.slice Ao68 x17_3.length co68 : Value).ownBlock)) (by (with_reducible repeat (first | apply Kd.N_alloc | apply Kd.N_drewN | apply Kd.N_drew)); exact Kd.N_mono HO_59.out (fun _ hk => ⟨⟨hk.1, ⟨hk.2.1, hk.2.2.2⟩⟩, hk.2.2.1⟩)) hg hat); have n39_ := am (Kd.V_afterv (ok := (fun k_ => some k_ ≠ (.slice Ao10 t487.length co10 : Value).ownBlock ∧ some k_ ≠ (u12 : Value).ownBlock ∧ some k_ ≠ (.slice Ao68 x17_3.length co68 : Value).ownBlock)) (by (with_reducible repeat (first | apply Kd.V_alloc | apply Kd.V_drewN | apply Kd.V_drew)); exact Kd.V_mono HLT.out (fun _ hk => ⟨⟨hk.1, ⟨hk.2.1, hk.2.2.2⟩⟩, hk.2.2.1⟩)) hg hat); have n4_ := am (hb); have n5_ := am (ho); clear HO_6 HO_12 HO_17 HO_59 HLT HB HO_13; revert n0_ n1_ n2_ n3_ n39_ n4_ n5_; intro HO_6 HO_12 HO_17 HO_59 HLT HB HO505; clear ho hb hg hat))
                go_roundg k3
                case measure => have := HJ7.out; have := HK2.out; have := HK3.out; omega
                case rel => exact ⟨(x12_3), (y503), (wrap64 (x14_2 + ((rd_L3 t491 x61_2).length : Int))), (wrap64 (x61_2 + 1)), wZ, wZ, H', ⟨by have := HJ7.out; have := HK2.out; have := HK3.out; omega⟩, ⟨Rz HO_6.out⟩, ⟨Rz (Kd.R_mono HO_12.out (fun _ hk => hk.2))⟩, ⟨Rz (Kd.R_mono HO505.out (fun _ hk => hk.1))⟩, ⟨by (with_reducible repeat (first | apply Kd.N_alloc | apply Kd.N_drewN | apply Kd.N_drew)); exact Kd.N_mono HO_59.out (fun _ hk => ⟨hk.1.1, ⟨hk.1.2.1, hk.2⟩⟩)⟩, ⟨Bz HB.out⟩⟩
              ·rw [if_neg c63] at H
               exact absurd H (by simp)
          ·rw [if_neg c22] at H
           exact absurd H (by simp)
         ·rw [if_neg c21] at H
          exact absurd H (by simp)
        ·rw [if_neg c20] at H
         have c20b0 : decide (x61_2 < (t491.length : Int)) = false := decide_eq_false c20; clear c20; replace H := Option.bind_eq_some_iff.mp H; obtain ⟨⟨t500, t501⟩, A690, H⟩ := H; (try dsimp -simprocs only at H); have A69 := am A690; clear A690
         by_cases c70 : t501 = true
         ·subst c70
          rw [if_pos rfl] at H
          by_cases c71 : t500 = x14_2
          ·rw [if_pos c71] at H
           have c71b0 : (t500 == x14_2) = true := beq_iff_eq.mpr c71; have c71b1 : (t500 != x14_2) = false := bne_eq_false_iff_eq.mpr c71; clear c71; obtain rfl := Option.some.inj H
           go_wp2_with (first | ((with_reducible refine gate_callee (f := 18) rfl ?_); refine gL (some 149) Try.func18 #[.int .i64 t486, .slice Ao10 t487.length co10, .int .i64 t488] ?_; (with_reducible refine (impl_MostPlaced.calls k2 t486 _ _ t487 t488 t500 true _ ?side1 ?side2 A69.out).mono ?_); (case side1 => exact Cz ((Kd.R_reads' HO_6.out).2.2)); (case side2 => exact (Kd.R_reads' HO_6.out).2.1); rintro e w72 ⟨rfl, hb⟩; refine ⟨_, rfl, ?_⟩; have n0_ := Rb HO_6 hb; have n1_ := Rb HO_12 hb; have n2_ := Rb HO_13 hb; have n3_ := am (Kd.N_below (by (with_reducible repeat (first | apply Kd.N_alloc | apply Kd.N_drewN | apply Kd.N_drew)); exact HO_59.out) hb); have n4_ := Bb HB hb; clear HO_6 HO_12 HO_13 HO_59 HB; revert n0_ n1_ n2_ n3_ n4_; intro HO_6 HO_12 HO_13 HO_59 HB; (try clear hb); (try clear hb2); (try clear hk); (try clear hi); obtain ⟨Ao73, co73, eo73⟩ := Kd.R_slice HO_12.out; subst eo73))
           go_ret
           exact ⟨eZ, Bz HB.out⟩
          ·rw [if_neg c71] at H
           have c71b0 : (t500 == x14_2) = false := beq_eq_false_iff_ne.mpr c71; have c71b1 : (t500 != x14_2) = true := bne_iff_ne.mpr c71; exact absurd (Option.some.inj H) (by rw [HQT_.out]; decide)
         ·replace c70 := Bool.eq_false_iff.mpr c70
          subst c70
          rw [if_neg (show ¬ (false = true) by decide)] at H; exact absurd (Option.some.inj H) (by rw [HQT_.out]; decide)
     ·replace c18 := Bool.eq_false_iff.mpr c18
      subst c18
      rw [if_neg (show ¬ (false = true) by decide)] at H; obtain rfl := Option.some.inj H
      go_wp2
      go_ret
      exact ⟨eZ, Bz HB.out⟩

def laws_FnGroupsOfKeys.Pure : Prop := ∀ (l0 : List Int) (l1 : List Int), l0.length ≤ maxLen → l0.length * 1 ≤ 140737488351232 → (∀ x ∈ l0, (Lit.int .u8 x).wf = true) → l1.length ≤ maxLen → l1.length * 1 ≤ 140737488351232 → (∀ x ∈ l1, (Lit.int .u8 x).wf = true) → ∃ k, laws_FnGroupsOfKeys.f k l0 l1 = some true
theorem laws_FnGroupsOfKeys.walk (P : laws_FnGroupsOfKeys.Pure) (a0 : Option Addr) (len0 cap0 : Nat) (z0 : List Int) (a1 : Option Addr) (len1 cap1 : Nat) (z1 : List Int) (w : World) (w0 : (a0 = none ∧ len0 = 0 ∧ cap0 = 0 ∧ z0 = []) ∨ ∃ x, a0 = some x ∧ len0 ≤ cap0 ∧ cap0 ≤ maxLen ∧ z0.length = cap0 ∧ (∀ i, i < z0.length → w.cell? (x.add i) = some (.int .u8 (z0.getD i 0))) ∧ ∀ n ∈ z0, (Lit.int .u8 n).wf = true) (y0 : len0 * 1 ≤ 140737488351232) (w1 : (a1 = none ∧ len1 = 0 ∧ cap1 = 0 ∧ z1 = []) ∨ ∃ x, a1 = some x ∧ len1 ≤ cap1 ∧ cap1 ≤ maxLen ∧ z1.length = cap1 ∧ (∀ i, i < z1.length → w.cell? (x.add i) = some (.int .u8 (z1.getD i 0))) ∧ ∀ n ∈ z1, (Lit.int .u8 n).wf = true) (y1 : len1 * 1 ≤ 140737488351232) :
  Calls Try.prog 3 #[.slice a0 len0 cap0, .slice a1 len1 cap1] w fun e w' => e = .returned (.bool true) ∧ Below w.heap.size w w' := by
 obtain ⟨l0, rfl, hr0, hm0, hw0, hc0⟩ := ReadsInt.ofRowC w0; obtain ⟨l1, rfl, hr1, hm1, hw1, hc1⟩ := ReadsInt.ofRowC w1; obtain ⟨k, h⟩ := P l0 l1 hm0 y0 hw0 hm1 y1 hw1; refine (laws_FnGroupsOfKeys.calls k _ _ l0 _ _ l1 true w (Kd.C_of_reads (d := (0 : Int)) (h1 := fun _ => rfl) hr0) hc0 (Kd.C_of_reads (d := (0 : Int)) (h1 := fun _ => rfl) hr1) hc1 h rfl).mono ?_; rintro e w' ⟨rfl, hd⟩; exact ⟨rfl, hd⟩

end Go.Proofs.Ytephjmmkggcmeaa.PG
namespace Go.Proofs.YtephjmmkggcmeaaQ
open Go Go.RowKit Go.Proofs.YtephjmmkggcmeaaW.PrintWords Go.Proofs.YtephjmmkggcmeaaGp

theorem ev_succ {α : Type} {g : Nat → Option α} {r : α} (h : Ev (fun k => g (k + 1)) r) : Ev g r := Ev.step (f := fun k => g (k + 1)) (fun _ => rfl) h
theorem ev_some {α : Type} {a r : α} (h : a = r) : Ev (fun _ => some a) r := h ▸ Ev.now a
theorem ev_pos {α : Type} {c : Prop} [Decidable c] {f g : Nat → Option α} {r : α} (h : c) (k : Ev f r) : Ev (fun n => if c then f n else g n) r := by simpa only [if_pos h] using k
theorem ev_neg {α : Type} {c : Prop} [Decidable c] {f g : Nat → Option α} {r : α} (h : ¬ c) (k : Ev g r) : Ev (fun n => if c then f n else g n) r := by simpa only [if_neg h] using k
theorem ev_bind {α β : Type} {g : Nat → Option α} {f : Nat → α → Option β} {r : β} (a : α) (h : Ev g a) (k : Ev (fun n => f n a) r) : Ev (fun n => (g n).bind (f n)) r := Ev.bind h k
theorem w64 {x : Int} (h0 : -9223372036854775808 ≤ x) (h1 : x ≤ 9223372036854775807) : wrap64 x = x := by unfold wrap64; omega
theorem winc {i : Nat} (h : (i : Int) < 9223372036854775807) : wrap64 ((i : Int) + 1) = ((i + 1 : Nat) : Int) := by unfold wrap64; omega
theorem wdec {i : Nat} (h : (i : Int) < 9223372036854775807) : wrap64 (((i + 1 : Nat) : Int) - 1) = (i : Int) := by unfold wrap64; omega
theorem maxLen_eq : maxLen = 9223372036854775807 := by unfold maxLen; rfl
section
variable {α : Type} {d : α} {pre t : List α} {s : α}
theorem rdOf_mid : rdOf d (pre ++ s :: t) ((pre.length : Nat) : Int) = s := by simp [rdOf]
theorem rdOf_last {p : α} : rdOf d ((pre ++ [p]) ++ s :: t) ((pre.length : Nat) : Int) = p := by simp [rdOf]
theorem rdOf_get {xs : List α} {i : Nat} (h : i < xs.length) : rdOf d xs (i : Int) = xs[i] := by simp [rdOf, h]
theorem lt_mid : ((pre.length : Nat) : Int) < ((pre ++ s :: t).length : Int) := by simp; omega
theorem not_lt_end : ¬ ((pre.length : Nat) : Int) < ((pre ++ ([] : List α)).length : Int) := by simp
theorem len_one : ((pre ++ [s]).length : Int) = ((pre.length + 1 : Nat) : Int) := by simp
end
theorem rd_mid {pre t : List Int} {s : Int} : rd (pre ++ s :: t) ((pre.length : Nat) : Int) = s := by simp [rd]
theorem rd_get {xs : List Int} {i : Nat} (h : i < xs.length) : rd xs (i : Int) = xs[i] := by simp [rd, h]

theorem tl (s : ByteArray) : s.toList = s.data.toList := Lib.toList_data s
theorem tl_inj {x y : ByteArray} : x.toList = y.toList ↔ x = y := by
  rw [tl, tl]
  exact ⟨fun h => ByteArray.ext (Array.toList_inj.1 h), fun h => h ▸ rfl⟩
theorem size_len (s : ByteArray) : s.size = s.data.toList.length := (data_length s).symm
theorem bt_mid {s : ByteArray} {pre t : List UInt8} {c : UInt8} (h : s.data.toList = pre ++ c :: t) : bt s ((pre.length : Nat) : Int) = (c.toNat : Int) := by
  have hs : pre.length < s.size := by rw [size_len, h]; simp
  have hg : s[pre.length]'hs = c := by
    have : s.data.toList[pre.length]'(by rw [h]; simp) = c := by simp [h]
    rw [← this]; rfl
  unfold bt
  rw [dif_pos (by simpa using hs)]
  simp only [Int.toNat_natCast, hg]
theorem lt_size {s : ByteArray} {pre t : List UInt8} {c : UInt8} (h : s.data.toList = pre ++ c :: t) : ((pre.length : Nat) : Int) < (s.size : Int) := by rw [size_len, h]; simp; omega
theorem not_lt_size {s : ByteArray} {pre : List UInt8} (h : s.data.toList = pre ++ []) : ¬ ((pre.length : Nat) : Int) < (s.size : Int) := by rw [size_len, h]; simp
def lessS (a b : ByteArray) : Bool := Op.bytesLess a.toList b.toList
end Go.Proofs.YtephjmmkggcmeaaQ
namespace Go.Proofs.YtephjmmkggcmeaaQ
open Go Go.RowKit Go.Proofs.YtephjmmkggcmeaaW.PrintWords Go.Proofs.YtephjmmkggcmeaaGp Go.Proofs.Ytephjmmkggcmeaa.PG

theorem spec_in (n a b : Int) : spec_l1In.f n a b = some (decide (a ≤ n ∧ n ≤ b)) := by
  unfold spec_l1In.f
  by_cases h : a ≤ n <;> by_cases h' : n ≤ b <;> simp [h, h']
theorem impl_in (n a b : Int) : impl_in.f n a b = some (decide (a ≤ n ∧ n ≤ b)) := by
  unfold impl_in.f
  by_cases h : a ≤ n <;> by_cases h' : n ≤ b <;> simp [h, h']

def byteOk (c : UInt8) : Bool := decide (33 ≤ (c.toNat : Int) ∧ (c.toNat : Int) ≤ 125)
def isKeyB (s : ByteArray) : Bool := s.data.toList.all byteOk && decide (1 ≤ (s.size : Int) ∧ (s.size : Int) ≤ 12)
theorem spec_IsKey_l0 (x0 : ByteArray) (hz : (x0.size : Int) ≤ 9223372036854775806) : ∀ (t pre : List UInt8), x0.data.toList = pre ++ t →
    Ev (fun k => spec_IsKey.l0 k x0 (pre.length : Int)) (t.all byteOk && decide (1 ≤ (x0.size : Int) ∧ (x0.size : Int) ≤ 12)) := by
  intro t
  induction t with
  | nil =>
    intro pre h
    refine ev_succ ?_
    simp only [spec_IsKey.l0, spec_in, Option.bind_some]
    exact ev_neg (not_lt_size h) (ev_some (by simp))
  | cons c t ih =>
    intro pre h
    have hm := lt_size h
    refine ev_succ ?_
    simp only [spec_IsKey.l0, bt_mid h]
    refine ev_pos hm (ev_pos (by omega) ?_)
    by_cases c1 : (c.toNat : Int) < 33
    · exact ev_pos c1 (ev_some (by simp [byteOk]; omega))
    · refine ev_neg c1 ?_
      by_cases c2 : (c.toNat : Int) > 125
      · exact ev_pos c2 (ev_some (by simp [byteOk]; omega))
      · refine ev_neg c2 ?_
        rw [winc (by omega)]
        have := ih (pre ++ [c]) (by rw [h]; simp)
        rw [len_one] at this
        have hb : byteOk c = true := by simp [byteOk]; omega
        simpa [hb] using this
theorem spec_IsKey_f (s : ByteArray) (hz : (s.size : Int) ≤ 9223372036854775806) : Ev (fun k => spec_IsKey.f k s) (isKeyB s) := by
  unfold spec_IsKey.f
  exact spec_IsKey_l0 s hz s.data.toList [] rfl
theorem impl_IsKey_l0 (x0 : ByteArray) (hz : (x0.size : Int) ≤ 9223372036854775806) : ∀ (t pre : List UInt8), x0.data.toList = pre ++ t →
    Ev (fun k => impl_IsKey.l0 k x0 (x0.size : Int) (pre.length : Int)) (t.all byteOk && decide (1 ≤ (x0.size : Int) ∧ (x0.size : Int) ≤ 12)) := by
  intro t
  induction t with
  | nil =>
    intro pre h
    refine ev_succ ?_
    simp only [impl_IsKey.l0, impl_in, Option.bind_some]
    exact ev_neg (not_lt_size h) (ev_some (by simp))
  | cons c t ih =>
    intro pre h
    have hm := lt_size h
    refine ev_succ ?_
    simp only [impl_IsKey.l0, bt_mid h]
    refine ev_pos hm (ev_pos (by omega) (ev_pos hm ?_))
    by_cases c1 : (c.toNat : Int) < 33
    · exact ev_pos c1 (ev_some (by simp [byteOk]; omega))
    · refine ev_neg c1 ?_
      by_cases c2 : (c.toNat : Int) > 125
      · exact ev_pos c2 (ev_some (by simp [byteOk]; omega))
      · refine ev_neg c2 ?_
        rw [winc (by omega)]
        have := ih (pre ++ [c]) (by rw [h]; simp)
        rw [len_one] at this
        have hb : byteOk c = true := by simp [byteOk]; omega
        simpa [hb] using this
theorem impl_IsKey_f (s : ByteArray) (hz : (s.size : Int) ≤ 9223372036854775806) : Ev (fun k => impl_IsKey.f k s) (isKeyB s) := by
  unfold impl_IsKey.f
  exact impl_IsKey_l0 s hz s.data.toList [] rfl
theorem isKeyB_size {s : ByteArray} (h : isKeyB s = true) : 1 ≤ s.size ∧ s.size ≤ 12 := by
  simp [isKeyB] at h
  omega

def keysFrom : Option ByteArray → List ByteArray → Bool
  | _, [] => true
  | p, s :: t => isKeyB s && (match p with | none => true | some q => lessS q s) && keysFrom (some s) t
def areKeysB (l : List ByteArray) : Bool := keysFrom none l && decide ((l.length : Int) ≤ 40)
def lastOf (pre : List ByteArray) : Option ByteArray := pre.getLast?
theorem lastOf_one (pre : List ByteArray) (s : ByteArray) : lastOf (pre ++ [s]) = some s := by simp [lastOf]
theorem lastOf_nil : lastOf [] = none := rfl
theorem last_split {pre : List ByteArray} (h : 0 < pre.length) : ∃ q p, pre = q ++ [p] := by
  obtain ⟨x, hx⟩ : ∃ x, pre.getLast? = some x := by
    cases hp : pre.getLast? with
    | none => rw [List.getLast?_eq_none_iff] at hp; subst hp; simp at h
    | some x => exact ⟨x, rfl⟩
  obtain ⟨q, hq⟩ := List.getLast?_eq_some_iff.1 hx
  exact ⟨q, x, hq⟩

theorem spec_biKeys_l0 (x0 : List ByteArray) (hl : (x0.length : Int) ≤ 9223372036854775806) : ∀ (t pre : List ByteArray), x0 = pre ++ t → (∀ s ∈ t, (s.size : Int) ≤ 9223372036854775806) →
    Ev (fun k => spec_biKeys.l0 k x0 x0 (x0.length : Int) (pre.length : Int)) (keysFrom (lastOf pre) t && decide ((x0.length : Int) ≤ 40)) := by
  intro t
  induction t with
  | nil =>
    intro pre h hs
    refine ev_succ ?_
    simp only [spec_biKeys.l0]
    exact ev_neg (by rw [h]; exact not_lt_end) (ev_some (by simp [keysFrom]))
  | cons s t ih =>
    intro pre h hs
    have hm : ((pre.length : Nat) : Int) < (x0.length : Int) := by rw [h]; exact lt_mid
    have hg : rdOf ByteArray.empty x0 (pre.length : Int) = s := by rw [h]; exact rdOf_mid
    have next := ih (pre ++ [s]) (by rw [h]; simp) (fun x hx => hs x (by simp [hx]))
    rw [len_one, lastOf_one] at next
    refine ev_succ ?_
    simp only [spec_biKeys.l0, hg]
    refine ev_pos hm (ev_pos (by omega) (ev_pos hm (ev_bind _ (spec_IsKey_f s (hs s (by simp))) ?_)))
    cases hk : isKeyB s with
    | false => exact ev_neg (by simp) (ev_some (by simp [keysFrom, hk]))
    | true =>
      refine ev_pos rfl ?_
      by_cases c : 0 < pre.length
      · obtain ⟨q, p, rfl⟩ := last_split c
        have hp : rdOf ByteArray.empty x0 ((q.length : Nat) : Int) = p := by rw [h]; exact rdOf_last
        have hw : wrap64 (((q ++ [p]).length : Int) - 1) = (q.length : Int) := by rw [len_one]; exact wdec (by simp at hm; omega)
        simp only [hw, hp, lastOf_one, keysFrom, hk, Bool.true_and]
        refine ev_pos (by omega) (ev_pos (by omega) (ev_pos (by simp at hm; omega) ?_))
        by_cases c2 : lessS p s = true
        · refine ev_pos c2 ?_
          rw [winc (by omega), c2, Bool.true_and]
          exact next
        · refine ev_neg c2 (ev_some ?_)
          simp only [Bool.not_eq_true] at c2
          simp [c2]
      · obtain rfl := List.length_eq_zero_iff.1 (show pre.length = 0 by omega)
        refine ev_neg (by simp) ?_
        rw [winc (by omega)]
        simp only [lastOf_nil, keysFrom, hk, Bool.true_and]
        exact next
theorem spec_biKeys_f (l : List ByteArray) (hl : (l.length : Int) ≤ 9223372036854775806) (hs : ∀ s ∈ l, (s.size : Int) ≤ 9223372036854775806) : Ev (fun k => spec_biKeys.f k l) (areKeysB l) := by
  unfold spec_biKeys.f
  exact spec_biKeys_l0 l hl l [] rfl hs
theorem impl_AreKeys_l0 (x0 : List ByteArray) (hl : (x0.length : Int) ≤ 9223372036854775806) : ∀ (t pre : List ByteArray), x0 = pre ++ t → (∀ s ∈ t, (s.size : Int) ≤ 9223372036854775806) →
    Ev (fun k => impl_AreKeys.l0 k x0 x0 (x0.length : Int) (pre.length : Int)) (keysFrom (lastOf pre) t && decide ((x0.length : Int) ≤ 40)) := by
  intro t
  induction t with
  | nil =>
    intro pre h hs
    refine ev_succ ?_
    simp only [impl_AreKeys.l0]
    exact ev_neg (by rw [h]; exact not_lt_end) (ev_some (by simp [keysFrom]))
  | cons s t ih =>
    intro pre h hs
    have hm : ((pre.length : Nat) : Int) < (x0.length : Int) := by rw [h]; exact lt_mid
    have hg : rdOf ByteArray.empty x0 (pre.length : Int) = s := by rw [h]; exact rdOf_mid
    have next := ih (pre ++ [s]) (by rw [h]; simp) (fun x hx => hs x (by simp [hx]))
    rw [len_one, lastOf_one] at next
    refine ev_succ ?_
    simp only [impl_AreKeys.l0, hg]
    refine ev_pos hm (ev_pos (by omega) (ev_pos hm (ev_bind _ (impl_IsKey_f s (hs s (by simp))) ?_)))
    cases hk : isKeyB s with
    | false => exact ev_neg (by simp) (ev_some (by simp [keysFrom, hk]))
    | true =>
      refine ev_pos rfl ?_
      by_cases c : 0 < pre.length
      · obtain ⟨q, p, rfl⟩ := last_split c
        have hp : rdOf ByteArray.empty x0 ((q.length : Nat) : Int) = p := by rw [h]; exact rdOf_last
        have hw : wrap64 (((q ++ [p]).length : Int) - 1) = (q.length : Int) := by rw [len_one]; exact wdec (by simp at hm; omega)
        simp only [hw, hp, lastOf_one, keysFrom, hk, Bool.true_and]
        refine ev_pos (by omega) (ev_pos (by omega) (ev_pos (by simp at hm; omega) ?_))
        by_cases c2 : lessS p s = true
        · refine ev_pos c2 ?_
          rw [winc (by omega), c2, Bool.true_and]
          exact next
        · refine ev_neg c2 (ev_some ?_)
          simp only [Bool.not_eq_true] at c2
          simp [c2]
      · obtain rfl := List.length_eq_zero_iff.1 (show pre.length = 0 by omega)
        refine ev_neg (by simp) ?_
        rw [winc (by omega)]
        simp only [lastOf_nil, keysFrom, hk, Bool.true_and]
        exact next
theorem impl_AreKeys_f (l : List ByteArray) (hl : (l.length : Int) ≤ 9223372036854775806) (hs : ∀ s ∈ l, (s.size : Int) ≤ 9223372036854775806) : Ev (fun k => impl_AreKeys.f k l) (areKeysB l) := by
  unfold impl_AreKeys.f
  exact impl_AreKeys_l0 l hl l [] rfl hs
theorem areKeysB_len {l : List ByteArray} (h : areKeysB l = true) : l.length ≤ 40 := by
  simp [areKeysB] at h
  omega
theorem keysFrom_all : ∀ (p : Option ByteArray) (l : List ByteArray), keysFrom p l = true → ∀ s ∈ l, isKeyB s = true
  | _, [], _, s, h => by simp at h
  | p, x :: t, hk, s, h => by
    simp only [keysFrom, Bool.and_eq_true] at hk
    rcases List.mem_cons.1 h with rfl | h
    · exact hk.1.1
    · exact keysFrom_all _ t hk.2 s h
theorem areKeysB_all {l : List ByteArray} (h : areKeysB l = true) : ∀ s ∈ l, isKeyB s = true := by
  simp only [areKeysB, Bool.and_eq_true] at h
  exact keysFrom_all _ _ h.1
end Go.Proofs.YtephjmmkggcmeaaQ
namespace Go.Proofs.YtephjmmkggcmeaaQ
open Go Go.RowKit Go.Proofs.YtephjmmkggcmeaaW.PrintWords Go.Proofs.YtephjmmkggcmeaaGp Go.Proofs.Ytephjmmkggcmeaa.PG

def mm (x y : Int) : Int := Int.tmod (wrap64 (x * y)) 65521
theorem mul_range {x y : Int} (hx : 0 ≤ x) (hx1 : x ≤ 65520) (hy : 0 ≤ y) (hy1 : y ≤ 65520) : 0 ≤ x * y ∧ x * y ≤ 4292870400 :=
  ⟨Int.mul_nonneg hx hy, by have := Int.mul_le_mul hx1 hy1 hy (by omega); omega⟩
theorem emod_range (x : Int) : 0 ≤ x % 65521 ∧ x % 65521 ≤ 65520 := by omega
theorem mm_eq {x y : Int} (hx : 0 ≤ x) (hx1 : x ≤ 65520) (hy : 0 ≤ y) (hy1 : y ≤ 65520) : mm x y = x * y % 65521 := by
  obtain ⟨h0, h1⟩ := mul_range hx hx1 hy hy1
  unfold mm
  rw [w64 (by omega) (by omega)]
  exact Int.tmod_eq_emod_of_nonneg h0
theorem mm_mod (a b : Int) : mm (a % 65521) (b % 65521) = a * b % 65521 := by
  rw [mm_eq (emod_range a).1 (emod_range a).2 (emod_range b).1 (emod_range b).2]
  exact (Int.mul_emod a b 65521).symm
def pw (h : Int) : Nat → Int
  | 0 => 1
  | n + 1 => pw h n * h
theorem self_mod {h : Int} (h0 : 0 ≤ h) (h1 : h ≤ 65520) : h = h % 65521 := by omega
theorem mm11 {h : Int} (h0 : 0 ≤ h) (h1 : h ≤ 65520) : mm (mm (mm (mm (mm h h) (mm h h)) h) (mm (mm (mm h h) (mm h h)) h)) h = pw h 11 % 65521 := by
  have e := self_mod h0 h1
  have a2 : mm h h = h * h % 65521 := mm_eq h0 h1 h0 h1
  have a4 : mm (mm h h) (mm h h) = (h * h) * (h * h) % 65521 := by rw [a2, mm_mod]
  have a5 : mm (mm (mm h h) (mm h h)) h = (h * h) * (h * h) * h % 65521 := by
    rw [a4]; conv => lhs; arg 2; rw [e]
    rw [mm_mod]
  rw [a5, mm_mod]
  conv => lhs; arg 2; rw [e]
  rw [mm_mod]
  congr 1
  simp only [pw, Int.one_mul, Int.mul_assoc]
theorem mm_pw {h : Int} (h0 : 0 ≤ h) (h1 : h ≤ 65520) (n : Nat) : mm (pw h n % 65521) h = pw h (n + 1) % 65521 := by
  conv => lhs; arg 2; rw [self_mod h0 h1]
  rw [mm_mod]
  rfl

def hstep (h : Int) (c : UInt8) : Int := Int.tmod (wrap64 ((wrap64 (263 * h)) + (wrap64 (c.toNat : Int)))) 65521
def hfold (h : Int) (l : List UInt8) : Int := l.foldl hstep h
theorem hstep_range {h : Int} {c : UInt8} (h0 : 0 ≤ h) (h1 : h ≤ 65520) : 0 ≤ hstep h c ∧ hstep h c ≤ 65520 := by
  have hc : c.toNat < 256 := c.toNat_lt
  unfold hstep
  rw [w64 (x := 263 * h) (by omega) (by omega), w64 (x := (c.toNat : Int)) (by omega) (by omega), w64 (by omega) (by omega), Int.tmod_eq_emod_of_nonneg (by omega)]
  omega
def hstart (a0 a1 : Int) : Int := Int.tmod (wrap64 ((wrap64 ((wrap64 (31 * a0)) + (wrap64 (977 * a1)))) + 7)) 65521
theorem hstart_range {a0 a1 : Int} (h0 : 0 ≤ a0) (h0' : a0 ≤ 1000000) (h1 : 0 ≤ a1) (h1' : a1 ≤ 1000000) : 0 ≤ hstart a0 a1 ∧ hstart a0 a1 ≤ 65520 := by
  unfold hstart
  rw [w64 (x := 31 * a0) (by omega) (by omega), w64 (x := 977 * a1) (by omega) (by omega), w64 (x := 31 * a0 + 977 * a1) (by omega) (by omega), w64 (by omega) (by omega), Int.tmod_eq_emod_of_nonneg (by omega)]
  omega
def hashV (a0 a1 : Int) (s : ByteArray) : Int := pw (hfold (hstart a0 a1) s.data.toList) 11 % 65521
theorem hashV_range (a0 a1 : Int) (s : ByteArray) : 0 ≤ hashV a0 a1 s ∧ hashV a0 a1 s ≤ 65520 := emod_range _
theorem spec_biHash_l0 (x2 : ByteArray) (hz : (x2.size : Int) ≤ 9223372036854775806) : ∀ (t pre : List UInt8) (h : Int), x2.data.toList = pre ++ t → 0 ≤ h → h ≤ 65520 →
    Ev (fun k => spec_biHash.l0 k x2 h (pre.length : Int)) (pw (hfold h t) 11 % 65521) := by
  intro t
  induction t with
  | nil =>
    intro pre h e h0 h1
    refine ev_succ ?_
    simp only [spec_biHash.l0]
    refine ev_neg (not_lt_size e) (ev_some ?_)
    exact mm11 h0 h1
  | cons c t ih =>
    intro pre h e h0 h1
    have hm := lt_size e
    refine ev_succ ?_
    simp only [spec_biHash.l0, bt_mid e]
    refine ev_pos hm (ev_pos (by omega) ?_)
    rw [winc (by omega)]
    have := ih (pre ++ [c]) (hstep h c) (by rw [e]; simp) (hstep_range h0 h1).1 (hstep_range h0 h1).2
    rw [len_one] at this
    exact this
theorem spec_biHash_f (a0 a1 : Int) (s : ByteArray) (hz : (s.size : Int) ≤ 9223372036854775806) (h0 : 0 ≤ a0) (h0' : a0 ≤ 1000000) (h1 : 0 ≤ a1) (h1' : a1 ≤ 1000000) :
    Ev (fun k => spec_biHash.f k a0 a1 s) (hashV a0 a1 s) := by
  unfold spec_biHash.f
  exact spec_biHash_l0 s hz s.data.toList [] _ rfl (hstart_range h0 h0' h1 h1').1 (hstart_range h0 h0' h1 h1').2
theorem impl_hash_l1 {h : Int} (h0 : 0 ≤ h) (h1 : h ≤ 65520) : ∀ (m i : Nat), i + m = 11 → Ev (fun k => impl_hash.l1 k h (pw h i % 65521) (i : Int)) (pw h 11 % 65521) := by
  intro m
  induction m with
  | zero =>
    intro i e
    obtain rfl : i = 11 := by omega
    refine ev_succ ?_
    simp only [impl_hash.l1]
    exact ev_neg (by omega) (ev_some rfl)
  | succ m ih =>
    intro i e
    refine ev_succ ?_
    simp only [impl_hash.l1]
    refine ev_pos (by omega) ?_
    rw [winc (by omega)]
    have := ih (i + 1) (by omega)
    rw [← mm_pw h0 h1 i] at this
    exact this
theorem impl_hash_l0 (x2 : ByteArray) (hz : (x2.size : Int) ≤ 9223372036854775806) : ∀ (t pre : List UInt8) (h : Int), x2.data.toList = pre ++ t → 0 ≤ h → h ≤ 65520 →
    Ev (fun k => impl_hash.l0 k x2 h (x2.size : Int) (pre.length : Int)) (pw (hfold h t) 11 % 65521) := by
  intro t
  induction t with
  | nil =>
    intro pre h e h0 h1
    refine ev_succ ?_
    simp only [impl_hash.l0]
    exact ev_neg (not_lt_size e) (impl_hash_l1 h0 h1 11 0 rfl)
  | cons c t ih =>
    intro pre h e h0 h1
    have hm := lt_size e
    refine ev_succ ?_
    simp only [impl_hash.l0, bt_mid e]
    refine ev_pos hm (ev_pos (by omega) (ev_pos hm ?_))
    rw [winc (by omega)]
    have := ih (pre ++ [c]) (hstep h c) (by rw [e]; simp) (hstep_range h0 h1).1 (hstep_range h0 h1).2
    rw [len_one] at this
    exact this
theorem impl_hash_f (a0 a1 : Int) (s : ByteArray) (hz : (s.size : Int) ≤ 9223372036854775806) (h0 : 0 ≤ a0) (h0' : a0 ≤ 1000000) (h1 : 0 ≤ a1) (h1' : a1 ≤ 1000000) :
    Ev (fun k => impl_hash.f k a0 a1 s) (hashV a0 a1 s) := by
  unfold impl_hash.f
  exact impl_hash_l0 s hz s.data.toList [] _ rfl (hstart_range h0 h0' h1 h1').1 (hstart_range h0 h0' h1 h1').2

def placeV (a0 a1 : Int) (s : ByteArray) (n : Int) : Int := wrap64 (Int.tdiv (wrap64 (hashV a0 a1 s * n)) 65521)
theorem placeV_range (a0 a1 : Int) (s : ByteArray) {n : Int} (h0 : 1 ≤ n) (h1 : n ≤ 1000000) : 0 ≤ placeV a0 a1 s n ∧ placeV a0 a1 s n < n := by
  obtain ⟨a, b⟩ := hashV_range a0 a1 s
  have c := Int.mul_nonneg a (show (0 : Int) ≤ n by omega)
  have d := Int.mul_le_mul_of_nonneg_right b (show (0 : Int) ≤ n by omega)
  unfold placeV
  generalize hashV a0 a1 s * n = y at *
  rw [w64 (x := y) (by omega) (by omega), Int.tdiv_eq_ediv_of_nonneg (by omega), w64 (by omega) (by omega)]
  omega
theorem spec_biPlace_f (a0 a1 : Int) (s : ByteArray) (n : Int) (hz : (s.size : Int) ≤ 9223372036854775806) (h0 : 0 ≤ a0) (h0' : a0 ≤ 1000000) (h1 : 0 ≤ a1) (h1' : a1 ≤ 1000000) :
    Ev (fun k => spec_biPlace.f k a0 a1 s n) (placeV a0 a1 s n) := by
  unfold spec_biPlace.f
  exact ev_bind _ (spec_biHash_f a0 a1 s hz h0 h0' h1 h1') (Ev.now _)
theorem impl_place_f (a0 a1 : Int) (s : ByteArray) (n : Int) (hz : (s.size : Int) ≤ 9223372036854775806) (h0 : 0 ≤ a0) (h0' : a0 ≤ 1000000) (h1 : 0 ≤ a1) (h1' : a1 ≤ 1000000) :
    Ev (fun k => impl_place.f k a0 a1 s n) (placeV a0 a1 s n) := by
  unfold impl_place.f
  exact ev_bind _ (impl_hash_f a0 a1 s hz h0 h0' h1 h1') (Ev.now _)
end Go.Proofs.YtephjmmkggcmeaaQ
namespace Go.Proofs.YtephjmmkggcmeaaQ
open Go Go.RowKit Go.Proofs.YtephjmmkggcmeaaW.PrintWords Go.Proofs.YtephjmmkggcmeaaGp Go.Proofs.Ytephjmmkggcmeaa.PG

structure Bys (s : List Int) : Prop where
  len : (s.length : Int) ≤ 1048576
  all : ∀ x ∈ s, 0 ≤ x ∧ x ≤ 255
theorem and255 (x : Int) : 0 ≤ Go.bits .and .u64 x 255 ∧ Go.bits .and .u64 x 255 ≤ 255 := by
  have e : Go.bits .and .u64 x 255 = IntKind.u64.wrap (((BitVec.ofInt 64 x &&& BitVec.ofInt 64 255 : BitVec 64)).toNat : Int) := by unfold Go.bits; rfl
  have h : ((BitVec.ofInt 64 x &&& BitVec.ofInt 64 255 : BitVec 64)).toNat ≤ 255 := by
    rw [BitVec.toNat_and]
    exact Nat.and_le_right
  rw [e]
  unfold IntKind.wrap
  simp only [IntKind.bits, IntKind.signed]
  generalize (BitVec.ofInt 64 x &&& BitVec.ofInt 64 255 : BitVec 64).toNat = m at h
  simp
  omega
theorem rd_by {s : List Int} (hs : Bys s) (i : Int) : 0 ≤ rd s i ∧ rd s i ≤ 255 := by
  unfold rd
  by_cases c : i.toNat < s.length
  · rw [List.getD_eq_getElem?_getD, List.getElem?_eq_getElem c]
    exact hs.all _ (List.getElem_mem c)
  · rw [List.getD_eq_getElem?_getD, List.getElem?_eq_none (by omega)]
    simp
theorem next_ok {s : List Int} (hs : Bys s) {p : Int} (sd : Int) (h0 : 0 ≤ p) (h1 : p ≤ 4000000000000000000) :
    ∃ v p' sd', spec_l1Cur_next.f s p sd = some (v, p', sd') ∧ (0 ≤ v ∧ v ≤ 255) ∧ 0 ≤ p' ∧ p' ≤ p + 1 := by
  have hb := rd_by hs p
  have w1 : wrap64 (p + 1) = p + 1 := w64 (by omega) (by omega)
  have w2 : wrap64 (rd s p) = rd s p := w64 (by omega) (by omega)
  unfold spec_l1Cur_next.f
  rw [w1, w2]
  by_cases c : p < (s.length : Int)
  · rw [if_pos c, if_pos h0]
    split
    · exact ⟨_, _, _, rfl, hb, by omega, by omega⟩
    · omega
  · rw [if_neg c, if_neg (by omega)]
    refine ⟨_, _, _, rfl, ?_, by omega, by omega⟩
    have := and255 ((IntKind.u64.wrap ((IntKind.u64.wrap (IntKind.u64.wrap (sd * 6364136223846793005))) + 1442695040888963407)) / 1099511627776)
    rw [w64 (by omega) (by omega)]
    exact this
theorem pick_ok {s : List Int} (hs : Bys s) {p : Int} (sd : Int) {n : Int} (h0 : 0 ≤ p) (h1 : p ≤ 3000000000000000000) :
    ∃ v p' sd', spec_l1Cur_pick.f s p sd n = some (v, p', sd') ∧ (0 ≤ v ∧ (v < n ∨ v = 0)) ∧ 0 ≤ p' ∧ p' ≤ p + 2 := by
  unfold spec_l1Cur_pick.f
  by_cases c : n ≤ 1
  · rw [if_pos c]; exact ⟨_, _, _, rfl, ⟨by omega, .inr rfl⟩, h0, by omega⟩
  obtain ⟨v, p', sd', e, hv, q0, q1⟩ := next_ok hs sd h0 (by omega)
  have hn : ¬ n = 0 := by omega
  rw [if_neg c, e]
  simp only [Option.bind_some, if_neg hn]
  by_cases d : n > 200
  · obtain ⟨u, p2, sd2, e2, hu, r0, r1⟩ := next_ok hs sd' q0 (by omega)
    rw [if_pos d, e2]
    simp only [Option.bind_some]
    refine ⟨_, _, _, rfl, ?_, r0, by omega⟩
    rw [w64 (x := v * 256) (by omega) (by omega), w64 (x := v * 256 + u) (by omega) (by omega), Int.tmod_eq_emod_of_nonneg (by omega)]
    exact ⟨Int.emod_nonneg _ hn, .inl (Int.emod_lt_of_pos _ (by omega))⟩
  · rw [if_neg d]
    refine ⟨_, _, _, rfl, ?_, q0, by omega⟩
    rw [Int.tmod_eq_emod_of_nonneg hv.1]
    exact ⟨Int.emod_nonneg _ hn, .inl (Int.emod_lt_of_pos _ (by omega))⟩
theorem one_ok {s : List Int} (hs : Bys s) {p : Int} (sd : Int) (n : Int) (h0 : 0 ≤ p) (h1 : p ≤ 3000000000000000000) :
    ∃ v p' sd', spec_l1Cur_one.f s p sd n = some (v, p', sd') ∧ 0 ≤ p' ∧ p' ≤ p + 2 := by
  obtain ⟨v, p', sd', e, _, q0, q1⟩ := pick_ok hs sd (n := n) h0 h1
  unfold spec_l1Cur_one.f
  rw [e]
  exact ⟨_, _, _, rfl, q0, q1⟩
theorem among_ok {s : List Int} (hs : Bys s) {p : Int} (sd : Int) {l : List Int} (hl : 0 < l.length) (h0 : 0 ≤ p) (h1 : p ≤ 3000000000000000000) :
    ∃ v p' sd', spec_l1Cur_among.f s p sd l = some (v, p', sd') ∧ v ∈ l ∧ 0 ≤ p' ∧ p' ≤ p + 2 := by
  obtain ⟨v, p', sd', e, hv, q0, q1⟩ := pick_ok hs sd (n := (l.length : Int)) h0 h1
  have hm : rd l v ∈ l := by
    unfold rd
    have : v.toNat < l.length := by omega
    rw [List.getD_eq_getElem?_getD, List.getElem?_eq_getElem this]
    exact List.getElem_mem this
  unfold spec_l1Cur_among.f
  rw [e]
  simp only [Option.bind_some]
  rw [if_pos (by omega), if_pos (by omega)]
  exact ⟨_, _, _, rfl, hm, q0, q1⟩
theorem strOf_size (l : List Int) : (strOfNums l).size = l.length := by simp [strOfNums, ByteArray.size]

def Dr {α : Type} (g : Nat → Option (α × Int × Int)) (p c : Int) (P : α → Prop) : Prop := ∃ v p' sd', Ev g (v, p', sd') ∧ P v ∧ 0 ≤ p' ∧ p' ≤ p + c
theorem key_l1 (s : List Int) (p sd : Int) : ∀ (d : Nat) (x : List Int), 12 - x.length ≤ d → x.length ≤ 12 →
    ∃ v, Ev (fun k => spec_l1Cur_key.l1 k x s p sd) (v, p, sd) ∧ v.size ≤ 12 := by
  intro d
  induction d with
  | zero =>
    intro x h1 h2
    refine ⟨strOfNums x, ev_succ ?_, by rw [strOf_size]; omega⟩
    simp only [spec_l1Cur_key.l1]
    exact ev_neg (by omega) (Ev.now _)
  | succ d ih =>
    intro x h1 h2
    by_cases c : (x.length : Int) < 12
    · obtain ⟨v, e, hv⟩ := ih (x ++ [97]) (by simp; omega) (by simp; omega)
      refine ⟨v, ev_succ ?_, hv⟩
      simp only [spec_l1Cur_key.l1]
      exact ev_pos c (ev_pos (by omega) e)
    · refine ⟨strOfNums x, ev_succ ?_, by rw [strOf_size]; omega⟩
      simp only [spec_l1Cur_key.l1]
      exact ev_neg c (Ev.now _)
theorem key_l0 {s : List Int} (hs : Bys s) : ∀ (n : Nat) (x : List Int) (p sd : Int), x.length + n ≤ 12 → 0 ≤ p → p + 2 * (n : Int) ≤ 2000000000000000000 →
    Dr (fun k => spec_l1Cur_key.l0 k x (n : Int) s p sd) p (2 * (n : Int) + 2) (fun v => v.size ≤ 12) := by
  intro n
  induction n with
  | zero =>
    intro x p sd hx h0 h1
    obtain ⟨v, p', sd', e, q0, q1⟩ := one_ok hs sd 12 h0 (by omega)
    by_cases c : v = true
    · obtain ⟨u, eu, hu⟩ := key_l1 s p' sd' 12 x (by omega) (by omega)
      refine ⟨u, p', sd', ev_succ ?_, hu, q0, by omega⟩
      simp only [spec_l1Cur_key.l0, e]
      exact ev_neg (by omega) (ev_bind _ (Ev.now _) (ev_pos c eu))
    · refine ⟨strOfNums x, p', sd', ev_succ ?_, (by rw [strOf_size]; omega : (strOfNums x).size ≤ 12), q0, by omega⟩
      simp only [spec_l1Cur_key.l0, e]
      exact ev_neg (by omega) (ev_bind _ (Ev.now _) (ev_neg c (Ev.now _)))
  | succ n ih =>
    intro x p sd hx h0 h1
    obtain ⟨v, p', sd', e, hv, q0, q1⟩ := pick_ok hs sd (n := 11) h0 (by omega)
    obtain ⟨u, p2, sd2, eu, hu, r0, r1⟩ := ih (x ++ [bt (⟨#[97, 97, 98, 98, 99, 120, 121, 122, 33, 125, 48]⟩ : ByteArray) v]) p' sd' (by simp; omega) q0 (by omega)
    refine ⟨u, p2, sd2, ev_succ ?_, hu, r0, by omega⟩
    simp only [spec_l1Cur_key.l0, e]
    refine ev_pos (by omega) (ev_bind _ (Ev.now _) (ev_pos hv.1 (ev_pos (by omega) (ev_pos (by omega) ?_))))
    rw [wdec (by omega)]
    exact eu
theorem key_ok {s : List Int} (hs : Bys s) {p : Int} (sd : Int) (h0 : 0 ≤ p) (h1 : p ≤ 1000000000000000000) : Dr (fun k => spec_l1Cur_key.f k s p sd) p 12 (fun v => v.size ≤ 12) := by
  obtain ⟨v, p', sd', e, hv, q0, q1⟩ := pick_ok hs sd (n := 4) h0 (by omega)
  obtain ⟨u, p2, sd2, eu, hu, r0, r1⟩ := key_l0 hs (v.toNat + 1) [] p' sd' (by simp; omega) q0 (by omega)
  refine ⟨u, p2, sd2, ?_, hu, r0, by omega⟩
  unfold spec_l1Cur_key.f
  rw [e]
  refine ev_bind _ (Ev.now _) ?_
  rw [w64 (by omega) (by omega), show 1 + v = ((v.toNat + 1 : Nat) : Int) from by omega]
  exact eu
def insK (s : ByteArray) : List ByteArray → List ByteArray
  | [] => [s]
  | q :: t => if lessS q s = true then q :: insK s t else if q = s then q :: t else s :: q :: t
theorem insK_len (s : ByteArray) : ∀ l, (insK s l).length ≤ l.length + 1
  | [] => by simp [insK]
  | q :: t => by
    have := insK_len s t
    unfold insK
    split
    · simp; omega
    · split <;> simp
theorem insK_mem (s : ByteArray) : ∀ l, ∀ x ∈ insK s l, x = s ∨ x ∈ l
  | [], x, h => by simp [insK] at h; exact .inl h
  | q :: t, x, h => by
    unfold insK at h
    split at h
    · rcases List.mem_cons.1 h with e | e
      · exact .inr (by simp [e])
      · rcases insK_mem s t x e with e | e
        · exact .inl e
        · exact .inr (by simp [e])
    · split at h
      · exact .inr h
      · rcases List.mem_cons.1 h with e | e
        · exact .inl e
        · exact .inr e
theorem putS_l0 (x0 : List ByteArray) (s : ByteArray) (hx : x0.length ≤ 1000000) : ∀ (t pre : List ByteArray), x0 = pre ++ t →
    Ev (fun k => spec_l1PutS.l0 k x0 s (pre.length : Int)) (pre ++ insK s t) := by
  intro t
  induction t with
  | nil =>
    intro pre h
    have hp : x0 = pre := by rw [h, List.append_nil]
    subst hp
    refine ev_succ ?_
    simp only [spec_l1PutS.l0]
    refine ev_neg (by omega) (ev_bind _ (Ev.now _) (ev_pos (by omega) (ev_pos (by omega) (ev_bind _ (Ev.now _) ?_))))
    rw [Int.toNat_natCast, List.take_length, List.nil_append]
    refine ev_pos (by simp; omega) (ev_bind _ (Ev.now _) (ev_pos (by omega) (ev_bind _ (Ev.now _) (ev_bind _ (Ev.now _) (ev_pos (by simp; omega) (ev_some ?_))))))
    simp [insK]
  | cons q t ih =>
    intro pre h
    have hm : ((pre.length : Nat) : Int) < (x0.length : Int) := by rw [h]; exact lt_mid
    have hg : rdOf ByteArray.empty x0 (pre.length : Int) = q := by rw [h]; exact rdOf_mid
    refine ev_succ ?_
    simp only [spec_l1PutS.l0, hg]
    refine ev_pos hm (ev_pos (by omega) ?_)
    unfold insK
    by_cases c : lessS q s = true
    · refine ev_pos c ?_
      rw [winc (by omega), if_pos c]
      have := ih (pre ++ [q]) (by rw [h]; simp)
      rw [len_one] at this
      simpa using this
    · refine ev_neg c ?_
      rw [if_neg c]
      by_cases d : q = s
      · refine ev_pos (tl_inj.2 d) (ev_some ?_)
        rw [if_pos d, h]
      · refine ev_neg (fun e => d (tl_inj.1 e)) (ev_bind _ (Ev.now _) (ev_pos (by omega) (ev_bind _ (Ev.now _) ?_)))
        have et : x0.take pre.length = pre := by rw [h]; simp
        have ed : x0.drop pre.length = q :: t := by rw [h]; simp
        have hl : x0.length = pre.length + (t.length + 1) := by rw [h]; simp
        rw [Int.toNat_natCast, et, ed, List.nil_append, if_neg d]
        refine ev_pos (by simp; omega) (ev_bind _ (Ev.now _) (ev_pos (by omega) (ev_bind _ (Ev.now _) (ev_bind _ (Ev.now _) (ev_pos (by simp; omega) (ev_some ?_))))))
        simp
theorem putS_f (l : List ByteArray) (s : ByteArray) (h : l.length ≤ 1000000) : Ev (fun k => spec_l1PutS.f k l s) (insK s l) := putS_l0 l s h l [] rfl
def Kys (m : Nat) (l : List ByteArray) : Prop := l.length ≤ m ∧ ∀ s ∈ l, s.size ≤ 13
theorem Kys.ins {m : Nat} {l : List ByteArray} (h : Kys m l) {s : ByteArray} (hs : s.size ≤ 13) : Kys (m + 1) (insK s l) :=
  ⟨by have := insK_len s l; have := h.1; omega, fun x hx => by exact (insK_mem s l x hx).elim (fun e => e ▸ hs) (h.2 x)⟩
theorem Kys.one {m : Nat} {l : List ByteArray} (h : Kys m l) {s : ByteArray} (hs : s.size ≤ 13) : Kys (m + 1) (l ++ [s]) :=
  ⟨by have := h.1; simp; omega, fun x hx => by exact (List.mem_append.1 hx).elim (h.2 x) (fun e => List.mem_singleton.1 e ▸ hs)⟩
theorem Kys.mono {m m' : Nat} {l : List ByteArray} (h : Kys m l) (hm : m ≤ m') : Kys m' l := ⟨Nat.le_trans h.1 hm, h.2⟩
theorem keys_l0 {s : List Int} (hs : Bys s) : ∀ (n m : Nat) (x : List ByteArray) (p sd : Int), Kys m x → m + n ≤ 1000 → 0 ≤ p → p + 12 * (n : Int) ≤ 500000000000000000 →
    Dr (fun k => spec_l1Cur_keys.l0 k x (n : Int) s p sd) p (12 * (n : Int)) (Kys (m + n)) := by
  intro n
  induction n with
  | zero =>
    intro m x p sd hx hm h0 h1
    refine ⟨x, p, sd, ev_succ ?_, hx, h0, by omega⟩
    simp only [spec_l1Cur_keys.l0]
    exact ev_neg (by omega) (Ev.now _)
  | succ n ih =>
    intro m x p sd hx hm h0 h1
    obtain ⟨v, p', sd', e, hv, q0, q1⟩ := key_ok hs sd h0 (by omega)
    have hl := hx.1
    obtain ⟨u, p2, sd2, eu, hu, r0, r1⟩ := ih (m + 1) (insK v x) p' sd' (hx.ins (by omega)) (by omega) q0 (by omega)
    refine ⟨u, p2, sd2, ev_succ ?_, hu.mono (by omega), r0, by omega⟩
    simp only [spec_l1Cur_keys.l0]
    refine ev_pos (by omega) (ev_bind _ e (ev_bind _ (putS_f x v (by omega)) ?_))
    rw [wdec (by omega)]
    exact eu
theorem keys_ok {s : List Int} (hs : Bys s) {p : Int} (sd : Int) {n : Nat} (hn : n ≤ 100) (h0 : 0 ≤ p) (h1 : p ≤ 400000000000000000) : Dr (fun k => spec_l1Cur_keys.f k s p sd (n : Int)) p (12 * (n : Int) + 2) (Kys n) := by
  obtain ⟨v, p', sd', e, hv, q0, q1⟩ := pick_ok hs sd (n := (n : Int) + 1) h0 (by omega)
  obtain ⟨u, p2, sd2, eu, hu, r0, r1⟩ := keys_l0 hs v.toNat 0 [] p' sd' ⟨by simp, by simp⟩ (by omega) q0 (by omega)
  refine ⟨u, p2, sd2, ?_, hu.mono (by omega), r0, by omega⟩
  unfold spec_l1Cur_keys.f
  rw [w64 (x := (n : Int) + 1) (by omega) (by omega), e]
  refine ev_bind _ (Ev.now _) ?_
  rw [show ((v.toNat : Nat) : Int) = v from by omega] at eu
  exact eu
end Go.Proofs.YtephjmmkggcmeaaQ
namespace Go.Proofs.YtephjmmkggcmeaaQ
open Go Go.RowKit Go.Proofs.YtephjmmkggcmeaaW.PrintWords Go.Proofs.YtephjmmkggcmeaaGp Go.Proofs.Ytephjmmkggcmeaa.PG

theorem Dr.mono {α : Type} {g : Nat → Option (α × Int × Int)} {p c c' : Int} {P P' : α → Prop} (h : Dr g p c P) (hc : c ≤ c') (hP : ∀ x, P x → P' x) : Dr g p c' P' := by
  obtain ⟨v, p', sd', e, hv, q0, q1⟩ := h
  exact ⟨v, p', sd', e, hP v hv, q0, by omega⟩
theorem seed9_ok {s : List Int} (hs : Bys s) {p : Int} (sd : Int) (h0 : 0 ≤ p) (h1 : p ≤ 1000000000000000000) :
    ∃ v p' sd', spec_l1Cur_seed9.f s p sd = some (v, p', sd') ∧ (-1 ≤ v ∧ v ≤ 10000) ∧ 0 ≤ p' ∧ p' ≤ p + 4 := by
  obtain ⟨v, p', sd', e, hv, q0, q1⟩ := pick_ok hs sd (n := 12) h0 (by omega)
  unfold spec_l1Cur_seed9.f
  rw [e]
  simp only [Option.bind_some]
  by_cases c : v = 0
  · obtain ⟨u, p2, sd2, eu, hu, r0, r1⟩ := among_ok hs sd' (l := [(-1), 9999, 10000]) (by simp) q0 (by omega)
    rw [if_pos c, eu]
    refine ⟨u, p2, sd2, rfl, ?_, r0, by omega⟩
    simp only [List.mem_cons, List.not_mem_nil, or_false] at hu
    omega
  · rw [if_neg c]
    by_cases d : v = 1
    · obtain ⟨u, p2, sd2, eu, hu, r0, r1⟩ := pick_ok hs sd' (n := 10000) q0 (by omega)
      rw [if_pos d, eu]
      exact ⟨u, p2, sd2, rfl, by omega, r0, by omega⟩
    · obtain ⟨u, p2, sd2, eu, hu, r0, r1⟩ := pick_ok hs sd' (n := 20) q0 (by omega)
      rw [if_neg d, eu]
      exact ⟨u, p2, sd2, rfl, by omega, r0, by omega⟩
theorem of_ok {s : List Int} (hs : Bys s) {p : Int} (sd : Int) {l : List ByteArray} (hl : 0 < l.length) (h0 : 0 ≤ p) (h1 : p ≤ 3000000000000000000) :
    ∃ v p' sd', spec_l1Cur_of.f s p sd l = some (v, p', sd') ∧ v ∈ l ∧ 0 ≤ p' ∧ p' ≤ p + 2 := by
  obtain ⟨v, p', sd', e, hv, q0, q1⟩ := pick_ok hs sd (n := (l.length : Int)) h0 h1
  have hm : rdOf ByteArray.empty l v ∈ l := by
    unfold rdOf
    have : v.toNat < l.length := by omega
    rw [List.getD_eq_getElem?_getD, List.getElem?_eq_getElem this]
    exact List.getElem_mem this
  unfold spec_l1Cur_of.f
  rw [e]
  simp only [Option.bind_some]
  rw [if_pos (by omega), if_pos (by omega)]
  exact ⟨_, _, _, rfl, hm, q0, q1⟩
theorem text_ok {s : List Int} (hs : Bys s) {p : Int} (sd : Int) (h0 : 0 ≤ p) (h1 : p ≤ 500000000000000000) : Dr (fun k => spec_l1Cur_text.f k s p sd) p 14 (fun v => v.size ≤ 13) := by
  obtain ⟨v, p', sd', e, hv, q0, q1⟩ := pick_ok hs sd (n := 16) h0 (by omega)
  obtain ⟨u, p2, sd2, eu, hu, r0, r1⟩ := key_ok hs sd' q0 (by omega)
  unfold spec_l1Cur_text.f
  rw [e]
  simp only [Option.bind_some]
  by_cases c0 : v = 0
  · exact ⟨_, p', sd', ev_pos c0 (Ev.now _), by decide, q0, by omega⟩
  · by_cases c1 : v = 1
    · have h1 : (⟨#[32]⟩ : ByteArray).size = 1 := rfl
      refine ⟨u ++ ⟨#[32]⟩, p2, sd2, ev_neg c0 (ev_pos c1 (ev_bind _ eu (ev_pos (by simp only []; omega) (Ev.now _)))), ?_, r0, by omega⟩
      show (u ++ ⟨#[32]⟩ : ByteArray).size ≤ 13
      rw [ByteArray.size_append]
      omega
    · by_cases c2 : v = 2
      · exact ⟨_, p', sd', ev_neg c0 (ev_neg c1 (ev_pos c2 (Ev.now _))), by decide, q0, by omega⟩
      · by_cases c3 : v = 3
        · obtain ⟨x, p3, sd3, ex, hx, t0, t1⟩ := of_ok hs sd' (l := [(⟨#[126]⟩ : ByteArray), (⟨#[125]⟩ : ByteArray), (⟨#[97, 126]⟩ : ByteArray), (⟨#[127]⟩ : ByteArray)]) (by simp) q0 (by omega)
          refine ⟨x, p3, sd3, ev_neg c0 (ev_neg c1 (ev_neg c2 (ev_pos c3 ?_))), ?_, t0, by omega⟩
          · rw [ex]; exact ev_bind _ (Ev.now _) (Ev.now _)
          · simp only [List.mem_cons, List.not_mem_nil, or_false] at hx
            rcases hx with rfl | rfl | rfl | rfl <;> decide
        · exact ⟨u, p2, sd2, ev_neg c0 (ev_neg c1 (ev_neg c2 (ev_neg c3 (ev_bind _ eu (Ev.now _))))), by omega, r0, by omega⟩
theorem many_l0 (s : List Int) (p sd : Int) : ∀ (d i m : Nat) (x : List ByteArray), Kys m x → m + d ≤ 1000 → i + d ≤ 1000 →
    ∃ v, Ev (fun k => spec_l1Cur_many.l0 k ((i + d : Nat) : Int) x (i : Int) s p sd) (v, p, sd) ∧ Kys (m + d) v := by
  intro d
  induction d with
  | zero =>
    intro i m x hx hm hi
    refine ⟨x, ev_succ ?_, hx⟩
    simp only [spec_l1Cur_many.l0]
    exact ev_neg (by omega) (Ev.now _)
  | succ d ih =>
    intro i m x hx hm hi
    have hl := hx.1
    have hz : (strOfNums [(wrap64 (97 + (wrap64 (Int.tdiv (i : Int) 10)))) % 256, (wrap64 (48 + (Int.tmod (i : Int) 10))) % 256]).size ≤ 13 := by rw [strOf_size]; simp
    obtain ⟨v, e, hv⟩ := ih (i + 1) (m + 1) (insK (strOfNums [(wrap64 (97 + (wrap64 (Int.tdiv (i : Int) 10)))) % 256, (wrap64 (48 + (Int.tmod (i : Int) 10))) % 256]) x) (hx.ins hz) (by omega) (by omega)
    refine ⟨v, ev_succ ?_, hv.mono (by omega)⟩
    simp only [spec_l1Cur_many.l0]
    refine ev_pos (by omega) (ev_bind _ (putS_f x _ (by omega)) ?_)
    rw [winc (by omega), show i + (d + 1) = i + 1 + d from by omega]
    exact e
theorem anyKeys_ok {s : List Int} (hs : Bys s) {p : Int} (sd : Int) {n : Nat} (hn : n ≤ 40) (h0 : 0 ≤ p) (h1 : p ≤ 100000000000000000) : Dr (fun k => spec_l1Cur_anyKeys.f k s p sd (n : Int)) p 600 (Kys 42) := by
  obtain ⟨ks, p', sd', e, hv, q0, q1⟩ := keys_ok hs sd (by omega : n ≤ 100) h0 (by omega)
  obtain ⟨v, p2, sd2, e2, hv2, r0, r1⟩ := pick_ok hs sd' (n := 14) q0 (by omega)
  have hl := hv.1
  unfold spec_l1Cur_anyKeys.f
  by_cases c0 : v = 0
  · obtain ⟨u, p3, sd3, eu, hu, t0, t1⟩ := text_ok hs sd2 r0 (by omega)
    refine ⟨ks ++ [u], p3, sd3, ev_bind _ e ?_, (hv.one hu).mono (by omega), t0, by omega⟩
    simp only [e2]
    exact ev_bind _ (Ev.now _) (ev_pos c0 (ev_bind _ eu (ev_pos (by omega) (Ev.now _))))
  · by_cases c1 : v = 1
    · by_cases c : (ks.length : Int) > 0
      · obtain ⟨u, p3, sd3, eu, hu, t0, t1⟩ := pick_ok hs sd2 (n := (ks.length : Int)) r0 (by omega)
        have hm : rdOf ByteArray.empty ks u ∈ ks := by
          unfold rdOf
          have : u.toNat < ks.length := by omega
          rw [List.getD_eq_getElem?_getD, List.getElem?_eq_getElem this]
          exact List.getElem_mem this
        refine ⟨ks ++ [rdOf ByteArray.empty ks u], p3, sd3, ev_bind _ e ?_, (hv.one (hv.2 _ hm)).mono (by omega), t0, by omega⟩
        simp only [e2]
        refine ev_bind _ (Ev.now _) (ev_neg c0 (ev_pos c1 (ev_pos c ?_)))
        simp only [eu]
        exact ev_bind _ (Ev.now _) (ev_pos (by omega) (ev_pos (by omega) (ev_pos (by omega) (Ev.now _))))
      · refine ⟨ks, p2, sd2, ev_bind _ e ?_, hv.mono (by omega), r0, by omega⟩
        simp only [e2]
        exact ev_bind _ (Ev.now _) (ev_neg c0 (ev_pos c1 (ev_neg c (Ev.now _))))
    · by_cases c2 : v = 2
      · obtain ⟨u, p3, sd3, eu, hu, t0, t1⟩ := pick_ok hs sd2 (n := 2) r0 (by omega)
        obtain ⟨y, ey, hy⟩ := many_l0 s p3 sd3 (40 + u.toNat) 0 0 [] ⟨by simp, by simp⟩ (by omega) (by omega)
        refine ⟨y, p3, sd3, ev_bind _ e ?_, hy.mono (by omega), t0, by omega⟩
        simp only [e2]
        refine ev_bind _ (Ev.now _) (ev_neg c0 (ev_neg c1 (ev_pos c2 ?_)))
        simp only [eu]
        refine ev_bind _ (Ev.now _) (ev_bind (y, p3, sd3) ?_ (Ev.now _))
        unfold spec_l1Cur_many.f
        simp only []
        rw [w64 (by omega) (by omega), show 40 + u = ((0 + (40 + u.toNat) : Nat) : Int) from by omega]
        exact ey
      · refine ⟨ks, p2, sd2, ev_bind _ e ?_, hv.mono (by omega), r0, by omega⟩
        simp only [e2]
        exact ev_bind _ (Ev.now _) (ev_neg c0 (ev_neg c1 (ev_neg c2 (Ev.now _))))
theorem big_f {l0 l1 : List Int} (h0 : l0.length ≤ maxLen) (h1 : l1.length ≤ maxLen) : ∃ b, laws_big.f l0 l1 = some b ∧ (b = false → (l0.length : Int) ≤ 1048576 ∧ (l1.length : Int) ≤ 1048576) := by
  rw [maxLen_eq] at h0 h1
  unfold laws_big.f
  by_cases c : (l0.length : Int) > 1048576
  · exact ⟨true, if_pos c, by simp⟩
  · refine ⟨_, if_neg c, fun h => ?_⟩
    rw [decide_eq_false_iff_not, w64 (by omega) (by omega)] at h
    omega
theorem bys {l : List Int} (h : (l.length : Int) ≤ 1048576) (hw : ∀ x ∈ l, (Lit.int .u8 x).wf = true) : Bys l := by
  refine ⟨h, fun x hx => ?_⟩
  have := hw x hx
  simp only [Lit.wf, Bool.and_eq_true, decide_eq_true_eq] at this
  exact this
end Go.Proofs.YtephjmmkggcmeaaQ
namespace Go.Proofs.YtephjmmkggcmeaaQ
open Go Go.RowKit Go.Proofs.YtephjmmkggcmeaaW.PrintWords Go.Proofs.YtephjmmkggcmeaaGp Go.Proofs.Ytephjmmkggcmeaa.PG

theorem spec_l1Has_l0 (x0 : List Int) (a : Int) (hl : (x0.length : Int) ≤ 9223372036854775806) : ∀ (t pre : List Int), x0 = pre ++ t →
    Ev (fun k => spec_l1Has.l0 k a x0 (x0.length : Int) (pre.length : Int)) (t.contains a) := by
  intro t
  induction t with
  | nil =>
    intro pre h
    refine ev_succ ?_
    simp only [spec_l1Has.l0]
    exact ev_neg (by rw [h]; exact not_lt_end) (ev_some (by simp))
  | cons x t ih =>
    intro pre h
    have hm : ((pre.length : Nat) : Int) < (x0.length : Int) := by rw [h]; exact lt_mid
    have hg : rd x0 (pre.length : Int) = x := by rw [h]; exact rd_mid
    refine ev_succ ?_
    simp only [spec_l1Has.l0, hg]
    refine ev_pos hm (ev_pos (by omega) (ev_pos hm ?_))
    by_cases c : x = a
    · exact ev_pos c (ev_some (by simp [c]))
    · refine ev_neg c ?_
      rw [winc (by omega)]
      have := ih (pre ++ [x]) (by rw [h]; simp)
      rw [len_one] at this
      have e : (x :: t).contains a = t.contains a := by simp [Ne.symm c]
      rw [e]
      exact this
theorem spec_l1Has_f (l : List Int) (a : Int) (hl : (l.length : Int) ≤ 9223372036854775806) : Ev (fun k => spec_l1Has.f k l a) (l.contains a) := by
  unfold spec_l1Has.f
  exact spec_l1Has_l0 l a hl l [] rfl
end Go.Proofs.YtephjmmkggcmeaaQ
namespace Go.Proofs.YtephjmmkggcmeaaQ.CK
open Classical

def el (ls : List (List Int)) (i : Nat) : List Int := ls.getD i []
def Adj (ls : List (List Int)) (i j : Nat) : Prop := ∃ x, x ∈ el ls i ∧ x ∈ el ls j
inductive Reach (ls : List (List Int)) : Nat → Nat → Prop
  | refl (i : Nat) : Reach ls i i
  | step {i j k : Nat} : Reach ls i j → k < ls.length → Adj ls j k → Reach ls i k
theorem Adj.symm {ls : List (List Int)} {i j : Nat} (h : Adj ls i j) : Adj ls j i := by
  obtain ⟨x, h1, h2⟩ := h
  exact ⟨x, h2, h1⟩
theorem Reach.trans {ls : List (List Int)} {i j k : Nat} (h : Reach ls i j) (h' : Reach ls j k) : Reach ls i k := by
  induction h' with
  | refl => exact h
  | step _ hk ha ih => exact .step ih hk ha
theorem Reach.lt {ls : List (List Int)} {i j : Nat} (h : Reach ls i j) (hi : i < ls.length) : j < ls.length := by
  cases h with
  | refl => exact hi
  | step _ hk _ => exact hk
theorem Reach.symm {ls : List (List Int)} {i j : Nat} (h : Reach ls i j) (hi : i < ls.length) : Reach ls j i := by
  induction h with
  | refl => exact .refl _
  | step h1 hk ha ih => exact (Reach.step (.refl _) (h1.lt hi) ha.symm).trans ih
def Cell (ls : List (List Int)) (i : Nat) (x : Int) : Prop := ∃ j, Reach ls i j ∧ x ∈ el ls j
noncomputable def comp (ls : List (List Int)) (i : Nat) : List Nat := (List.range ls.length).filter (fun j => decide (Reach ls i j))
def Own (ls : List (List Int)) (m : Nat) (f : Nat → Int) : Prop := (∀ i, i < m → f i ∈ el ls i) ∧ ∀ i j, i < m → j < m → f i = f j → i = j
def Pairs (ls : List (List Int)) : Prop := ∀ i, i < ls.length → ∃ a b, el ls i = [a, b]

theorem countP_lt {α : Type} {p q : α → Bool} : ∀ {l : List α}, (∀ x ∈ l, p x = true → q x = true) → (∃ x ∈ l, q x = true ∧ p x = false) → l.countP p + 1 ≤ l.countP q
  | [], _, h => by obtain ⟨x, hx, _⟩ := h; simp at hx
  | y :: l, hm, h => by
    have hle : l.countP p ≤ l.countP q := List.countP_mono_left (fun x hx => hm x (by simp [hx]))
    rw [List.countP_cons, List.countP_cons]
    obtain ⟨x, hx, h1, h2⟩ := h
    rcases List.mem_cons.1 hx with rfl | hx
    · simp [h1, h2]; omega
    · have ih := countP_lt (fun x hx => hm x (by simp [hx])) ⟨x, hx, h1, h2⟩
      have hy := hm y (by simp)
      by_cases c : p y = true
      · simp [c, hy c]; omega
      · simp [c]; omega
noncomputable def cnt (n : Nat) (o : Nat → Int) (v : Int) : Nat := (List.range n).countP (fun i => decide (o i = v))
theorem countP_update {n : Nat} (p q : Nat → Bool) {d : Nat} (h : ∀ i, i ≠ d → p i = q i) (hd : d < n) : (List.range n).countP p + (if q d then 1 else 0) = (List.range n).countP q + (if p d then 1 else 0) := by
  induction n with
  | zero => omega
  | succ n ih =>
    rw [List.range_succ, List.countP_append, List.countP_append, List.countP_singleton, List.countP_singleton]
    by_cases c : d = n
    · subst c
      have e : (List.range d).countP p = (List.range d).countP q := List.countP_congr (fun i hi => by
        rw [List.mem_range] at hi
        rw [h i (by omega)])
      rw [e]; omega
    · have := ih (by omega)
      rw [h n (fun e => c e.symm)]
      omega
section
variable {ls : List (List Int)} {n : Nat}
def Path (ls : List (List Int)) (n : Nat) (o : Nat → Int) : Nat → Int → Int → Prop
  | 0, v, w => w = v
  | k + 1, v, w => ∃ d v', d < n ∧ o d = v ∧ v' ∈ el ls d ∧ Path ls n o k v' w
theorem Path.snoc {o : Nat → Int} : ∀ {k : Nat} {v w : Int}, Path ls n o k v w → ∀ {d : Nat} {x : Int}, d < n → o d = w → x ∈ el ls d → Path ls n o (k + 1) v x
  | 0, _, _, h, d, x, hd, ho, hx => ⟨d, x, hd, ho.trans h, hx, rfl⟩
  | _ + 1, _, _, ⟨e, v', he, ho', hv, hp⟩, _, _, hd, ho, hx => ⟨e, v', he, ho', hv, hp.snoc hd ho hx⟩
end

section
variable {ls : List (List Int)}
theorem nodup_le : ∀ {S V : List Int}, S.Nodup → (∀ x ∈ S, x ∈ V) → S.length ≤ V.length
  | [], _, _, _ => by simp
  | x :: S, V, hn, h => by
    rw [List.nodup_cons] at hn
    have hx := h x (by simp)
    have := nodup_le (S := S) (V := V.erase x) hn.2 (fun y hy => (List.mem_erase_of_ne (fun e => hn.1 (by rw [← e]; exact hy))).2 (h y (by simp [hy])))
    rw [List.length_erase_of_mem hx] at this
    have := List.length_pos_of_mem hx
    simp; omega
end
end Go.Proofs.YtephjmmkggcmeaaQ.CK
namespace Go.Proofs.YtephjmmkggcmeaaQ.CK
open Classical
section
variable {ls : List (List Int)}
noncomputable def heads (ls : List (List Int)) : List Nat := (List.range ls.length).filter (fun i => decide (∀ j, Reach ls i j → i ≤ j))
noncomputable def groupsC (ls : List (List Int)) : List (List Nat) := (heads ls).map (comp ls)
theorem mem_comp {i j : Nat} : j ∈ comp ls i ↔ j < ls.length ∧ Reach ls i j := by
  unfold comp
  rw [List.mem_filter, List.mem_range, decide_eq_true_eq]
theorem mem_heads {i : Nat} : i ∈ heads ls ↔ i < ls.length ∧ ∀ j, Reach ls i j → i ≤ j := by
  unfold heads
  rw [List.mem_filter, List.mem_range, decide_eq_true_eq]
theorem comp_nodup (i : Nat) : (comp ls i).Nodup := List.nodup_range.filter _
theorem comp_self {i : Nat} (hi : i < ls.length) : i ∈ comp ls i := mem_comp.2 ⟨hi, .refl _⟩
theorem head_of : ∀ (n j : Nat), j ≤ n → j < ls.length → ∃ i, i ∈ heads ls ∧ Reach ls i j := by
  intro n
  induction n with
  | zero =>
    intro j hj hl
    exact ⟨j, mem_heads.2 ⟨hl, fun k _ => by omega⟩, .refl _⟩
  | succ n ih =>
    intro j hj hl
    by_cases c : ∀ k, Reach ls j k → j ≤ k
    · exact ⟨j, mem_heads.2 ⟨hl, c⟩, .refl _⟩
    · simp only [Classical.not_forall] at c
      obtain ⟨k, hk, hlt⟩ := c
      obtain ⟨i, h1, h2⟩ := ih k (by omega) (hk.lt hl)
      exact ⟨i, h1, h2.trans (hk.symm hl)⟩
theorem head_uniq {i i' j : Nat} (h : i ∈ heads ls) (h' : i' ∈ heads ls) (hj : Reach ls i j) (hj' : Reach ls i' j) : i = i' := by
  obtain ⟨a1, a2⟩ := mem_heads.1 h
  obtain ⟨b1, b2⟩ := mem_heads.1 h'
  have := a2 i' (hj.trans (hj'.symm b1))
  have := b2 i (hj'.trans (hj.symm a1))
  omega
theorem heads_nodup : (heads ls).Nodup := List.nodup_range.filter _
theorem cells_apart {i i' : Nat} (h : i ∈ heads ls) (h' : i' ∈ heads ls) {x : Int} (hx : Cell ls i x) (hx' : Cell ls i' x) : i = i' := by
  obtain ⟨j, h1, h2⟩ := hx
  obtain ⟨j', h3, h4⟩ := hx'
  exact head_uniq h h' h1 (.step h3 (h1.lt (mem_heads.1 h).1) ⟨x, h4, h2⟩)
theorem flat_mem {j : Nat} : j ∈ (groupsC ls).flatten ↔ j < ls.length := by
  rw [List.mem_flatten]
  constructor
  · rintro ⟨g, hg, hj⟩
    obtain ⟨i, _, rfl⟩ := List.mem_map.1 hg
    exact (mem_comp.1 hj).1
  · intro hj
    obtain ⟨i, h1, h2⟩ := head_of j j (Nat.le_refl _) hj
    exact ⟨comp ls i, List.mem_map.2 ⟨i, h1, rfl⟩, mem_comp.2 ⟨hj, h2⟩⟩
theorem flat_nodup : (groupsC ls).flatten.Nodup := by
  unfold List.Nodup
  rw [List.pairwise_flatten]
  refine ⟨fun g hg => ?_, ?_⟩
  · obtain ⟨i, _, rfl⟩ := List.mem_map.1 hg
    exact comp_nodup i
  · unfold groupsC
    rw [List.pairwise_map]
    refine List.Pairwise.imp_of_mem (fun {i i'} hi hi' hne x hx y hy e => ?_) heads_nodup
    subst e
    exact hne (head_uniq hi hi' (mem_comp.1 hx).2 (mem_comp.1 hy).2)
theorem nodup_leN : ∀ {S V : List Nat}, S.Nodup → (∀ x ∈ S, x ∈ V) → S.length ≤ V.length
  | [], _, _, _ => by simp
  | x :: S, V, hn, h => by
    rw [List.nodup_cons] at hn
    have hx := h x (by simp)
    have := nodup_leN (S := S) (V := V.erase x) hn.2 (fun y hy => (List.mem_erase_of_ne (fun e => hn.1 (by rw [← e]; exact hy))).2 (h y (by simp [hy])))
    rw [List.length_erase_of_mem hx] at this
    have := List.length_pos_of_mem hx
    simp; omega
theorem flat_len : (groupsC ls).flatten.length = ls.length := by
  have h1 := nodup_leN (flat_nodup (ls := ls)) (V := List.range ls.length) (fun x hx => List.mem_range.2 (flat_mem.1 hx))
  have h2 := nodup_leN (List.nodup_range (n := ls.length)) (V := (groupsC ls).flatten) (fun x hx => flat_mem.2 (List.mem_range.1 hx))
  rw [List.length_range] at h1 h2
  omega
theorem heads_len : (groupsC ls).length ≤ ls.length := by
  unfold groupsC heads
  rw [List.length_map]
  exact Nat.le_trans (List.length_filter_le _ _) (by rw [List.length_range]; exact Nat.le_refl _)

structure Found (ls : List (List Int)) (i : Nat) (F : Nat → Prop) (todo : List Nat) : Prop where
  here : F i
  sound : ∀ j, F j → Reach ls i j ∧ j < ls.length
  sub : ∀ j ∈ todo, F j
  shut : ∀ j k, F j → j ∉ todo → k < ls.length → Adj ls j k → F k
theorem Found.all {i : Nat} {F : Nat → Prop} (h : Found ls i F []) : ∀ j, F j ↔ Reach ls i j := by
  intro j
  refine ⟨fun hj => (h.sound j hj).1, fun hj => ?_⟩
  induction hj with
  | refl => exact h.here
  | step h1 hk ha ih => exact h.shut _ _ ih (by simp) hk ha
end
end Go.Proofs.YtephjmmkggcmeaaQ.CK
