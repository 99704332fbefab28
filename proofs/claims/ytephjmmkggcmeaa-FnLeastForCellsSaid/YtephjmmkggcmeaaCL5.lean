import Derived.Test.YtephjmmkggcmeaaCL1
import Derived.Test.YtephjmmkggcmeaaCL3
import Derived.Test.YtephjmmkggcmeaaCL4
import Derived.Test.YtephjmmkggcmeaaCL0
import Derived.Lib.Bytes
-- printed by a program of this session (wip/gp) out of the translation; Lean checks it
namespace Go.Proofs.Ytephjmmkggcmeaa.PL
open Go.RowKit Go.Proofs.YtephjmmkggcmeaaW.PrintWords Go.Proofs.YtephjmmkggcmeaaW.PrintLast Go.Proofs.YtephjmmkggcmeaaW.PrintMore Go.Proofs.YtephjmmkggcmeaaSq
attribute [local go_sem] max2_int min2_int max_two min_two max_three min_three max_four min_four   -- for this text's walks alone
attribute [local go_sem] Go.Proofs.YtephjmmkggcmeaaGp.str_geq Go.Proofs.YtephjmmkggcmeaaGp.str_gtr Go.Proofs.YtephjmmkggcmeaaGp.str_leq
set_option linter.unusedVariables false
set_option linter.unusedSimpArgs false

set_option maxHeartbeats 8000000
set_option maxRecDepth 100000
mutual
def impl_PlaceKeys.j0 : Nat → List (List Int) → Bool → Option (List Int × Bool)
 | 0, _, _ => none
 | k + 1, x8, x28 => if x28 = true then (some (([] : List Int), false)) else (impl_PlaceKeys.l0 k x8 (([] : List Int)) (x8.length : Int) 0)
def impl_PlaceKeys.l0 : Nat → List (List Int) → List Int → Int → Int → Option (List Int × Bool)
 | 0, _, _, _, _ => none
 | k + 1, x8, x10, x31, x32 => if x32 < x31 then (if 0 ≤ x32 then (if x32 < (x8.length : Int) then (if 0 < ((rd_L3 x8 x32).length : Int) then (if 1 < ((rd_L3 x8 x32).length : Int) then ((some (x8.set (x32 : Int).toNat (([mn (rd (rd_L3 x8 x32) 0) (rd (rd_L3 x8 x32) 1), mn (rd (rd_L3 x8 x32) 0) (rd (rd_L3 x8 x32) 1)] : List Int)) : List (List Int))).bind fun y532 => ((impl_placed.f k y532).bind fun t533 => (if t533 = true then (if 0 < ((rd_L3 y532 x32).length : Int) then (if x10.length < 17592186044416 then (impl_PlaceKeys.l0 k y532 (x10 ++ [rd (rd_L3 y532 x32) 0]) x31 (wrap64 (x32 + 1))) else (none)) else (none)) else ((some (y532.set (x32 : Int).toNat (([mx (rd (rd_L3 x8 x32) 0) (rd (rd_L3 x8 x32) 1), mx (rd (rd_L3 x8 x32) 0) (rd (rd_L3 x8 x32) 1)] : List Int)) : List (List Int))).bind fun y542 => (if 0 < ((rd_L3 y542 x32).length : Int) then (if x10.length < 17592186044416 then (impl_PlaceKeys.l0 k y542 (x10 ++ [rd (rd_L3 y542 x32) 0]) x31 (wrap64 (x32 + 1))) else (none)) else (none)))))) else (none)) else (none)) else (none)) else (none)) else (some (x10, true))
end
def impl_PlaceKeys.f (k : Nat) (a0 : Int) (l1 : List ByteArray) (a2 : Int) : Option (List Int × Bool) := (impl_pairs.f k a0 l1 a2).bind fun bt516 => (if bt516.2 = true then ((impl_placed.f k bt516.1).bind fun t520 => (impl_PlaceKeys.j0 k bt516.1 (!t520))) else (impl_PlaceKeys.j0 k bt516.1 true))
theorem impl_PlaceKeys.calls (k : Nat) (a0 : Int) (A1 : Option Addr) (c1 : Nat) (l1 : List ByteArray) (a2 : Int) (r1 : List Int) (r2 : Bool) (w : World) (hr1 : Kd.C Kd.string w A1 l1.length l1) (hc1 : l1.length ≤ c1) (h : impl_PlaceKeys.f k a0 l1 a2 = some (r1, r2)) :
  Calls Try.prog 22 #[.int .i64 a0, .slice A1 l1.length c1, .int .i64 a2] w fun e w' => ∃ v0_ : Value, e = .returned (.tuple #[v0_, .bool r2]) ∧ Kd.R (Kd.int .i64) 3 w' w.heap.size (fun _ => True) v0_ r1 ∧ Below w.heap.size w w' := by
 have HR1 := am hr1; have HC1 := am hc1; clear hr1 hc1; have HB := am (Below.refl w.heap.size w); have H : ((impl_pairs.f k a0 l1 a2).bind fun bt516 => (if bt516.2 = true then ((impl_placed.f k bt516.1).bind fun t520 => (impl_PlaceKeys.j0 k bt516.1 (!t520))) else (impl_PlaceKeys.j0 k bt516.1 true))) = some (r1, r2) := h; clear h; replace H := Option.bind_eq_some_iff.mp H; obtain ⟨⟨t516, t517⟩, A40, H⟩ := H; (try dsimp -simprocs only at H); have A4 := am A40; clear A40; have HC5 := am H; clear H
 go_enter Try.func22, Try.ntmps22
 go_upto_region 2 with (first | (go_at_call 60; (with_reducible refine (impl_pairs.calls k a0 _ _ l1 a2 t516 t517 _ ?side1 ?side2 A4.out).mono ?_); (case side1 => exact Cz HR1.out); (case side2 => exact HC1.out); rintro e w6 ⟨v518, rfl, ho0, hb⟩; have n0_ := am (Kd.S_lower ho0 (below_size (Bz HB.out))); have n1_ := Bb HB hb; clear HB; revert n0_ n1_; intro HO519 HB; (try clear hb); (try clear hb2); (try clear hk); (try clear hi); (try clear ho0)))
 repeat (go_quiet (first | (go_at_call 60; (with_reducible refine (impl_pairs.calls k a0 _ _ l1 a2 t516 t517 _ ?side1 ?side2 A4.out).mono ?_); (case side1 => exact Cz HR1.out); (case side2 => exact HC1.out); rintro e w6 ⟨v518, rfl, ho0, hb⟩; have n0_ := am (Kd.S_lower ho0 (below_size (Bz HB.out))); have n1_ := Bb HB hb; clear HB; revert n0_ n1_; intro HO519 HB; (try clear hb); (try clear hb2); (try clear hk); (try clear hi); (try clear ho0))); go_upto_region 2 with (first | (go_at_call 60; (with_reducible refine (impl_pairs.calls k a0 _ _ l1 a2 t516 t517 _ ?side1 ?side2 A4.out).mono ?_); (case side1 => exact Cz HR1.out); (case side2 => exact HC1.out); rintro e w6 ⟨v518, rfl, ho0, hb⟩; have n0_ := am (Kd.S_lower ho0 (below_size (Bz HB.out))); have n1_ := Bb HB hb; clear HB; revert n0_ n1_; intro HO519 HB; (try clear hb); (try clear hb2); (try clear hk); (try clear hi); (try clear ho0))))
 (try simp only [aP])
 go_cut [28] (fun v28 wc => ∃ (kq : Nat) (x28_4 : Bool), v28 = .bool x28_4 ∧ Aside0 (impl_PlaceKeys.j0 kq t516 x28_4 = some (r1, r2)) ∧ Aside0 (kq ≤ k) ∧ Aside0 (Kd.S (Kd.slice 3 (Kd.int .i64)) 31 wc w.heap.size (fun _ => True) v518 t516) ∧ Aside0 (Below w.heap.size w wc))
 case first =>
  have H := HC5.out; clear HC5
  by_cases c7 : t517 = true
  ·subst c7
   rw [if_pos rfl] at H; replace H := Option.bind_eq_some_iff.mp H; obtain ⟨t520, A80, H⟩ := H; (try dsimp -simprocs only at H); have A8 := am A80; clear A80; have H' := am H; clear H; obtain ⟨Ao9, co9, eo9⟩ := Kd.S_slice HO519.out; subst eo9
   go_wp2_with (first | (go_at_call 75; (with_reducible refine (impl_placed.calls k _ _ t516 t520 _ ?side1 ?side2 A8.out).mono ?_); (case side1 => exact Cz ((Kd.S_reads' HO519.out).2.2)); (case side2 => exact (Kd.S_reads' HO519.out).2.1); rintro e w10 ⟨rfl, hb⟩; have n0_ := am (Kd.S_below (by (with_reducible repeat (first | apply Kd.S_alloc | apply Kd.S_drewN | apply Kd.S_drew)); exact HO519.out) hb); have n1_ := Bb HB hb; clear HO519 HB; revert n0_ n1_; intro HO519 HB; (try clear hb); (try clear hb2); (try clear hk); (try clear hi)))
   repeat (go_quiet (first | (go_at_call 75; (with_reducible refine (impl_placed.calls k _ _ t516 t520 _ ?side1 ?side2 A8.out).mono ?_); (case side1 => exact Cz ((Kd.S_reads' HO519.out).2.2)); (case side2 => exact (Kd.S_reads' HO519.out).2.1); rintro e w10 ⟨rfl, hb⟩; have n0_ := am (Kd.S_below (by (with_reducible repeat (first | apply Kd.S_alloc | apply Kd.S_drewN | apply Kd.S_drew)); exact HO519.out) hb); have n1_ := Bb HB hb; clear HO519 HB; revert n0_ n1_; intro HO519 HB; (try clear hb); (try clear hb2); (try clear hk); (try clear hi))); try go_wp2_with (first | (go_at_call 75; (with_reducible refine (impl_placed.calls k _ _ t516 t520 _ ?side1 ?side2 A8.out).mono ?_); (case side1 => exact Cz ((Kd.S_reads' HO519.out).2.2)); (case side2 => exact (Kd.S_reads' HO519.out).2.1); rintro e w10 ⟨rfl, hb⟩; have n0_ := am (Kd.S_below (by (with_reducible repeat (first | apply Kd.S_alloc | apply Kd.S_drewN | apply Kd.S_drew)); exact HO519.out) hb); have n1_ := Bb HB hb; clear HO519 HB; revert n0_ n1_; intro HO519 HB; (try clear hb); (try clear hb2); (try clear hk); (try clear hi))))
   go_meet
   case rel => exact ⟨_, (!t520), wZ, H', ⟨by first | omega | exact Nat.le_refl _⟩, ⟨by (with_reducible repeat (first | apply Kd.S_alloc | apply Kd.S_drewN | apply Kd.S_drew)); exact HO519.out⟩, ⟨Bz HB.out⟩⟩
  ·replace c7 := Bool.eq_false_iff.mpr c7
   subst c7
   rw [if_neg (show ¬ (false = true) by decide)] at H; have H' := am H; clear H
   go_wp2
   repeat (go_quiet (fail); try go_wp2)
   go_meet
   case rel => exact ⟨_, (true), wZ, H', ⟨by first | omega | exact Nat.le_refl _⟩, ⟨by (with_reducible repeat (first | apply Kd.S_alloc | apply Kd.S_drewN | apply Kd.S_drew)); exact HO519.out⟩, ⟨Bz HB.out⟩⟩
 case rest =>
  clear HC5
  try clear c1
  try clear c2
  try clear p2
  try clear c7
  obtain ⟨kq, x28_4, rfl, HA, HJ4, HO_8, HB⟩ := hcut; cases kq with
  | zero => exact absurd HA.out (by simp [impl_PlaceKeys.j0])
  | succ kj4 =>
   have H := HA.out; clear HA
   simp only [impl_PlaceKeys.j0] at H
   by_cases c11 : x28_4 = true
   ·subst c11
    rw [if_pos rfl] at H
    simp only [Option.some.injEq, Prod.mk.injEq] at H
    obtain ⟨rfl, rfl⟩ := H
    go_wp2
    repeat (go_quiet (fail); try go_wp2)
    go_ret2
    exact ⟨_, eZ, nZ, Bz HB.out⟩
   ·replace c11 := Bool.eq_false_iff.mpr c11
    subst c11
    rw [if_neg (show ¬ (false = true) by decide)] at H; obtain ⟨y521, hy521⟩ : ∃ y_ : List Int, y_ = (([] : List Int)) := ⟨_, rfl⟩
    replace H : (impl_PlaceKeys.l0 kj4 t516 y521 (t516.length : Int) 0) = some (r1, r2) := by first | (rw [hy521]; with_reducible exact H) | (have H2_ := (Option.bind_some _ _).symm.trans H; rw [hy521]; with_reducible exact H2_) | (have H2_ := (Option.bind_some _ _).symm.trans H; with_reducible exact H2_) | with_reducible exact H | (rw [hy521]; exact H) | exact H
    have Ny521 := am hy521; clear hy521; have H' := am H; clear H
    go_wp2_with (first | ((with_reducible refine gate_dst (N := 29) rfl ?_); refine Kd.R_lit (Kd.int .i64) _ 3 ?hg (N := 29) ?hd (xs := ([] : List Int)) (inner := []) (ok := fun _ => True) (okp := fun _ => True) ?hr ?hp (fun _ hk => hk) trivial (Below.refl _ _) (Nat.le_refl _) (by simp) ?_; (case hd => rfl); (case hg => rfl); (case hr => first | (go_simp; done) | (go_simp; rfl)); (case hp => exact (Reps.none _ _)); intro v522 w12 ho13 hb hg_ hnew_; clear hg_ hnew_; (first | rw [← Ny521.out] at ho13 | (simp only [Int.reduceToNat] at ho13; rw [← Ny521.out] at ho13)); have n0_ := am (Kd.S_elder' (by (with_reducible repeat (first | apply Kd.S_alloc | apply Kd.S_drewN | apply Kd.S_drew)); exact HO_8.out) (Kd.R_base ho13) hb); have n1_ := Rl ho13 HB; have n2_ := Bb HB hb; clear HO_8 HB; revert n0_ n1_ n2_; intro HO_8 HO523 HB; clear hb ho13; obtain ⟨Ao14, co14, eo14⟩ := Kd.S_slice HO_8.out; subst eo14))
    repeat (go_quiet (first | ((with_reducible refine gate_dst (N := 29) rfl ?_); refine Kd.R_lit (Kd.int .i64) _ 3 ?hg (N := 29) ?hd (xs := ([] : List Int)) (inner := []) (ok := fun _ => True) (okp := fun _ => True) ?hr ?hp (fun _ hk => hk) trivial (Below.refl _ _) (Nat.le_refl _) (by simp) ?_; (case hd => rfl); (case hg => rfl); (case hr => first | (go_simp; done) | (go_simp; rfl)); (case hp => exact (Reps.none _ _)); intro v522 w12 ho13 hb hg_ hnew_; clear hg_ hnew_; (first | rw [← Ny521.out] at ho13 | (simp only [Int.reduceToNat] at ho13; rw [← Ny521.out] at ho13)); have n0_ := am (Kd.S_elder' (by (with_reducible repeat (first | apply Kd.S_alloc | apply Kd.S_drewN | apply Kd.S_drew)); exact HO_8.out) (Kd.R_base ho13) hb); have n1_ := Rl ho13 HB; have n2_ := Bb HB hb; clear HO_8 HB; revert n0_ n1_ n2_; intro HO_8 HO523 HB; clear hb ho13; obtain ⟨Ao14, co14, eo14⟩ := Kd.S_slice HO_8.out; subst eo14)); try go_wp2_with (first | ((with_reducible refine gate_dst (N := 29) rfl ?_); refine Kd.R_lit (Kd.int .i64) _ 3 ?hg (N := 29) ?hd (xs := ([] : List Int)) (inner := []) (ok := fun _ => True) (okp := fun _ => True) ?hr ?hp (fun _ hk => hk) trivial (Below.refl _ _) (Nat.le_refl _) (by simp) ?_; (case hd => rfl); (case hg => rfl); (case hr => first | (go_simp; done) | (go_simp; rfl)); (case hp => exact (Reps.none _ _)); intro v522 w12 ho13 hb hg_ hnew_; clear hg_ hnew_; (first | rw [← Ny521.out] at ho13 | (simp only [Int.reduceToNat] at ho13; rw [← Ny521.out] at ho13)); have n0_ := am (Kd.S_elder' (by (with_reducible repeat (first | apply Kd.S_alloc | apply Kd.S_drewN | apply Kd.S_drew)); exact HO_8.out) (Kd.R_base ho13) hb); have n1_ := Rl ho13 HB; have n2_ := Bb HB hb; clear HO_8 HB; revert n0_ n1_ n2_; intro HO_8 HO523 HB; clear hb ho13; obtain ⟨Ao14, co14, eo14⟩ := Kd.S_slice HO_8.out; subst eo14)))
    (try simp only [aP])
    go_loopg [10, 32] kj4 (fun kq v10 v32 w' => ∃ (x8_2 : List (List Int)) (x10_2 : List Int) (x32_2 : Int), v32 = .int .i64 x32_2 ∧ Aside0 (impl_PlaceKeys.l0 kq x8_2 x10_2 (t516.length : Int) x32_2 = some (r1, r2)) ∧ Aside0 (kq ≤ kj4) ∧ Aside0 (Kd.S (Kd.slice 3 (Kd.int .i64)) 31 w' w.heap.size (fun k_ => some k_ ≠ (v10 : Value).ownBlock) (.slice Ao14 t516.length co14) x8_2) ∧ Aside0 (Kd.R (Kd.int .i64) 3 w' w.heap.size (fun _ => True) v10 x10_2) ∧ Aside0 (Below w.heap.size w w'))
    case atStart => exact ⟨(t516), (y521), (0), wZ, H', ⟨Nat.le_refl _⟩, ⟨by (with_reducible repeat (first | apply Kd.S_alloc | apply Kd.S_drewN | apply Kd.S_drew)); exact Kd.S_mono HO_8.out (fun _ hk => hk.2)⟩, ⟨Rz HO523.out⟩, ⟨Bz HB.out⟩⟩
    case round =>
     clear H'
     try clear c1
     try clear c2
     try clear p2
     try clear c7
     try clear c11
     try clear p2
     obtain ⟨x8_2, x10_2, x32_2, rfl, HA, HK2, HO_8, HO_10, HB⟩ := hrel; have hl8_2 := (Kd.S_reads' HO_8.out).1; rw [hl8_2] at HO_8
     (try simp only [hl8_2])
     (try simp only [hl8_2] at HO_10)
     cases gk with
     | zero => exact absurd HA.out (by simp [impl_PlaceKeys.l0])
     | succ k2 =>
      have H := HA.out; clear HA
      simp only [impl_PlaceKeys.l0] at H
      by_cases c15 : x32_2 < (t516.length : Int)
      ·rw [if_pos c15] at H
       have c15b0 : decide (x32_2 < (t516.length : Int)) = true := decide_eq_true c15; (try simp only [hl8_2] at c15b0); clear c15
       by_cases c16 : 0 ≤ x32_2
       ·rw [if_pos c16] at H
        have c16b0 : decide (0 ≤ x32_2) = true := decide_eq_true c16; clear c16
        by_cases c17 : x32_2 < (x8_2.length : Int)
        ·rw [if_pos c17] at H
         have c17b0 : decide (x32_2 < (x8_2.length : Int)) = true := decide_eq_true c17; (try simp only [hl8_2] at c17b0); clear c17
         by_cases c18 : 0 < ((rd_L3 x8_2 x32_2).length : Int)
         ·rw [if_pos c18] at H
          have c18b0 : decide (0 < ((rd_L3 x8_2 x32_2).length : Int)) = true := decide_eq_true c18; (try simp only [hl8_2] at c18b0); have c18b1 : decide (0 < (rd_L3 x8_2 x32_2).length) = true := decide_eq_true (by omega); clear c18
          by_cases c19 : 1 < ((rd_L3 x8_2 x32_2).length : Int)
          ·rw [if_pos c19] at H
           have c19b0 : decide (1 < ((rd_L3 x8_2 x32_2).length : Int)) = true := decide_eq_true c19; (try simp only [hl8_2] at c19b0); have c19b1 : decide (1 < (rd_L3 x8_2 x32_2).length) = true := decide_eq_true (by omega); clear c19; obtain ⟨ji20, hji20⟩ : ∃ j_ : Int, (mn (rd (rd_L3 x8_2 x32_2) 0) (rd (rd_L3 x8_2 x32_2) 1)) = j_ := ⟨_, rfl⟩
           replace H : ((some (x8_2.set (x32_2 : Int).toNat (([ji20, ji20] : List Int)) : List (List Int))).bind fun y532 => ((impl_placed.f k2 y532).bind fun t533 => (if t533 = true then (if 0 < ((rd_L3 y532 x32_2).length : Int) then (if x10_2.length < 17592186044416 then (impl_PlaceKeys.l0 k2 y532 (x10_2 ++ [rd (rd_L3 y532 x32_2) 0]) (t516.length : Int) (wrap64 (x32_2 + 1))) else (none)) else (none)) else ((some (y532.set (x32_2 : Int).toNat (([mx (rd (rd_L3 x8_2 x32_2) 0) (rd (rd_L3 x8_2 x32_2) 1), mx (rd (rd_L3 x8_2 x32_2) 0) (rd (rd_L3 x8_2 x32_2) 1)] : List Int)) : List (List Int))).bind fun y542 => (if 0 < ((rd_L3 y542 x32_2).length : Int) then (if x10_2.length < 17592186044416 then (impl_PlaceKeys.l0 k2 y542 (x10_2 ++ [rd (rd_L3 y542 x32_2) 0]) (t516.length : Int) (wrap64 (x32_2 + 1))) else (none)) else (none)))))) = some (r1, r2) := by first | (rw [hji20] at H; exact H) | (simp only [hji20] at H ⊢; exact H)
           have hji20_ : (if (rd (rd_L3 x8_2 x32_2) 1) < (rd (rd_L3 x8_2 x32_2) 0) then (rd (rd_L3 x8_2 x32_2) 1) else (rd (rd_L3 x8_2 x32_2) 0)) = ji20 := hji20; obtain ⟨ji21, hji21⟩ : ∃ j_ : Int, (mx (rd (rd_L3 x8_2 x32_2) 0) (rd (rd_L3 x8_2 x32_2) 1)) = j_ := ⟨_, rfl⟩
           replace H : ((some (x8_2.set (x32_2 : Int).toNat (([ji20, ji20] : List Int)) : List (List Int))).bind fun y532 => ((impl_placed.f k2 y532).bind fun t533 => (if t533 = true then (if 0 < ((rd_L3 y532 x32_2).length : Int) then (if x10_2.length < 17592186044416 then (impl_PlaceKeys.l0 k2 y532 (x10_2 ++ [rd (rd_L3 y532 x32_2) 0]) (t516.length : Int) (wrap64 (x32_2 + 1))) else (none)) else (none)) else ((some (y532.set (x32_2 : Int).toNat (([ji21, ji21] : List Int)) : List (List Int))).bind fun y542 => (if 0 < ((rd_L3 y542 x32_2).length : Int) then (if x10_2.length < 17592186044416 then (impl_PlaceKeys.l0 k2 y542 (x10_2 ++ [rd (rd_L3 y542 x32_2) 0]) (t516.length : Int) (wrap64 (x32_2 + 1))) else (none)) else (none)))))) = some (r1, r2) := by first | (rw [hji21] at H; exact H) | (simp only [hji21] at H ⊢; exact H)
           have hji21_ : (if (rd (rd_L3 x8_2 x32_2) 0) < (rd (rd_L3 x8_2 x32_2) 1) then (rd (rd_L3 x8_2 x32_2) 1) else (rd (rd_L3 x8_2 x32_2) 0)) = ji21 := hji21; obtain ⟨y529, hy529⟩ : ∃ y_ : List Int, y_ = (([ji20, ji20] : List Int)) := ⟨_, rfl⟩
           replace H : ((some (x8_2.set (x32_2 : Int).toNat y529 : List (List Int))).bind fun y532 => ((impl_placed.f k2 y532).bind fun t533 => (if t533 = true then (if 0 < ((rd_L3 y532 x32_2).length : Int) then (if x10_2.length < 17592186044416 then (impl_PlaceKeys.l0 k2 y532 (x10_2 ++ [rd (rd_L3 y532 x32_2) 0]) (t516.length : Int) (wrap64 (x32_2 + 1))) else (none)) else (none)) else ((some (y532.set (x32_2 : Int).toNat (([ji21, ji21] : List Int)) : List (List Int))).bind fun y542 => (if 0 < ((rd_L3 y542 x32_2).length : Int) then (if x10_2.length < 17592186044416 then (impl_PlaceKeys.l0 k2 y542 (x10_2 ++ [rd (rd_L3 y542 x32_2) 0]) (t516.length : Int) (wrap64 (x32_2 + 1))) else (none)) else (none)))))) = some (r1, r2) := by first | (rw [hy529]; with_reducible exact H) | (have H2_ := (Option.bind_some _ _).symm.trans H; rw [hy529]; with_reducible exact H2_) | (have H2_ := (Option.bind_some _ _).symm.trans H; with_reducible exact H2_) | with_reducible exact H | (rw [hy529]; exact H) | exact H
           have Ny529 := am hy529; clear hy529; obtain ⟨y532, hy532⟩ : ∃ y_ : List (List Int), y_ = (x8_2.set (x32_2 : Int).toNat y529) := ⟨_, rfl⟩
           replace H : ((impl_placed.f k2 y532).bind fun t533 => (if t533 = true then (if 0 < ((rd_L3 y532 x32_2).length : Int) then (if x10_2.length < 17592186044416 then (impl_PlaceKeys.l0 k2 y532 (x10_2 ++ [rd (rd_L3 y532 x32_2) 0]) (t516.length : Int) (wrap64 (x32_2 + 1))) else (none)) else (none)) else ((some (y532.set (x32_2 : Int).toNat (([ji21, ji21] : List Int)) : List (List Int))).bind fun y542 => (if 0 < ((rd_L3 y542 x32_2).length : Int) then (if x10_2.length < 17592186044416 then (impl_PlaceKeys.l0 k2 y542 (x10_2 ++ [rd (rd_L3 y542 x32_2) 0]) (t516.length : Int) (wrap64 (x32_2 + 1))) else (none)) else (none))))) = some (r1, r2) := by first | (rw [hy532]; with_reducible exact H) | (have H2_ := (Option.bind_some _ _).symm.trans H; rw [hy532]; with_reducible exact H2_) | (have H2_ := (Option.bind_some _ _).symm.trans H; with_reducible exact H2_) | with_reducible exact H | (rw [hy532]; exact H) | exact H
           have Ny532 := am hy532; clear hy532; replace H := Option.bind_eq_some_iff.mp H; obtain ⟨t533, A230, H⟩ := H; (try dsimp -simprocs only at H); have A23 := am A230; clear A230
           by_cases c24 : t533 = true
           ·subst c24
            rw [if_pos rfl] at H
            by_cases c25 : 0 < ((rd_L3 y532 x32_2).length : Int)
            ·rw [if_pos c25] at H
             have c25b0 : decide (0 < ((rd_L3 y532 x32_2).length : Int)) = true := decide_eq_true c25; (try simp only [hl8_2] at c25b0); have c25b1 : decide (0 < (rd_L3 y532 x32_2).length) = true := decide_eq_true (by omega); clear c25
             by_cases c26 : x10_2.length < 17592186044416
             ·rw [if_pos c26] at H
              have LMc26 := am c26; clear c26; obtain ⟨y536, hy536⟩ : ∃ y_ : List Int, y_ = (x10_2 ++ [rd (rd_L3 y532 x32_2) 0]) := ⟨_, rfl⟩
              replace H : (impl_PlaceKeys.l0 k2 y532 y536 (t516.length : Int) (wrap64 (x32_2 + 1))) = some (r1, r2) := by first | (rw [hy536]; with_reducible exact H) | (have H2_ := (Option.bind_some _ _).symm.trans H; rw [hy536]; with_reducible exact H2_) | (have H2_ := (Option.bind_some _ _).symm.trans H; with_reducible exact H2_) | with_reducible exact H | (rw [hy536]; exact H) | exact H
              have Ny536 := am hy536; clear hy536; have H' := am H; clear H; have p524 : 0 ≤ (x32_2 : Int) := dT; have q524 : x32_2 < (x8_2.length : Int) := dT; obtain ⟨ad524, A524_0, c524_0, e524, hx524_0, hl524_0, hi524_0⟩ := at_L3 (Kd.S_reads' HO_8.out).2.2 x32_2 p524 q524; cases e524; obtain ⟨ce524, hce524, hMe524, hcc524⟩ := Kd.S_get HO_8.out [] x32_2 p524 (by first | exact q524 | exact dT | (have e_ := (Kd.S_reads' HO_8.out).1; omega)); obtain ⟨ve524_0, rfl, ge524_0⟩ := hMe524; have hv524_0 := hcc524 0 _ rfl; rw [Nat.add_zero, show ((Kd.slice 3 (Kd.int .i64))).sz = 1 from rfl, Nat.mul_one] at hv524_0; replace hv524_0 := Option.some.inj (hv524_0.symm.trans hx524_0); rw [hv524_0] at ge524_0; have HL524_0 := am (show Kd.R (Kd.int .i64) 3 _ _ _ _ (rd_L3 x8_2 x32_2) from ge524_0); clear hv524_0 ge524_0; clear hcc524 hce524; have HR524_0 := am hi524_0; have HC524_0 := am hl524_0; clear hi524_0 hl524_0; replace p524 := eq_true p524; replace q524 := eq_true q524; have p525 : 0 ≤ (0 : Int) := (by omega); have q525 : 0 < ((rd_L3 x8_2 x32_2).length : Int) := dT; obtain ⟨ad525, e525, hx525_0⟩ := Kd.at_int (by repeat (first | (with_reducible exact HR524_0.out) | (with_reducible refine Kd.C_alloc ?_ _) | (with_reducible refine Kd.C_drewN ?_ _) | (with_reducible refine Kd.C_drew ?_) | exact HR524_0.out)) 0 p525 q525; cases e525; have qi525 : (0 < (rd_L3 x8_2 x32_2).length) = True := eq_true (by omega)
              (try rw [show ((0 : Int)).toNat = 0 from rfl] at hx525_0)
              (try rw [Addr.add_zero'] at hx525_0)
              replace p525 := eq_true p525; replace q525 := eq_true q525; have p526 : 0 ≤ (1 : Int) := (by omega); have q526 : 1 < ((rd_L3 x8_2 x32_2).length : Int) := dT; obtain ⟨ad526, e526, hx526_0⟩ := Kd.at_int (by repeat (first | (with_reducible exact HR524_0.out) | (with_reducible refine Kd.C_alloc ?_ _) | (with_reducible refine Kd.C_drewN ?_ _) | (with_reducible refine Kd.C_drew ?_) | exact HR524_0.out)) 1 p526 q526; obtain rfl : ad525 = ad526 := (by injection e526)
              (try simp only [show (1 : Int).toNat = 1 from rfl, Nat.reduceMul, Nat.reduceEqDiff, Go.Addr.add, ↓reduceIte] at hx526_0)
              have qi526 : (1 < (rd_L3 x8_2 x32_2).length) = True := eq_true (by omega)
              (try rw [show ((1 : Int)).toNat = 1 from rfl] at hx526_0)
              replace p526 := eq_true p526; replace q526 := eq_true q526; have p527 : 0 ≤ (0 : Int) := (by omega); have q527 : 0 < ((rd_L3 x8_2 x32_2).length : Int) := dT; obtain ⟨ad527, e527, hx527_0⟩ := Kd.at_int (by repeat (first | (with_reducible exact HR524_0.out) | (with_reducible refine Kd.C_alloc ?_ _) | (with_reducible refine Kd.C_drewN ?_ _) | (with_reducible refine Kd.C_drew ?_) | exact HR524_0.out)) 0 p527 q527; obtain rfl : ad525 = ad527 := (by injection e527); have qi527 : (0 < (rd_L3 x8_2 x32_2).length) = True := eq_true (by omega)
              (try rw [show ((0 : Int)).toNat = 0 from rfl] at hx527_0)
              (try rw [Addr.add_zero'] at hx527_0)
              replace p527 := eq_true p527; replace q527 := eq_true q527; have p528 : 0 ≤ (1 : Int) := (by omega); have q528 : 1 < ((rd_L3 x8_2 x32_2).length : Int) := dT; obtain ⟨ad528, e528, hx528_0⟩ := Kd.at_int (by repeat (first | (with_reducible exact HR524_0.out) | (with_reducible refine Kd.C_alloc ?_ _) | (with_reducible refine Kd.C_drewN ?_ _) | (with_reducible refine Kd.C_drew ?_) | exact HR524_0.out)) 1 p528 q528; obtain rfl : ad525 = ad528 := (by injection e528)
              (try simp only [show (1 : Int).toNat = 1 from rfl, Nat.reduceMul, Nat.reduceEqDiff, Go.Addr.add, ↓reduceIte] at hx528_0)
              have qi528 : (1 < (rd_L3 x8_2 x32_2).length) = True := eq_true (by omega)
              (try rw [show ((1 : Int)).toNat = 1 from rfl] at hx528_0)
              replace p528 := eq_true p528; replace q528 := eq_true q528
              go_wp2_with (first | ((with_reducible refine gate_dst (N := 55) rfl ?_); refine Kd.R_lit (Kd.int .i64) _ 3 ?hg (N := 55) ?hd (xs := ([ji20, ji20] : List Int)) (inner := [.int .i64 ji20, .int .i64 ji20]) (ok := fun _ => True) (okp := fun _ => True) ?hr ?hp (fun _ hk => hk) trivial (Below.refl _ _) (Nat.le_refl _) (by simp) ?_; (case hd => rfl); (case hg => rfl); (case hr => first | (go_simp; done) | (go_simp; rfl)); (case hp => exact (Reps.one (show Kd.M (Kd.int .i64) _ _ _ ji20 [.int .i64 ji20] from rfl) (Reps.one (show Kd.M (Kd.int .i64) _ _ _ ji20 [.int .i64 ji20] from rfl) (Reps.none _ _)))); intro v530 w27 ho28 hb hg_ hnew_; clear hg_ hnew_; (first | rw [← Ny529.out] at ho28 | (simp only [Int.reduceToNat] at ho28; rw [← Ny529.out] at ho28)); have n0_ := am (Kd.S_elder' (by (with_reducible repeat (first | apply Kd.S_alloc | apply Kd.S_drewN | apply Kd.S_drew)); exact HO_8.out) (Kd.R_base ho28) hb); have n1_ := Re HO_10 (Kd.R_base ho28) hb; have n2_ := Re HL524_0 (Kd.R_base ho28) hb; have n3_ := Rl (Kd.R_new' (Kd.R_new' ho28 (Kd.R_lt (Rz HO_10.out))) (Kd.R_lt (Rz HL524_0.out))) HB; have n4_ := am (Kd.C_below (by repeat (first | (with_reducible exact HR524_0.out) | (with_reducible refine Kd.C_alloc ?_ _) | (with_reducible refine Kd.C_drewN ?_ _) | (with_reducible refine Kd.C_drew ?_) | exact HR524_0.out)) hb); have n5_ := Bb HB hb; clear HO_8 HO_10 HL524_0 HR524_0 HB; revert n0_ n1_ n2_ n3_ n4_ n5_; intro HO_8 HO_10 HL524_0 HO531 HR524_0 HB; clear hb ho28; obtain ⟨Ao9530, co9530, eo9530⟩ := Kd.R_slice HO531.out; subst eo9530; have p22 : 0 ≤ (x32_2 : Int) := dT; have q22 : (x32_2 : Int) < ((x8_2.length : Int) : Int) := dT; obtain ⟨go22, co22, eo22, gb22, gl22, cl22, HG22⟩ := Kd.S_form HO_8.out (by omega); (first | cases eo22 | (injection eo22 with ea_ en_ ec_; (first | subst ea_ | (injection ea_ with ea_; subst ea_)); subst ec_; clear en_)); have GB22 := am gb22; have GG22 := am HG22; clear gb22 gl22 HG22; (first | simp only [add_plain] at hx524_0 | skip); obtain ⟨_, ce22, hcl22, hM22, hcc22, hfr22, _, _⟩ := Kd.S_elem HO_8.out [] (x32_2 : Int) p22 q22; obtain ⟨ve22_0, rfl, ge22_0⟩ := hM22; have hx22_0 := hcc22 0 _ rfl; have hf22_0 := hfr22 0; (try simp only [show ((Kd.slice 3 (Kd.int .i64))).sz = 1 from rfl, Nat.mul_one, Nat.add_zero] at hx22_0); (try simp only [show ((Kd.slice 3 (Kd.int .i64))).sz = 1 from rfl, Nat.mul_one, Nat.add_zero] at hf22_0); clear hcl22 hcc22 hfr22; (try clear hM22); replace p22 := eq_true p22; replace q22 := eq_true q22; have HX29 := am (show Kd.S (Kd.slice 3 (Kd.int .i64)) 31 w27 w.heap.size (fun k_ => ((fun k_ => some k_ ≠ (u10 : Value).ownBlock)) k_ ∧ ¬ ((fun k_ => some k_ = ((.slice Ao9530 y529.length co9530) : Value).ownBlock)) k_) (.slice (some ⟨go22, 0, none⟩) x8_2.length co14) x8_2 from (by (with_reducible repeat (first | apply Kd.S_alloc | apply Kd.S_drewN | apply Kd.S_drew)); exact Kd.S_mono HO_8.out (fun k_ hk => ⟨hk.1, fun e_ => hk.2 e_⟩))); obtain ⟨oki29, ce29, hcl29, hM29, hcc29, hfr29, hoki29, hH29⟩ := Kd.S_elem HX29.out [] (x32_2 : Int) (dT) (by have h_ : (x32_2 : Int) < ((x8_2.length : Int) : Int) := dT; first | exact h_ | (have e_ := (Kd.S_reads' HO_8.out).1; omega) | simpa using h_); obtain ⟨ve29_0, rfl, ge29_0⟩ := hM29; have HP29 := Kd.S_seg hH29 (dT) (by have h_ : (x32_2 : Int) < ((x8_2.length : Int) : Int) := dT; first | exact h_ | (have e_ := (Kd.S_reads' HO_8.out).1; omega) | simpa using h_) (seg := [(.slice Ao9530 y529.length co9530)]) (j := 0) (show 1 ≤ 1 from by decide) (x' := y529) (Kd.M_row (Kd.R_mono (Kd.R_tight rfl (Kd.R_mono (ok' := fun k_ => ((fun k_ => some k_ ≠ (u10 : Value).ownBlock)) k_ ∧ k_ ≠ go22) (Kd.R_apart' (HO531.out) (Kd.S_typed HO_8.out) (by decide)) (fun k_ hk => ⟨hk.1.1.2, fun e_ => (hk.2) (by rw [e_]; rfl)⟩))) (fun _ h_ => Or.inr (h_)))) (fun _ hk => hk) (fun k_ hk_ => ((Kd.R_mono (ok' := fun k_ => ((fun k_ => some k_ ≠ (u10 : Value).ownBlock)) k_ ∧ k_ ≠ go22) (Kd.R_apart' (HO531.out) (Kd.S_typed HO_8.out) (by decide)) (fun k_ hk => ⟨hk.1.1.2, fun e_ => (hk.2) (by rw [e_]; rfl)⟩))).1 k_ hk_.symm); have hx29_0 := hcc29 0 _ rfl; (try simp only [show ((Kd.slice 3 (Kd.int .i64))).sz = 1 from rfl, Nat.mul_one, Nat.add_zero] at hx29_0); have hf29_0 := hfr29 0; (try simp only [show ((Kd.slice 3 (Kd.int .i64))).sz = 1 from rfl, Nat.mul_one, Nat.add_zero] at hf29_0); clear hcl29 hcc29 hfr29 hoki29 hH29; (try clear hM29); (try simp only [show ((Kd.slice 3 (Kd.int .i64))).sz = 1 from rfl, Nat.mul_one, Nat.add_zero] at HP29)) | ((with_reducible refine gate_store (t := 31) (p := 56) rfl ?_); (try (rw [drewN_self w27]; generalize hq_ : World.drewN w27 _ = w27; have n0_ := am (Kd.S_at hq_ HO_8.out); have n1_ := am (Kd.R_at hq_ HO_10.out); have n2_ := am (Kd.R_at hq_ HL524_0.out); have n3_ := am (below_at hq_ HB.out); clear hq_ HO_8 HO_10 HL524_0 HB; revert n0_ n1_ n2_ n3_; intro HO_8 HO_10 HL524_0 HB; (try (have HX29 := am (show Kd.S (Kd.slice 3 (Kd.int .i64)) 31 w27 w.heap.size (fun k_ => ((fun k_ => some k_ ≠ (u10 : Value).ownBlock)) k_ ∧ ¬ ((fun k_ => some k_ = ((.slice Ao9530 y529.length co9530) : Value).ownBlock)) k_) (.slice (some ⟨go22, 0, none⟩) x8_2.length co14) x8_2 from (by (with_reducible repeat (first | apply Kd.S_alloc | apply Kd.S_drewN | apply Kd.S_drew)); exact Kd.S_mono HO_8.out (fun k_ hk => ⟨hk.1, fun e_ => hk.2 e_⟩))))); (try (obtain ⟨oki29, ce29, hcl29, hM29, hcc29, hfr29, hoki29, hH29⟩ := Kd.S_elem HX29.out [] (x32_2 : Int) (dT) (by have h_ : (x32_2 : Int) < ((x8_2.length : Int) : Int) := dT; first | exact h_ | (have e_ := (Kd.S_reads' HO_8.out).1; omega) | simpa using h_))); (try (obtain ⟨ve29_0, rfl, ge29_0⟩ := hM29)); (try (have HP29 := Kd.S_seg hH29 (dT) (by have h_ : (x32_2 : Int) < ((x8_2.length : Int) : Int) := dT; first | exact h_ | (have e_ := (Kd.S_reads' HO_8.out).1; omega) | simpa using h_) (seg := [(.slice Ao9530 y529.length co9530)]) (j := 0) (show 1 ≤ 1 from by decide) (x' := y529) (Kd.M_row (Kd.R_mono (Kd.R_tight rfl (Kd.R_mono (ok' := fun k_ => ((fun k_ => some k_ ≠ (u10 : Value).ownBlock)) k_ ∧ k_ ≠ go22) (Kd.R_apart' (HO531.out) (Kd.S_typed HO_8.out) (by decide)) (fun k_ hk => ⟨hk.1.1.2, fun e_ => (hk.2) (by rw [e_]; rfl)⟩))) (fun _ h_ => Or.inr (h_)))) (fun _ hk => hk) (fun k_ hk_ => ((Kd.R_mono (ok' := fun k_ => ((fun k_ => some k_ ≠ (u10 : Value).ownBlock)) k_ ∧ k_ ≠ go22) (Kd.R_apart' (HO531.out) (Kd.S_typed HO_8.out) (by decide)) (fun k_ hk => ⟨hk.1.1.2, fun e_ => (hk.2) (by rw [e_]; rfl)⟩))).1 k_ hk_.symm))); (try (have hx29_0 := hcc29 0 _ rfl)); (try (try simp only [show ((Kd.slice 3 (Kd.int .i64))).sz = 1 from rfl, Nat.mul_one, Nat.add_zero] at hx29_0)); (try (have hf29_0 := hfr29 0)); (try (try simp only [show ((Kd.slice 3 (Kd.int .i64))).sz = 1 from rfl, Nat.mul_one, Nat.add_zero] at hf29_0)); (try (clear hcl29 hcc29 hfr29 hoki29 hH29; (try clear hM29))); (try (try simp only [show ((Kd.slice 3 (Kd.int .i64))).sz = 1 from rfl, Nat.mul_one, Nat.add_zero] at HP29)))); refine store_event (t := 31) (p := 56) (v := ?vo_w30) (w1 := (w27.setCell ⟨go22, (x32_2 : Int).toNat, none⟩ ((.slice Ao9530 y529.length co9530)))) ?hg ?ho ?hn ?hr ?_; (case ho => rfl); (case hg => rfl); (case hn => rfl); (case hr => first | (go_simp; done) | (go_simp; rfl)); intro w30 hw; have hg : w27.grownBy w30 (some go22) := (by rw [hw]; exact HP29.2); have hp_ : Kd.S (Kd.slice 3 (Kd.int .i64)) 31 w30 w.heap.size (fun k_ => some k_ ≠ (u10 : Value).ownBlock) (.slice (some ⟨go22, 0, none⟩) x8_2.length co14) y532 := (by rw [hw, Ny532.out]; exact HP29.1); clear HP29; have n0_ := am (hp_); have n1_ := am (Kd.R_over' (v := (.slice (some ⟨go22, 0, none⟩) x8_2.length co14)) (Rz HO_10.out) (Kd.S_typed HO_8.out) (by decide) hg); have n2_ := am (Kd.R_after (v := (.slice (some ⟨go22, 0, none⟩) x8_2.length co14)) (v1 := (.slice (some ⟨go22, 0, none⟩) x8_2.length co14)) (ok := (fun k_ => some k_ ≠ (u10 : Value).ownBlock ∧ some k_ ≠ ((.slice Ao9530 y529.length co9530) : Value).ownBlock)) (Rz (Kd.R_mono HL524_0.out (fun _ hk => ⟨⟨hk.1.1, hk.2⟩, hk.1.2⟩))) hg (.inl rfl)); have n3_ := am ((by rw [hw]; exact below_set (HB.out) GB22.out : Below w.heap.size w w30)); clear HO_8 HO_10 HL524_0 HB HO531; revert n0_ n1_ n2_ n3_; intro HO_8 HO_10 HL524_0 HB; clear hg hw hp_) | (go_at_call 75; refine calls_of_args (args' := #[.slice (some ⟨go22, 0, none⟩) y532.length co14]) (by first | (rw [show y532.length = x8_2.length from (Kd.S_reads' HO_8.out).1.symm] <;> rfl) | rfl) ?_; (with_reducible refine (impl_placed.calls k2 _ _ y532 true _ ?side1 ?side2 A23.out).mono ?_); (case side1 => exact Cz ((Kd.S_reads' HO_8.out).2.2)); (case side2 => rw [show y532.length = x8_2.length from (Kd.S_reads' HO_8.out).1.symm]; exact (Kd.S_reads' HO_8.out).2.1); rintro e w31 ⟨rfl, hb⟩; have n0_ := am (Kd.S_below (by (with_reducible repeat (first | apply Kd.S_alloc | apply Kd.S_drewN | apply Kd.S_drew)); exact HO_8.out) hb); have n1_ := Rb HO_10 hb; have n2_ := Rb HL524_0 hb; have n3_ := Bb HB hb; clear HO_8 HO_10 HL524_0 HB; revert n0_ n1_ n2_ n3_; intro HO_8 HO_10 HL524_0 HB; (try clear hb); (try clear hb2); (try clear hk); (try clear hi); have p534 : 0 ≤ (x32_2 : Int) := dT; have q534 : x32_2 < (y532.length : Int) := (by have h_ : (x32_2 : Int) < ((x8_2.length : Int) : Int) := dT; first | (have e_ := (Kd.S_reads' HO_8.out).1; omega) | simpa only [Ny532.out, List.length_set] using h_); have ql534 : ((x32_2 : Int) < ((x8_2.length : Int) : Int)) = True := eq_true (dT); obtain ⟨ad534, A534_0, c534_0, e534, hx534_0, hl534_0, hi534_0⟩ := at_L3 (Kd.S_reads' HO_8.out).2.2 x32_2 p534 q534; obtain rfl : (⟨go22, 0, none⟩ : Addr) = ad534 := (by injection e534); obtain ⟨ce534, hce534, hMe534, hcc534⟩ := Kd.S_get HO_8.out [] x32_2 p534 (by first | exact q534 | exact dT | (have e_ := (Kd.S_reads' HO_8.out).1; omega)); obtain ⟨ve534_0, rfl, ge534_0⟩ := hMe534; have hv534_0 := hcc534 0 _ rfl; rw [Nat.add_zero, show ((Kd.slice 3 (Kd.int .i64))).sz = 1 from rfl, Nat.mul_one] at hv534_0; replace hv534_0 := Option.some.inj (hv534_0.symm.trans hx534_0); rw [hv534_0] at ge534_0; have HL534_0 := am (show Kd.R (Kd.int .i64) 3 _ _ _ _ (rd_L3 y532 x32_2) from ge534_0); clear hv534_0 ge534_0; clear hcc534 hce534; (first | simp only [add_plain] at hx534_0 | simp only [add_at] at hx534_0 | simp only [Addr.add, Nat.zero_add] at hx534_0 | skip); have HR534_0 := am hi534_0; have HC534_0 := am hl534_0; clear hi534_0 hl534_0; replace p534 := eq_true p534; replace q534 := eq_true q534; have p535 : 0 ≤ (0 : Int) := (by omega); have q535 : 0 < ((rd_L3 y532 x32_2).length : Int) := dT; obtain ⟨ad535, e535, hx535_0⟩ := Kd.at_int (by repeat (first | (with_reducible exact HR534_0.out) | (with_reducible refine Kd.C_alloc ?_ _) | (with_reducible refine Kd.C_drewN ?_ _) | (with_reducible refine Kd.C_drew ?_) | exact HR534_0.out)) 0 p535 q535; cases e535; have qi535 : (0 < (rd_L3 y532 x32_2).length) = True := eq_true (by omega); (try rw [show ((0 : Int)).toNat = 0 from rfl] at hx535_0); (try rw [Addr.add_zero'] at hx535_0); replace p535 := eq_true p535; replace q535 := eq_true q535) | ((with_reducible refine gate_builtin (b := .append) (xs := #[.tmp 66, .tmp 73]) rfl ?_); at_builtin; refine Kd.R_append (Kd.int .i64) (w0 := w) w.heap.size rfl (.tmp 66) (.tmp 73) 31 3 (.int .i64 0) 8 rfl Try.underlying31 info3 rfl (by decide) (by omega) u10 x10_2 (rd (rd_L3 y532 x32_2) 0) [.int .i64 (rd (rd_L3 y532 x32_2) 0)] (fun _ => True) (fun _ => False) rfl rfl ?aP (fun _ hk => hk.elim) ?aF ?aO ?aB ?aS ?aL ?_; (case aP => exact rfl); (case aB => exact (Bz HB.out)); (case aF => exact (fun _ _ => trivial)); (case aO => exact (Rz (Kd.R_mono HO_10.out (fun _ hk => trivial)))); (case aS => exact (below_size (Bz HB.out))); (case aL => have := LMc26.out; omega); intro v537 w32 ho hb hg hat; rw [← Ny536.out] at ho; have n0_ := am (Kd.S_after (ok := (fun _ => True)) (by (with_reducible repeat (first | apply Kd.S_alloc | apply Kd.S_drewN | apply Kd.S_drew)); exact Kd.S_mono HO_8.out (fun _ hk => ⟨trivial, hk⟩)) hg hat); have n1_ := am (Kd.R_after (ok := (fun k_ => some k_ ≠ (.slice (some ⟨go22, 0, none⟩) x8_2.length co14 : Value).ownBlock)) (Rz (Kd.R_mono HL524_0.out (fun _ hk => ⟨hk.2, hk.1.1⟩))) hg hat); have n2_ := am (Kd.R_after (ok := (fun k_ => some k_ ≠ (.slice (some ⟨go22, 0, none⟩) x8_2.length co14 : Value).ownBlock)) (Rz (Kd.R_mono HL534_0.out (fun _ hk => ⟨hk.2, hk.1⟩))) hg hat); have n3_ := am (hb); have n4_ := am (ho); clear HO_8 HL524_0 HL534_0 HB HO_10; revert n0_ n1_ n2_ n3_ n4_; intro HO_8 HL524_0 HL534_0 HB HO538; clear ho hb hg hat))
              repeat (go_quiet (first | ((with_reducible refine gate_dst (N := 55) rfl ?_); refine Kd.R_lit (Kd.int .i64) _ 3 ?hg (N := 55) ?hd (xs := ([ji20, ji20] : List Int)) (inner := [.int .i64 ji20, .int .i64 ji20]) (ok := fun _ => True) (okp := fun _ => True) ?hr ?hp (fun _ hk => hk) trivial (Below.refl _ _) (Nat.le_refl _) (by simp) ?_; (case hd => rfl); (case hg => rfl); (case hr => first | (go_simp; done) | (go_simp; rfl)); (case hp => exact (Reps.one (show Kd.M (Kd.int .i64) _ _ _ ji20 [.int .i64 ji20] from rfl) (Reps.one (show Kd.M (Kd.int .i64) _ _ _ ji20 [.int .i64 ji20] from rfl) (Reps.none _ _)))); intro v530 w27 ho28 hb hg_ hnew_; clear hg_ hnew_; (first | rw [← Ny529.out] at ho28 | (simp only [Int.reduceToNat] at ho28; rw [← Ny529.out] at ho28)); have n0_ := am (Kd.S_elder' (by (with_reducible repeat (first | apply Kd.S_alloc | apply Kd.S_drewN | apply Kd.S_drew)); exact HO_8.out) (Kd.R_base ho28) hb); have n1_ := Re HO_10 (Kd.R_base ho28) hb; have n2_ := Re HL524_0 (Kd.R_base ho28) hb; have n3_ := Rl (Kd.R_new' (Kd.R_new' ho28 (Kd.R_lt (Rz HO_10.out))) (Kd.R_lt (Rz HL524_0.out))) HB; have n4_ := am (Kd.C_below (by repeat (first | (with_reducible exact HR524_0.out) | (with_reducible refine Kd.C_alloc ?_ _) | (with_reducible refine Kd.C_drewN ?_ _) | (with_reducible refine Kd.C_drew ?_) | exact HR524_0.out)) hb); have n5_ := Bb HB hb; clear HO_8 HO_10 HL524_0 HR524_0 HB; revert n0_ n1_ n2_ n3_ n4_ n5_; intro HO_8 HO_10 HL524_0 HO531 HR524_0 HB; clear hb ho28; obtain ⟨Ao9530, co9530, eo9530⟩ := Kd.R_slice HO531.out; subst eo9530; have p22 : 0 ≤ (x32_2 : Int) := dT; have q22 : (x32_2 : Int) < ((x8_2.length : Int) : Int) := dT; obtain ⟨go22, co22, eo22, gb22, gl22, cl22, HG22⟩ := Kd.S_form HO_8.out (by omega); (first | cases eo22 | (injection eo22 with ea_ en_ ec_; (first | subst ea_ | (injection ea_ with ea_; subst ea_)); subst ec_; clear en_)); have GB22 := am gb22; have GG22 := am HG22; clear gb22 gl22 HG22; (first | simp only [add_plain] at hx524_0 | skip); obtain ⟨_, ce22, hcl22, hM22, hcc22, hfr22, _, _⟩ := Kd.S_elem HO_8.out [] (x32_2 : Int) p22 q22; obtain ⟨ve22_0, rfl, ge22_0⟩ := hM22; have hx22_0 := hcc22 0 _ rfl; have hf22_0 := hfr22 0; (try simp only [show ((Kd.slice 3 (Kd.int .i64))).sz = 1 from rfl, Nat.mul_one, Nat.add_zero] at hx22_0); (try simp only [show ((Kd.slice 3 (Kd.int .i64))).sz = 1 from rfl, Nat.mul_one, Nat.add_zero] at hf22_0); clear hcl22 hcc22 hfr22; (try clear hM22); replace p22 := eq_true p22; replace q22 := eq_true q22; have HX29 := am (show Kd.S (Kd.slice 3 (Kd.int .i64)) 31 w27 w.heap.size (fun k_ => ((fun k_ => some k_ ≠ (u10 : Value).ownBlock)) k_ ∧ ¬ ((fun k_ => some k_ = ((.slice Ao9530 y529.length co9530) : Value).ownBlock)) k_) (.slice (some ⟨go22, 0, none⟩) x8_2.length co14) x8_2 from (by (with_reducible repeat (first | apply Kd.S_alloc | apply Kd.S_drewN | apply Kd.S_drew)); exact Kd.S_mono HO_8.out (fun k_ hk => ⟨hk.1, fun e_ => hk.2 e_⟩))); obtain ⟨oki29, ce29, hcl29, hM29, hcc29, hfr29, hoki29, hH29⟩ := Kd.S_elem HX29.out [] (x32_2 : Int) (dT) (by have h_ : (x32_2 : Int) < ((x8_2.length : Int) : Int) := dT; first | exact h_ | (have e_ := (Kd.S_reads' HO_8.out).1; omega) | simpa using h_); obtain ⟨ve29_0, rfl, ge29_0⟩ := hM29; have HP29 := Kd.S_seg hH29 (dT) (by have h_ : (x32_2 : Int) < ((x8_2.length : Int) : Int) := dT; first | exact h_ | (have e_ := (Kd.S_reads' HO_8.out).1; omega) | simpa using h_) (seg := [(.slice Ao9530 y529.length co9530)]) (j := 0) (show 1 ≤ 1 from by decide) (x' := y529) (Kd.M_row (Kd.R_mono (Kd.R_tight rfl (Kd.R_mono (ok' := fun k_ => ((fun k_ => some k_ ≠ (u10 : Value).ownBlock)) k_ ∧ k_ ≠ go22) (Kd.R_apart' (HO531.out) (Kd.S_typed HO_8.out) (by decide)) (fun k_ hk => ⟨hk.1.1.2, fun e_ => (hk.2) (by rw [e_]; rfl)⟩))) (fun _ h_ => Or.inr (h_)))) (fun _ hk => hk) (fun k_ hk_ => ((Kd.R_mono (ok' := fun k_ => ((fun k_ => some k_ ≠ (u10 : Value).ownBlock)) k_ ∧ k_ ≠ go22) (Kd.R_apart' (HO531.out) (Kd.S_typed HO_8.out) (by decide)) (fun k_ hk => ⟨hk.1.1.2, fun e_ => (hk.2) (by rw [e_]; rfl)⟩))).1 k_ hk_.symm); have hx29_0 := hcc29 0 _ rfl; (try simp only [show ((Kd.slice 3 (Kd.int .i64))).sz = 1 from rfl, Nat.mul_one, Nat.add_zero] at hx29_0); have hf29_0 := hfr29 0; (try simp only [show ((Kd.slice 3 (Kd.int .i64))).sz = 1 from rfl, Nat.mul_one, Nat.add_zero] at hf29_0); clear hcl29 hcc29 hfr29 hoki29 hH29; (try clear hM29); (try simp only [show ((Kd.slice 3 (Kd.int .i64))).sz = 1 from rfl, Nat.mul_one, Nat.add_zero] at HP29)) | ((with_reducible refine gate_store (t := 31) (p := 56) rfl ?_); (try (rw [drewN_self w27]; generalize hq_ : World.drewN w27 _ = w27; have n0_ := am (Kd.S_at hq_ HO_8.out); have n1_ := am (Kd.R_at hq_ HO_10.out); have n2_ := am (Kd.R_at hq_ HL524_0.out); have n3_ := am (below_at hq_ HB.out); clear hq_ HO_8 HO_10 HL524_0 HB; revert n0_ n1_ n2_ n3_; intro HO_8 HO_10 HL524_0 HB; (try (have HX29 := am (show Kd.S (Kd.slice 3 (Kd.int .i64)) 31 w27 w.heap.size (fun k_ => ((fun k_ => some k_ ≠ (u10 : Value).ownBlock)) k_ ∧ ¬ ((fun k_ => some k_ = ((.slice Ao9530 y529.length co9530) : Value).ownBlock)) k_) (.slice (some ⟨go22, 0, none⟩) x8_2.length co14) x8_2 from (by (with_reducible repeat (first | apply Kd.S_alloc | apply Kd.S_drewN | apply Kd.S_drew)); exact Kd.S_mono HO_8.out (fun k_ hk => ⟨hk.1, fun e_ => hk.2 e_⟩))))); (try (obtain ⟨oki29, ce29, hcl29, hM29, hcc29, hfr29, hoki29, hH29⟩ := Kd.S_elem HX29.out [] (x32_2 : Int) (dT) (by have h_ : (x32_2 : Int) < ((x8_2.length : Int) : Int) := dT; first | exact h_ | (have e_ := (Kd.S_reads' HO_8.out).1; omega) | simpa using h_))); (try (obtain ⟨ve29_0, rfl, ge29_0⟩ := hM29)); (try (have HP29 := Kd.S_seg hH29 (dT) (by have h_ : (x32_2 : Int) < ((x8_2.length : Int) : Int) := dT; first | exact h_ | (have e_ := (Kd.S_reads' HO_8.out).1; omega) | simpa using h_) (seg := [(.slice Ao9530 y529.length co9530)]) (j := 0) (show 1 ≤ 1 from by decide) (x' := y529) (Kd.M_row (Kd.R_mono (Kd.R_tight rfl (Kd.R_mono (ok' := fun k_ => ((fun k_ => some k_ ≠ (u10 : Value).ownBlock)) k_ ∧ k_ ≠ go22) (Kd.R_apart' (HO531.out) (Kd.S_typed HO_8.out) (by decide)) (fun k_ hk => ⟨hk.1.1.2, fun e_ => (hk.2) (by rw [e_]; rfl)⟩))) (fun _ h_ => Or.inr (h_)))) (fun _ hk => hk) (fun k_ hk_ => ((Kd.R_mono (ok' := fun k_ => ((fun k_ => some k_ ≠ (u10 : Value).ownBlock)) k_ ∧ k_ ≠ go22) (Kd.R_apart' (HO531.out) (Kd.S_typed HO_8.out) (by decide)) (fun k_ hk => ⟨hk.1.1.2, fun e_ => (hk.2) (by rw [e_]; rfl)⟩))).1 k_ hk_.symm))); (try (have hx29_0 := hcc29 0 _ rfl)); (try (try simp only [show ((Kd.slice 3 (Kd.int .i64))).sz = 1 from rfl, Nat.mul_one, Nat.add_zero] at hx29_0)); (try (have hf29_0 := hfr29 0)); (try (try simp only [show ((Kd.slice 3 (Kd.int .i64))).sz = 1 from rfl, Nat.mul_one, Nat.add_zero] at hf29_0)); (try (clear hcl29 hcc29 hfr29 hoki29 hH29; (try clear hM29))); (try (try simp only [show ((Kd.slice 3 (Kd.int .i64))).sz = 1 from rfl, Nat.mul_one, Nat.add_zero] at HP29)))); refine store_event (t := 31) (p := 56) (v := ?vo_w30) (w1 := (w27.setCell ⟨go22, (x32_2 : Int).toNat, none⟩ ((.slice Ao9530 y529.length co9530)))) ?hg ?ho ?hn ?hr ?_; (case ho => rfl); (case hg => rfl); (case hn => rfl); (case hr => first | (go_simp; done) | (go_simp; rfl)); intro w30 hw; have hg : w27.grownBy w30 (some go22) := (by rw [hw]; exact HP29.2); have hp_ : Kd.S (Kd.slice 3 (Kd.int .i64)) 31 w30 w.heap.size (fun k_ => some k_ ≠ (u10 : Value).ownBlock) (.slice (some ⟨go22, 0, none⟩) x8_2.length co14) y532 := (by rw [hw, Ny532.out]; exact HP29.1); clear HP29; have n0_ := am (hp_); have n1_ := am (Kd.R_over' (v := (.slice (some ⟨go22, 0, none⟩) x8_2.length co14)) (Rz HO_10.out) (Kd.S_typed HO_8.out) (by decide) hg); have n2_ := am (Kd.R_after (v := (.slice (some ⟨go22, 0, none⟩) x8_2.length co14)) (v1 := (.slice (some ⟨go22, 0, none⟩) x8_2.length co14)) (ok := (fun k_ => some k_ ≠ (u10 : Value).ownBlock ∧ some k_ ≠ ((.slice Ao9530 y529.length co9530) : Value).ownBlock)) (Rz (Kd.R_mono HL524_0.out (fun _ hk => ⟨⟨hk.1.1, hk.2⟩, hk.1.2⟩))) hg (.inl rfl)); have n3_ := am ((by rw [hw]; exact below_set (HB.out) GB22.out : Below w.heap.size w w30)); clear HO_8 HO_10 HL524_0 HB HO531; revert n0_ n1_ n2_ n3_; intro HO_8 HO_10 HL524_0 HB; clear hg hw hp_) | (go_at_call 75; refine calls_of_args (args' := #[.slice (some ⟨go22, 0, none⟩) y532.length co14]) (by first | (rw [show y532.length = x8_2.length from (Kd.S_reads' HO_8.out).1.symm] <;> rfl) | rfl) ?_; (with_reducible refine (impl_placed.calls k2 _ _ y532 true _ ?side1 ?side2 A23.out).mono ?_); (case side1 => exact Cz ((Kd.S_reads' HO_8.out).2.2)); (case side2 => rw [show y532.length = x8_2.length from (Kd.S_reads' HO_8.out).1.symm]; exact (Kd.S_reads' HO_8.out).2.1); rintro e w31 ⟨rfl, hb⟩; have n0_ := am (Kd.S_below (by (with_reducible repeat (first | apply Kd.S_alloc | apply Kd.S_drewN | apply Kd.S_drew)); exact HO_8.out) hb); have n1_ := Rb HO_10 hb; have n2_ := Rb HL524_0 hb; have n3_ := Bb HB hb; clear HO_8 HO_10 HL524_0 HB; revert n0_ n1_ n2_ n3_; intro HO_8 HO_10 HL524_0 HB; (try clear hb); (try clear hb2); (try clear hk); (try clear hi); have p534 : 0 ≤ (x32_2 : Int) := dT; have q534 : x32_2 < (y532.length : Int) := (by have h_ : (x32_2 : Int) < ((x8_2.length : Int) : Int) := dT; first | (have e_ := (Kd.S_reads' HO_8.out).1; omega) | simpa only [Ny532.out, List.length_set] using h_); have ql534 : ((x32_2 : Int) < ((x8_2.length : Int) : Int)) = True := eq_true (dT); obtain ⟨ad534, A534_0, c534_0, e534, hx534_0, hl534_0, hi534_0⟩ := at_L3 (Kd.S_reads' HO_8.out).2.2 x32_2 p534 q534; obtain rfl : (⟨go22, 0, none⟩ : Addr) = ad534 := (by injection e534); obtain ⟨ce534, hce534, hMe534, hcc534⟩ := Kd.S_get HO_8.out [] x32_2 p534 (by first | exact q534 | exact dT | (have e_ := (Kd.S_reads' HO_8.out).1; omega)); obtain ⟨ve534_0, rfl, ge534_0⟩ := hMe534; have hv534_0 := hcc534 0 _ rfl; rw [Nat.add_zero, show ((Kd.slice 3 (Kd.int .i64))).sz = 1 from rfl, Nat.mul_one] at hv534_0; replace hv534_0 := Option.some.inj (hv534_0.symm.trans hx534_0); rw [hv534_0] at ge534_0; have HL534_0 := am (show Kd.R (Kd.int .i64) 3 _ _ _ _ (rd_L3 y532 x32_2) from ge534_0); clear hv534_0 ge534_0; clear hcc534 hce534; (first | simp only [add_plain] at hx534_0 | simp only [add_at] at hx534_0 | simp only [Addr.add, Nat.zero_add] at hx534_0 | skip); have HR534_0 := am hi534_0; have HC534_0 := am hl534_0; clear hi534_0 hl534_0; replace p534 := eq_true p534; replace q534 := eq_true q534; have p535 : 0 ≤ (0 : Int) := (by omega); have q535 : 0 < ((rd_L3 y532 x32_2).length : Int) := dT; obtain ⟨ad535, e535, hx535_0⟩ := Kd.at_int (by repeat (first | (with_reducible exact HR534_0.out) | (with_reducible refine Kd.C_alloc ?_ _) | (with_reducible refine Kd.C_drewN ?_ _) | (with_reducible refine Kd.C_drew ?_) | exact HR534_0.out)) 0 p535 q535; cases e535; have qi535 : (0 < (rd_L3 y532 x32_2).length) = True := eq_true (by omega); (try rw [show ((0 : Int)).toNat = 0 from rfl] at hx535_0); (try rw [Addr.add_zero'] at hx535_0); replace p535 := eq_true p535; replace q535 := eq_true q535) | ((with_reducible refine gate_builtin (b := .append) (xs := #[.tmp 66, .tmp 73]) rfl ?_); at_builtin; refine Kd.R_append (Kd.int .i64) (w0 := w) w.heap.size rfl (.tmp 66) (.tmp 73) 31 3 (.int .i64 0) 8 rfl Try.underlying31 info3 rfl (by decide) (by omega) u10 x10_2 (rd (rd_L3 y532 x32_2) 0) [.int .i64 (rd (rd_L3 y532 x32_2) 0)] (fun _ => True) (fun _ => False) rfl rfl ?aP (fun _ hk => hk.elim) ?aF ?aO ?aB ?aS ?aL ?_; (case aP => exact rfl); (case aB => exact (Bz HB.out)); (case aF => exact (fun _ _ => trivial)); (case aO => exact (Rz (Kd.R_mono HO_10.out (fun _ hk => trivial)))); (case aS => exact (below_size (Bz HB.out))); (case aL => have := LMc26.out; omega); intro v537 w32 ho hb hg hat; rw [← Ny536.out] at ho; have n0_ := am (Kd.S_after (ok := (fun _ => True)) (by (with_reducible repeat (first | apply Kd.S_alloc | apply Kd.S_drewN | apply Kd.S_drew)); exact Kd.S_mono HO_8.out (fun _ hk => ⟨trivial, hk⟩)) hg hat); have n1_ := am (Kd.R_after (ok := (fun k_ => some k_ ≠ (.slice (some ⟨go22, 0, none⟩) x8_2.length co14 : Value).ownBlock)) (Rz (Kd.R_mono HL524_0.out (fun _ hk => ⟨hk.2, hk.1.1⟩))) hg hat); have n2_ := am (Kd.R_after (ok := (fun k_ => some k_ ≠ (.slice (some ⟨go22, 0, none⟩) x8_2.length co14 : Value).ownBlock)) (Rz (Kd.R_mono HL534_0.out (fun _ hk => ⟨hk.2, hk.1⟩))) hg hat); have n3_ := am (hb); have n4_ := am (ho); clear HO_8 HL524_0 HL534_0 HB HO_10; revert n0_ n1_ n2_ n3_ n4_; intro HO_8 HL524_0 HL534_0 HB HO538; clear ho hb hg hat)); try go_wp2_with (first | ((with_reducible refine gate_dst (N := 55) rfl ?_); refine Kd.R_lit (Kd.int .i64) _ 3 ?hg (N := 55) ?hd (xs := ([ji20, ji20] : List Int)) (inner := [.int .i64 ji20, .int .i64 ji20]) (ok := fun _ => True) (okp := fun _ => True) ?hr ?hp (fun _ hk => hk) trivial (Below.refl _ _) (Nat.le_refl _) (by simp) ?_; (case hd => rfl); (case hg => rfl); (case hr => first | (go_simp; done) | (go_simp; rfl)); (case hp => exact (Reps.one (show Kd.M (Kd.int .i64) _ _ _ ji20 [.int .i64 ji20] from rfl) (Reps.one (show Kd.M (Kd.int .i64) _ _ _ ji20 [.int .i64 ji20] from rfl) (Reps.none _ _)))); intro v530 w27 ho28 hb hg_ hnew_; clear hg_ hnew_; (first | rw [← Ny529.out] at ho28 | (simp only [Int.reduceToNat] at ho28; rw [← Ny529.out] at ho28)); have n0_ := am (Kd.S_elder' (by (with_reducible repeat (first | apply Kd.S_alloc | apply Kd.S_drewN | apply Kd.S_drew)); exact HO_8.out) (Kd.R_base ho28) hb); have n1_ := Re HO_10 (Kd.R_base ho28) hb; have n2_ := Re HL524_0 (Kd.R_base ho28) hb; have n3_ := Rl (Kd.R_new' (Kd.R_new' ho28 (Kd.R_lt (Rz HO_10.out))) (Kd.R_lt (Rz HL524_0.out))) HB; have n4_ := am (Kd.C_below (by repeat (first | (with_reducible exact HR524_0.out) | (with_reducible refine Kd.C_alloc ?_ _) | (with_reducible refine Kd.C_drewN ?_ _) | (with_reducible refine Kd.C_drew ?_) | exact HR524_0.out)) hb); have n5_ := Bb HB hb; clear HO_8 HO_10 HL524_0 HR524_0 HB; revert n0_ n1_ n2_ n3_ n4_ n5_; intro HO_8 HO_10 HL524_0 HO531 HR524_0 HB; clear hb ho28; obtain ⟨Ao9530, co9530, eo9530⟩ := Kd.R_slice HO531.out; subst eo9530; have p22 : 0 ≤ (x32_2 : Int) := dT; have q22 : (x32_2 : Int) < ((x8_2.length : Int) : Int) := dT; obtain ⟨go22, co22, eo22, gb22, gl22, cl22, HG22⟩ := Kd.S_form HO_8.out (by omega); (first | cases eo22 | (injection eo22 with ea_ en_ ec_; (first | subst ea_ | (injection ea_ with ea_; subst ea_)); subst ec_; clear en_)); have GB22 := am gb22; have GG22 := am HG22; clear gb22 gl22 HG22; (first | simp only [add_plain] at hx524_0 | skip); obtain ⟨_, ce22, hcl22, hM22, hcc22, hfr22, _, _⟩ := Kd.S_elem HO_8.out [] (x32_2 : Int) p22 q22; obtain ⟨ve22_0, rfl, ge22_0⟩ := hM22; have hx22_0 := hcc22 0 _ rfl; have hf22_0 := hfr22 0; (try simp only [show ((Kd.slice 3 (Kd.int .i64))).sz = 1 from rfl, Nat.mul_one, Nat.add_zero] at hx22_0); (try simp only [show ((Kd.slice 3 (Kd.int .i64))).sz = 1 from rfl, Nat.mul_one, Nat.add_zero] at hf22_0); clear hcl22 hcc22 hfr22; (try clear hM22); replace p22 := eq_true p22; replace q22 := eq_true q22; have HX29 := am (show Kd.S (Kd.slice 3 (Kd.int .i64)) 31 w27 w.heap.size (fun k_ => ((fun k_ => some k_ ≠ (u10 : Value).ownBlock)) k_ ∧ ¬ ((fun k_ => some k_ = ((.slice Ao9530 y529.length co9530) : Value).ownBlock)) k_) (.slice (some ⟨go22, 0, none⟩) x8_2.length co14) x8_2 from (by (with_reducible repeat (first | apply Kd.S_alloc | apply Kd.S_drewN | apply Kd.S_drew)); exact Kd.S_mono HO_8.out (fun k_ hk => ⟨hk.1, fun e_ => hk.2 e_⟩))); obtain ⟨oki29, ce29, hcl29, hM29, hcc29, hfr29, hoki29, hH29⟩ := Kd.S_elem HX29.out [] (x32_2 : Int) (dT) (by have h_ : (x32_2 : Int) < ((x8_2.length : Int) : Int) := dT; first | exact h_ | (have e_ := (Kd.S_reads' HO_8.out).1; omega) | simpa using h_); obtain ⟨ve29_0, rfl, ge29_0⟩ := hM29; have HP29 := Kd.S_seg hH29 (dT) (by have h_ : (x32_2 : Int) < ((x8_2.length : Int) : Int) := dT; first | exact h_ | (have e_ := (Kd.S_reads' HO_8.out).1; omega) | simpa using h_) (seg := [(.slice Ao9530 y529.length co9530)]) (j := 0) (show 1 ≤ 1 from by decide) (x' := y529) (Kd.M_row (Kd.R_mono (Kd.R_tight rfl (Kd.R_mono (ok' := fun k_ => ((fun k_ => some k_ ≠ (u10 : Value).ownBlock)) k_ ∧ k_ ≠ go22) (Kd.R_apart' (HO531.out) (Kd.S_typed HO_8.out) (by decide)) (fun k_ hk => ⟨hk.1.1.2, fun e_ => (hk.2) (by rw [e_]; rfl)⟩))) (fun _ h_ => Or.inr (h_)))) (fun _ hk => hk) (fun k_ hk_ => ((Kd.R_mono (ok' := fun k_ => ((fun k_ => some k_ ≠ (u10 : Value).ownBlock)) k_ ∧ k_ ≠ go22) (Kd.R_apart' (HO531.out) (Kd.S_typed HO_8.out) (by decide)) (fun k_ hk => ⟨hk.1.1.2, fun e_ => (hk.2) (by rw [e_]; rfl)⟩))).1 k_ hk_.symm); have hx29_0 := hcc29 0 _ rfl; (try simp only [show ((Kd.slice 3 (Kd.int .i64))).sz = 1 from rfl, Nat.mul_one, Nat.add_zero] at hx29_0); have hf29_0 := hfr29 0; (try simp only [show ((Kd.slice 3 (Kd.int .i64))).sz = 1 from rfl, Nat.mul_one, Nat.add_zero] at hf29_0); clear hcl29 hcc29 hfr29 hoki29 hH29; (try clear hM29); (try simp only [show ((Kd.slice 3 (Kd.int .i64))).sz = 1 from rfl, Nat.mul_one, Nat.add_zero] at HP29)) | ((with_reducible refine gate_store (t := 31) (p := 56) rfl ?_); (try (rw [drewN_self w27]; generalize hq_ : World.drewN w27 _ = w27; have n0_ := am (Kd.S_at hq_ HO_8.out); have n1_ := am (Kd.R_at hq_ HO_10.out); have n2_ := am (Kd.R_at hq_ HL524_0.out); have n3_ := am (below_at hq_ HB.out); clear hq_ HO_8 HO_10 HL524_0 HB; revert n0_ n1_ n2_ n3_; intro HO_8 HO_10 HL524_0 HB; (try (have HX29 := am (show Kd.S (Kd.slice 3 (Kd.int .i64)) 31 w27 w.heap.size (fun k_ => ((fun k_ => some k_ ≠ (u10 : Value).ownBlock)) k_ ∧ ¬ ((fun k_ => some k_ = ((.slice Ao9530 y529.length co9530) : Value).ownBlock)) k_) (.slice (some ⟨go22, 0, none⟩) x8_2.length co14) x8_2 from (by (with_reducible repeat (first | apply Kd.S_alloc | apply Kd.S_drewN | apply Kd.S_drew)); exact Kd.S_mono HO_8.out (fun k_ hk => ⟨hk.1, fun e_ => hk.2 e_⟩))))); (try (obtain ⟨oki29, ce29, hcl29, hM29, hcc29, hfr29, hoki29, hH29⟩ := Kd.S_elem HX29.out [] (x32_2 : Int) (dT) (by have h_ : (x32_2 : Int) < ((x8_2.length : Int) : Int) := dT; first | exact h_ | (have e_ := (Kd.S_reads' HO_8.out).1; omega) | simpa using h_))); (try (obtain ⟨ve29_0, rfl, ge29_0⟩ := hM29)); (try (have HP29 := Kd.S_seg hH29 (dT) (by have h_ : (x32_2 : Int) < ((x8_2.length : Int) : Int) := dT; first | exact h_ | (have e_ := (Kd.S_reads' HO_8.out).1; omega) | simpa using h_) (seg := [(.slice Ao9530 y529.length co9530)]) (j := 0) (show 1 ≤ 1 from by decide) (x' := y529) (Kd.M_row (Kd.R_mono (Kd.R_tight rfl (Kd.R_mono (ok' := fun k_ => ((fun k_ => some k_ ≠ (u10 : Value).ownBlock)) k_ ∧ k_ ≠ go22) (Kd.R_apart' (HO531.out) (Kd.S_typed HO_8.out) (by decide)) (fun k_ hk => ⟨hk.1.1.2, fun e_ => (hk.2) (by rw [e_]; rfl)⟩))) (fun _ h_ => Or.inr (h_)))) (fun _ hk => hk) (fun k_ hk_ => ((Kd.R_mono (ok' := fun k_ => ((fun k_ => some k_ ≠ (u10 : Value).ownBlock)) k_ ∧ k_ ≠ go22) (Kd.R_apart' (HO531.out) (Kd.S_typed HO_8.out) (by decide)) (fun k_ hk => ⟨hk.1.1.2, fun e_ => (hk.2) (by rw [e_]; rfl)⟩))).1 k_ hk_.symm))); (try (have hx29_0 := hcc29 0 _ rfl)); (try (try simp only [show ((Kd.slice 3 (Kd.int .i64))).sz = 1 from rfl, Nat.mul_one, Nat.add_zero] at hx29_0)); (try (have hf29_0 := hfr29 0)); (try (try simp only [show ((Kd.slice 3 (Kd.int .i64))).sz = 1 from rfl, Nat.mul_one, Nat.add_zero] at hf29_0)); (try (clear hcl29 hcc29 hfr29 hoki29 hH29; (try clear hM29))); (try (try simp only [show ((Kd.slice 3 (Kd.int .i64))).sz = 1 from rfl, Nat.mul_one, Nat.add_zero] at HP29)))); refine store_event (t := 31) (p := 56) (v := ?vo_w30) (w1 := (w27.setCell ⟨go22, (x32_2 : Int).toNat, none⟩ ((.slice Ao9530 y529.length co9530)))) ?hg ?ho ?hn ?hr ?_; (case ho => rfl); (case hg => rfl); (case hn => rfl); (case hr => first | (go_simp; done) | (go_simp; rfl)); intro w30 hw; have hg : w27.grownBy w30 (some go22) := (by rw [hw]; exact HP29.2); have hp_ : Kd.S (Kd.slice 3 (Kd.int .i64)) 31 w30 w.heap.size (fun k_ => some k_ ≠ (u10 : Value).ownBlock) (.slice (some ⟨go22, 0, none⟩) x8_2.length co14) y532 := (by rw [hw, Ny532.out]; exact HP29.1); clear HP29; have n0_ := am (hp_); have n1_ := am (Kd.R_over' (v := (.slice (some ⟨go22, 0, none⟩) x8_2.length co14)) (Rz HO_10.out) (Kd.S_typed HO_8.out) (by decide) hg); have n2_ := am (Kd.R_after (v := (.slice (some ⟨go22, 0, none⟩) x8_2.length co14)) (v1 := (.slice (some ⟨go22, 0, none⟩) x8_2.length co14)) (ok := (fun k_ => some k_ ≠ (u10 : Value).ownBlock ∧ some k_ ≠ ((.slice Ao9530 y529.length co9530) : Value).ownBlock)) (Rz (Kd.R_mono HL524_0.out (fun _ hk => ⟨⟨hk.1.1, hk.2⟩, hk.1.2⟩))) hg (.inl rfl)); have n3_ := am ((by rw [hw]; exact below_set (HB.out) GB22.out : Below w.heap.size w w30)); clear HO_8 HO_10 HL524_0 HB HO531; revert n0_ n1_ n2_ n3_; intro HO_8 HO_10 HL524_0 HB; clear hg hw hp_) | (go_at_call 75; refine calls_of_args (args' := #[.slice (some ⟨go22, 0, none⟩) y532.length co14]) (by first | (rw [show y532.length = x8_2.length from (Kd.S_reads' HO_8.out).1.symm] <;> rfl) | rfl) ?_; (with_reducible refine (impl_placed.calls k2 _ _ y532 true _ ?side1 ?side2 A23.out).mono ?_); (case side1 => exact Cz ((Kd.S_reads' HO_8.out).2.2)); (case side2 => rw [show y532.length = x8_2.length from (Kd.S_reads' HO_8.out).1.symm]; exact (Kd.S_reads' HO_8.out).2.1); rintro e w31 ⟨rfl, hb⟩; have n0_ := am (Kd.S_below (by (with_reducible repeat (first | apply Kd.S_alloc | apply Kd.S_drewN | apply Kd.S_drew)); exact HO_8.out) hb); have n1_ := Rb HO_10 hb; have n2_ := Rb HL524_0 hb; have n3_ := Bb HB hb; clear HO_8 HO_10 HL524_0 HB; revert n0_ n1_ n2_ n3_; intro HO_8 HO_10 HL524_0 HB; (try clear hb); (try clear hb2); (try clear hk); (try clear hi); have p534 : 0 ≤ (x32_2 : Int) := dT; have q534 : x32_2 < (y532.length : Int) := (by have h_ : (x32_2 : Int) < ((x8_2.length : Int) : Int) := dT; first | (have e_ := (Kd.S_reads' HO_8.out).1; omega) | simpa only [Ny532.out, List.length_set] using h_); have ql534 : ((x32_2 : Int) < ((x8_2.length : Int) : Int)) = True := eq_true (dT); obtain ⟨ad534, A534_0, c534_0, e534, hx534_0, hl534_0, hi534_0⟩ := at_L3 (Kd.S_reads' HO_8.out).2.2 x32_2 p534 q534; obtain rfl : (⟨go22, 0, none⟩ : Addr) = ad534 := (by injection e534); obtain ⟨ce534, hce534, hMe534, hcc534⟩ := Kd.S_get HO_8.out [] x32_2 p534 (by first | exact q534 | exact dT | (have e_ := (Kd.S_reads' HO_8.out).1; omega)); obtain ⟨ve534_0, rfl, ge534_0⟩ := hMe534; have hv534_0 := hcc534 0 _ rfl; rw [Nat.add_zero, show ((Kd.slice 3 (Kd.int .i64))).sz = 1 from rfl, Nat.mul_one] at hv534_0; replace hv534_0 := Option.some.inj (hv534_0.symm.trans hx534_0); rw [hv534_0] at ge534_0; have HL534_0 := am (show Kd.R (Kd.int .i64) 3 _ _ _ _ (rd_L3 y532 x32_2) from ge534_0); clear hv534_0 ge534_0; clear hcc534 hce534; (first | simp only [add_plain] at hx534_0 | simp only [add_at] at hx534_0 | simp only [Addr.add, Nat.zero_add] at hx534_0 | skip); have HR534_0 := am hi534_0; have HC534_0 := am hl534_0; clear hi534_0 hl534_0; replace p534 := eq_true p534; replace q534 := eq_true q534; have p535 : 0 ≤ (0 : Int) := (by omega); have q535 : 0 < ((rd_L3 y532 x32_2).length : Int) := dT; obtain ⟨ad535, e535, hx535_0⟩ := Kd.at_int (by repeat (first | (with_reducible exact HR534_0.out) | (with_reducible refine Kd.C_alloc ?_ _) | (with_reducible refine Kd.C_drewN ?_ _) | (with_reducible refine Kd.C_drew ?_) | exact HR534_0.out)) 0 p535 q535; cases e535; have qi535 : (0 < (rd_L3 y532 x32_2).length) = True := eq_true (by omega); (try rw [show ((0 : Int)).toNat = 0 from rfl] at hx535_0); (try rw [Addr.add_zero'] at hx535_0); replace p535 := eq_true p535; replace q535 := eq_true q535) | ((with_reducible refine gate_builtin (b := .append) (xs := #[.tmp 66, .tmp 73]) rfl ?_); at_builtin; refine Kd.R_append (Kd.int .i64) (w0 := w) w.heap.size rfl (.tmp 66) (.tmp 73) 31 3 (.int .i64 0) 8 rfl Try.underlying31 info3 rfl (by decide) (by omega) u10 x10_2 (rd (rd_L3 y532 x32_2) 0) [.int .i64 (rd (rd_L3 y532 x32_2) 0)] (fun _ => True) (fun _ => False) rfl rfl ?aP (fun _ hk => hk.elim) ?aF ?aO ?aB ?aS ?aL ?_; (case aP => exact rfl); (case aB => exact (Bz HB.out)); (case aF => exact (fun _ _ => trivial)); (case aO => exact (Rz (Kd.R_mono HO_10.out (fun _ hk => trivial)))); (case aS => exact (below_size (Bz HB.out))); (case aL => have := LMc26.out; omega); intro v537 w32 ho hb hg hat; rw [← Ny536.out] at ho; have n0_ := am (Kd.S_after (ok := (fun _ => True)) (by (with_reducible repeat (first | apply Kd.S_alloc | apply Kd.S_drewN | apply Kd.S_drew)); exact Kd.S_mono HO_8.out (fun _ hk => ⟨trivial, hk⟩)) hg hat); have n1_ := am (Kd.R_after (ok := (fun k_ => some k_ ≠ (.slice (some ⟨go22, 0, none⟩) x8_2.length co14 : Value).ownBlock)) (Rz (Kd.R_mono HL524_0.out (fun _ hk => ⟨hk.2, hk.1.1⟩))) hg hat); have n2_ := am (Kd.R_after (ok := (fun k_ => some k_ ≠ (.slice (some ⟨go22, 0, none⟩) x8_2.length co14 : Value).ownBlock)) (Rz (Kd.R_mono HL534_0.out (fun _ hk => ⟨hk.2, hk.1⟩))) hg hat); have n3_ := am (hb); have n4_ := am (ho); clear HO_8 HL524_0 HL534_0 HB HO_10; revert n0_ n1_ n2_ n3_ n4_; intro HO_8 HL524_0 HL534_0 HB HO538; clear ho hb hg hat)))
              (try simp only [← hl8_2])
              go_roundg k2
              case measure => have := HJ4.out; have := HK2.out; omega
              case rel => exact ⟨(y532), (y536), (wrap64 (x32_2 + 1)), wZ, H', ⟨by have := HJ4.out; have := HK2.out; omega⟩, ⟨by (try simp only [hl8_2]); (with_reducible repeat (first | apply Kd.S_alloc | apply Kd.S_drewN | apply Kd.S_drew)); exact Kd.S_mono HO_8.out (fun _ hk => hk.2)⟩, ⟨by (try simp only [hl8_2]); (with_reducible repeat (first | apply Kd.R_alloc | apply Kd.R_drewN | apply Kd.R_drew)); exact HO538.out⟩, ⟨Bz HB.out⟩⟩
             ·rw [if_neg c26] at H
              exact absurd H (by simp)
            ·rw [if_neg c25] at H
             exact absurd H (by simp)
           ·replace c24 := Bool.eq_false_iff.mpr c24
            subst c24
            rw [if_neg (show ¬ (false = true) by decide)] at H; obtain ⟨y539, hy539⟩ : ∃ y_ : List Int, y_ = (([ji21, ji21] : List Int)) := ⟨_, rfl⟩
            replace H : ((some (y532.set (x32_2 : Int).toNat y539 : List (List Int))).bind fun y542 => (if 0 < ((rd_L3 y542 x32_2).length : Int) then (if x10_2.length < 17592186044416 then (impl_PlaceKeys.l0 k2 y542 (x10_2 ++ [rd (rd_L3 y542 x32_2) 0]) (t516.length : Int) (wrap64 (x32_2 + 1))) else (none)) else (none))) = some (r1, r2) := by first | (rw [hy539]; with_reducible exact H) | (have H2_ := (Option.bind_some _ _).symm.trans H; rw [hy539]; with_reducible exact H2_) | (have H2_ := (Option.bind_some _ _).symm.trans H; with_reducible exact H2_) | with_reducible exact H | (rw [hy539]; exact H) | exact H
            have Ny539 := am hy539; clear hy539; obtain ⟨y542, hy542⟩ : ∃ y_ : List (List Int), y_ = (y532.set (x32_2 : Int).toNat y539) := ⟨_, rfl⟩
            replace H : (if 0 < ((rd_L3 y542 x32_2).length : Int) then (if x10_2.length < 17592186044416 then (impl_PlaceKeys.l0 k2 y542 (x10_2 ++ [rd (rd_L3 y542 x32_2) 0]) (t516.length : Int) (wrap64 (x32_2 + 1))) else (none)) else (none)) = some (r1, r2) := by first | (rw [hy542]; with_reducible exact H) | (have H2_ := (Option.bind_some _ _).symm.trans H; rw [hy542]; with_reducible exact H2_) | (have H2_ := (Option.bind_some _ _).symm.trans H; with_reducible exact H2_) | with_reducible exact H | (rw [hy542]; exact H) | exact H
            have Ny542 := am hy542; clear hy542
            by_cases c34 : 0 < ((rd_L3 y542 x32_2).length : Int)
            ·rw [if_pos c34] at H
             have c34b0 : decide (0 < ((rd_L3 y542 x32_2).length : Int)) = true := decide_eq_true c34; (try simp only [hl8_2] at c34b0); have c34b1 : decide (0 < (rd_L3 y542 x32_2).length) = true := decide_eq_true (by omega); clear c34
             by_cases c35 : x10_2.length < 17592186044416
             ·rw [if_pos c35] at H
              have LMc35 := am c35; clear c35; obtain ⟨y545, hy545⟩ : ∃ y_ : List Int, y_ = (x10_2 ++ [rd (rd_L3 y542 x32_2) 0]) := ⟨_, rfl⟩
              replace H : (impl_PlaceKeys.l0 k2 y542 y545 (t516.length : Int) (wrap64 (x32_2 + 1))) = some (r1, r2) := by first | (rw [hy545]; with_reducible exact H) | (have H2_ := (Option.bind_some _ _).symm.trans H; rw [hy545]; with_reducible exact H2_) | (have H2_ := (Option.bind_some _ _).symm.trans H; with_reducible exact H2_) | with_reducible exact H | (rw [hy545]; exact H) | exact H
              have Ny545 := am hy545; clear hy545; have H' := am H; clear H; have p524 : 0 ≤ (x32_2 : Int) := dT; have q524 : x32_2 < (x8_2.length : Int) := dT; obtain ⟨ad524, A524_0, c524_0, e524, hx524_0, hl524_0, hi524_0⟩ := at_L3 (Kd.S_reads' HO_8.out).2.2 x32_2 p524 q524; cases e524; obtain ⟨ce524, hce524, hMe524, hcc524⟩ := Kd.S_get HO_8.out [] x32_2 p524 (by first | exact q524 | exact dT | (have e_ := (Kd.S_reads' HO_8.out).1; omega)); obtain ⟨ve524_0, rfl, ge524_0⟩ := hMe524; have hv524_0 := hcc524 0 _ rfl; rw [Nat.add_zero, show ((Kd.slice 3 (Kd.int .i64))).sz = 1 from rfl, Nat.mul_one] at hv524_0; replace hv524_0 := Option.some.inj (hv524_0.symm.trans hx524_0); rw [hv524_0] at ge524_0; have HL524_0 := am (show Kd.R (Kd.int .i64) 3 _ _ _ _ (rd_L3 x8_2 x32_2) from ge524_0); clear hv524_0 ge524_0; clear hcc524 hce524; have HR524_0 := am hi524_0; have HC524_0 := am hl524_0; clear hi524_0 hl524_0; replace p524 := eq_true p524; replace q524 := eq_true q524; have p525 : 0 ≤ (0 : Int) := (by omega); have q525 : 0 < ((rd_L3 x8_2 x32_2).length : Int) := dT; obtain ⟨ad525, e525, hx525_0⟩ := Kd.at_int (by repeat (first | (with_reducible exact HR524_0.out) | (with_reducible refine Kd.C_alloc ?_ _) | (with_reducible refine Kd.C_drewN ?_ _) | (with_reducible refine Kd.C_drew ?_) | exact HR524_0.out)) 0 p525 q525; cases e525; have qi525 : (0 < (rd_L3 x8_2 x32_2).length) = True := eq_true (by omega)
              (try rw [show ((0 : Int)).toNat = 0 from rfl] at hx525_0)
              (try rw [Addr.add_zero'] at hx525_0)
              replace p525 := eq_true p525; replace q525 := eq_true q525; have p526 : 0 ≤ (1 : Int) := (by omega); have q526 : 1 < ((rd_L3 x8_2 x32_2).length : Int) := dT; obtain ⟨ad526, e526, hx526_0⟩ := Kd.at_int (by repeat (first | (with_reducible exact HR524_0.out) | (with_reducible refine Kd.C_alloc ?_ _) | (with_reducible refine Kd.C_drewN ?_ _) | (with_reducible refine Kd.C_drew ?_) | exact HR524_0.out)) 1 p526 q526; obtain rfl : ad525 = ad526 := (by injection e526)
              (try simp only [show (1 : Int).toNat = 1 from rfl, Nat.reduceMul, Nat.reduceEqDiff, Go.Addr.add, ↓reduceIte] at hx526_0)
              have qi526 : (1 < (rd_L3 x8_2 x32_2).length) = True := eq_true (by omega)
              (try rw [show ((1 : Int)).toNat = 1 from rfl] at hx526_0)
              replace p526 := eq_true p526; replace q526 := eq_true q526; have p527 : 0 ≤ (0 : Int) := (by omega); have q527 : 0 < ((rd_L3 x8_2 x32_2).length : Int) := dT; obtain ⟨ad527, e527, hx527_0⟩ := Kd.at_int (by repeat (first | (with_reducible exact HR524_0.out) | (with_reducible refine Kd.C_alloc ?_ _) | (with_reducible refine Kd.C_drewN ?_ _) | (with_reducible refine Kd.C_drew ?_) | exact HR524_0.out)) 0 p527 q527; obtain rfl : ad525 = ad527 := (by injection e527); have qi527 : (0 < (rd_L3 x8_2 x32_2).length) = True := eq_true (by omega)
              (try rw [show ((0 : Int)).toNat = 0 from rfl] at hx527_0)
              (try rw [Addr.add_zero'] at hx527_0)
              replace p527 := eq_true p527; replace q527 := eq_true q527; have p528 : 0 ≤ (1 : Int) := (by omega); have q528 : 1 < ((rd_L3 x8_2 x32_2).length : Int) := dT; obtain ⟨ad528, e528, hx528_0⟩ := Kd.at_int (by repeat (first | (with_reducible exact HR524_0.out) | (with_reducible refine Kd.C_alloc ?_ _) | (with_reducible refine Kd.C_drewN ?_ _) | (with_reducible refine Kd.C_drew ?_) | exact HR524_0.out)) 1 p528 q528; obtain rfl : ad525 = ad528 := (by injection e528)
              (try simp only [show (1 : Int).toNat = 1 from rfl, Nat.reduceMul, Nat.reduceEqDiff, Go.Addr.add, ↓reduceIte] at hx528_0)
              have qi528 : (1 < (rd_L3 x8_2 x32_2).length) = True := eq_true (by omega)
              (try rw [show ((1 : Int)).toNat = 1 from rfl] at hx528_0)
              replace p528 := eq_true p528; replace q528 := eq_true q528
              go_wp2_with (first | ((with_reducible refine gate_dst (N := 55) rfl ?_); refine Kd.R_lit (Kd.int .i64) _ 3 ?hg (N := 55) ?hd (xs := ([ji20, ji20] : List Int)) (inner := [.int .i64 ji20, .int .i64 ji20]) (ok := fun _ => True) (okp := fun _ => True) ?hr ?hp (fun _ hk => hk) trivial (Below.refl _ _) (Nat.le_refl _) (by simp) ?_; (case hd => rfl); (case hg => rfl); (case hr => first | (go_simp; done) | (go_simp; rfl)); (case hp => exact (Reps.one (show Kd.M (Kd.int .i64) _ _ _ ji20 [.int .i64 ji20] from rfl) (Reps.one (show Kd.M (Kd.int .i64) _ _ _ ji20 [.int .i64 ji20] from rfl) (Reps.none _ _)))); intro v530 w36 ho37 hb hg_ hnew_; clear hg_ hnew_; (first | rw [← Ny529.out] at ho37 | (simp only [Int.reduceToNat] at ho37; rw [← Ny529.out] at ho37)); have n0_ := am (Kd.S_elder' (by (with_reducible repeat (first | apply Kd.S_alloc | apply Kd.S_drewN | apply Kd.S_drew)); exact HO_8.out) (Kd.R_base ho37) hb); have n1_ := Re HO_10 (Kd.R_base ho37) hb; have n2_ := Re HL524_0 (Kd.R_base ho37) hb; have n3_ := Rl (Kd.R_new' (Kd.R_new' ho37 (Kd.R_lt (Rz HO_10.out))) (Kd.R_lt (Rz HL524_0.out))) HB; have n4_ := am (Kd.C_below (by repeat (first | (with_reducible exact HR524_0.out) | (with_reducible refine Kd.C_alloc ?_ _) | (with_reducible refine Kd.C_drewN ?_ _) | (with_reducible refine Kd.C_drew ?_) | exact HR524_0.out)) hb); have n5_ := Bb HB hb; clear HO_8 HO_10 HL524_0 HR524_0 HB; revert n0_ n1_ n2_ n3_ n4_ n5_; intro HO_8 HO_10 HL524_0 HO531 HR524_0 HB; clear hb ho37; obtain ⟨Ao9530, co9530, eo9530⟩ := Kd.R_slice HO531.out; subst eo9530; have p22 : 0 ≤ (x32_2 : Int) := dT; have q22 : (x32_2 : Int) < ((x8_2.length : Int) : Int) := dT; obtain ⟨go22, co22, eo22, gb22, gl22, cl22, HG22⟩ := Kd.S_form HO_8.out (by omega); (first | cases eo22 | (injection eo22 with ea_ en_ ec_; (first | subst ea_ | (injection ea_ with ea_; subst ea_)); subst ec_; clear en_)); have GB22 := am gb22; have GG22 := am HG22; clear gb22 gl22 HG22; (first | simp only [add_plain] at hx524_0 | skip); obtain ⟨_, ce22, hcl22, hM22, hcc22, hfr22, _, _⟩ := Kd.S_elem HO_8.out [] (x32_2 : Int) p22 q22; obtain ⟨ve22_0, rfl, ge22_0⟩ := hM22; have hx22_0 := hcc22 0 _ rfl; have hf22_0 := hfr22 0; (try simp only [show ((Kd.slice 3 (Kd.int .i64))).sz = 1 from rfl, Nat.mul_one, Nat.add_zero] at hx22_0); (try simp only [show ((Kd.slice 3 (Kd.int .i64))).sz = 1 from rfl, Nat.mul_one, Nat.add_zero] at hf22_0); clear hcl22 hcc22 hfr22; (try clear hM22); replace p22 := eq_true p22; replace q22 := eq_true q22; have HX38 := am (show Kd.S (Kd.slice 3 (Kd.int .i64)) 31 w36 w.heap.size (fun k_ => ((fun k_ => some k_ ≠ (u10 : Value).ownBlock)) k_ ∧ ¬ ((fun k_ => some k_ = ((.slice Ao9530 y529.length co9530) : Value).ownBlock)) k_) (.slice (some ⟨go22, 0, none⟩) x8_2.length co14) x8_2 from (by (with_reducible repeat (first | apply Kd.S_alloc | apply Kd.S_drewN | apply Kd.S_drew)); exact Kd.S_mono HO_8.out (fun k_ hk => ⟨hk.1, fun e_ => hk.2 e_⟩))); obtain ⟨oki38, ce38, hcl38, hM38, hcc38, hfr38, hoki38, hH38⟩ := Kd.S_elem HX38.out [] (x32_2 : Int) (dT) (by have h_ : (x32_2 : Int) < ((x8_2.length : Int) : Int) := dT; first | exact h_ | (have e_ := (Kd.S_reads' HO_8.out).1; omega) | simpa using h_); obtain ⟨ve38_0, rfl, ge38_0⟩ := hM38; have HP38 := Kd.S_seg hH38 (dT) (by have h_ : (x32_2 : Int) < ((x8_2.length : Int) : Int) := dT; first | exact h_ | (have e_ := (Kd.S_reads' HO_8.out).1; omega) | simpa using h_) (seg := [(.slice Ao9530 y529.length co9530)]) (j := 0) (show 1 ≤ 1 from by decide) (x' := y529) (Kd.M_row (Kd.R_mono (Kd.R_tight rfl (Kd.R_mono (ok' := fun k_ => ((fun k_ => some k_ ≠ (u10 : Value).ownBlock)) k_ ∧ k_ ≠ go22) (Kd.R_apart' (HO531.out) (Kd.S_typed HO_8.out) (by decide)) (fun k_ hk => ⟨hk.1.1.2, fun e_ => (hk.2) (by rw [e_]; rfl)⟩))) (fun _ h_ => Or.inr (h_)))) (fun _ hk => hk) (fun k_ hk_ => ((Kd.R_mono (ok' := fun k_ => ((fun k_ => some k_ ≠ (u10 : Value).ownBlock)) k_ ∧ k_ ≠ go22) (Kd.R_apart' (HO531.out) (Kd.S_typed HO_8.out) (by decide)) (fun k_ hk => ⟨hk.1.1.2, fun e_ => (hk.2) (by rw [e_]; rfl)⟩))).1 k_ hk_.symm); have hx38_0 := hcc38 0 _ rfl; (try simp only [show ((Kd.slice 3 (Kd.int .i64))).sz = 1 from rfl, Nat.mul_one, Nat.add_zero] at hx38_0); have hf38_0 := hfr38 0; (try simp only [show ((Kd.slice 3 (Kd.int .i64))).sz = 1 from rfl, Nat.mul_one, Nat.add_zero] at hf38_0); clear hcl38 hcc38 hfr38 hoki38 hH38; (try clear hM38); (try simp only [show ((Kd.slice 3 (Kd.int .i64))).sz = 1 from rfl, Nat.mul_one, Nat.add_zero] at HP38)) | ((with_reducible refine gate_store (t := 31) (p := 56) rfl ?_); (try (rw [drewN_self w36]; generalize hq_ : World.drewN w36 _ = w36; have n0_ := am (Kd.S_at hq_ HO_8.out); have n1_ := am (Kd.R_at hq_ HO_10.out); have n2_ := am (Kd.R_at hq_ HL524_0.out); have n3_ := am (below_at hq_ HB.out); clear hq_ HO_8 HO_10 HL524_0 HB; revert n0_ n1_ n2_ n3_; intro HO_8 HO_10 HL524_0 HB; (try (have HX38 := am (show Kd.S (Kd.slice 3 (Kd.int .i64)) 31 w36 w.heap.size (fun k_ => ((fun k_ => some k_ ≠ (u10 : Value).ownBlock)) k_ ∧ ¬ ((fun k_ => some k_ = ((.slice Ao9530 y529.length co9530) : Value).ownBlock)) k_) (.slice (some ⟨go22, 0, none⟩) x8_2.length co14) x8_2 from (by (with_reducible repeat (first | apply Kd.S_alloc | apply Kd.S_drewN | apply Kd.S_drew)); exact Kd.S_mono HO_8.out (fun k_ hk => ⟨hk.1, fun e_ => hk.2 e_⟩))))); (try (obtain ⟨oki38, ce38, hcl38, hM38, hcc38, hfr38, hoki38, hH38⟩ := Kd.S_elem HX38.out [] (x32_2 : Int) (dT) (by have h_ : (x32_2 : Int) < ((x8_2.length : Int) : Int) := dT; first | exact h_ | (have e_ := (Kd.S_reads' HO_8.out).1; omega) | simpa using h_))); (try (obtain ⟨ve38_0, rfl, ge38_0⟩ := hM38)); (try (have HP38 := Kd.S_seg hH38 (dT) (by have h_ : (x32_2 : Int) < ((x8_2.length : Int) : Int) := dT; first | exact h_ | (have e_ := (Kd.S_reads' HO_8.out).1; omega) | simpa using h_) (seg := [(.slice Ao9530 y529.length co9530)]) (j := 0) (show 1 ≤ 1 from by decide) (x' := y529) (Kd.M_row (Kd.R_mono (Kd.R_tight rfl (Kd.R_mono (ok' := fun k_ => ((fun k_ => some k_ ≠ (u10 : Value).ownBlock)) k_ ∧ k_ ≠ go22) (Kd.R_apart' (HO531.out) (Kd.S_typed HO_8.out) (by decide)) (fun k_ hk => ⟨hk.1.1.2, fun e_ => (hk.2) (by rw [e_]; rfl)⟩))) (fun _ h_ => Or.inr (h_)))) (fun _ hk => hk) (fun k_ hk_ => ((Kd.R_mono (ok' := fun k_ => ((fun k_ => some k_ ≠ (u10 : Value).ownBlock)) k_ ∧ k_ ≠ go22) (Kd.R_apart' (HO531.out) (Kd.S_typed HO_8.out) (by decide)) (fun k_ hk => ⟨hk.1.1.2, fun e_ => (hk.2) (by rw [e_]; rfl)⟩))).1 k_ hk_.symm))); (try (have hx38_0 := hcc38 0 _ rfl)); (try (try simp only [show ((Kd.slice 3 (Kd.int .i64))).sz = 1 from rfl, Nat.mul_one, Nat.add_zero] at hx38_0)); (try (have hf38_0 := hfr38 0)); (try (try simp only [show ((Kd.slice 3 (Kd.int .i64))).sz = 1 from rfl, Nat.mul_one, Nat.add_zero] at hf38_0)); (try (clear hcl38 hcc38 hfr38 hoki38 hH38; (try clear hM38))); (try (try simp only [show ((Kd.slice 3 (Kd.int .i64))).sz = 1 from rfl, Nat.mul_one, Nat.add_zero] at HP38)))); refine store_event (t := 31) (p := 56) (v := ?vo_w39) (w1 := (w36.setCell ⟨go22, (x32_2 : Int).toNat, none⟩ ((.slice Ao9530 y529.length co9530)))) ?hg ?ho ?hn ?hr ?_; (case ho => rfl); (case hg => rfl); (case hn => rfl); (case hr => first | (go_simp; done) | (go_simp; rfl)); intro w39 hw; have hg : w36.grownBy w39 (some go22) := (by rw [hw]; exact HP38.2); have hp_ : Kd.S (Kd.slice 3 (Kd.int .i64)) 31 w39 w.heap.size (fun k_ => some k_ ≠ (u10 : Value).ownBlock) (.slice (some ⟨go22, 0, none⟩) x8_2.length co14) y532 := (by rw [hw, Ny532.out]; exact HP38.1); clear HP38; have n0_ := am (hp_); have n1_ := am (Kd.R_over' (v := (.slice (some ⟨go22, 0, none⟩) x8_2.length co14)) (Rz HO_10.out) (Kd.S_typed HO_8.out) (by decide) hg); have n2_ := am (Kd.R_after (v := (.slice (some ⟨go22, 0, none⟩) x8_2.length co14)) (v1 := (.slice (some ⟨go22, 0, none⟩) x8_2.length co14)) (ok := (fun k_ => some k_ ≠ (u10 : Value).ownBlock ∧ some k_ ≠ ((.slice Ao9530 y529.length co9530) : Value).ownBlock)) (Rz (Kd.R_mono HL524_0.out (fun _ hk => ⟨⟨hk.1.1, hk.2⟩, hk.1.2⟩))) hg (.inl rfl)); have n3_ := am ((by rw [hw]; exact below_set (HB.out) GB22.out : Below w.heap.size w w39)); clear HO_8 HO_10 HL524_0 HB HO531; revert n0_ n1_ n2_ n3_; intro HO_8 HO_10 HL524_0 HB; clear hg hw hp_) | (go_at_call 75; refine calls_of_args (args' := #[.slice (some ⟨go22, 0, none⟩) y532.length co14]) (by first | (rw [show y532.length = x8_2.length from (Kd.S_reads' HO_8.out).1.symm] <;> rfl) | rfl) ?_; (with_reducible refine (impl_placed.calls k2 _ _ y532 false _ ?side1 ?side2 A23.out).mono ?_); (case side1 => exact Cz ((Kd.S_reads' HO_8.out).2.2)); (case side2 => rw [show y532.length = x8_2.length from (Kd.S_reads' HO_8.out).1.symm]; exact (Kd.S_reads' HO_8.out).2.1); rintro e w40 ⟨rfl, hb⟩; have n0_ := am (Kd.S_below (by (with_reducible repeat (first | apply Kd.S_alloc | apply Kd.S_drewN | apply Kd.S_drew)); exact HO_8.out) hb); have n1_ := Rb HO_10 hb; have n2_ := Rb HL524_0 hb; have n3_ := Bb HB hb; clear HO_8 HO_10 HL524_0 HB; revert n0_ n1_ n2_ n3_; intro HO_8 HO_10 HL524_0 HB; (try clear hb); (try clear hb2); (try clear hk); (try clear hi)) | ((with_reducible refine gate_dst (N := 64) rfl ?_); refine Kd.R_lit (Kd.int .i64) _ 3 ?hg (N := 64) ?hd (xs := ([ji21, ji21] : List Int)) (inner := [.int .i64 ji21, .int .i64 ji21]) (ok := fun _ => True) (okp := fun _ => True) ?hr ?hp (fun _ hk => hk) trivial (Below.refl _ _) (Nat.le_refl _) (by simp) ?_; (case hd => rfl); (case hg => rfl); (case hr => first | (go_simp; done) | (go_simp; rfl)); (case hp => exact (Reps.one (show Kd.M (Kd.int .i64) _ _ _ ji21 [.int .i64 ji21] from rfl) (Reps.one (show Kd.M (Kd.int .i64) _ _ _ ji21 [.int .i64 ji21] from rfl) (Reps.none _ _)))); intro v540 w41 ho42 hb hg_ hnew_; clear hg_ hnew_; (first | rw [← Ny539.out] at ho42 | (simp only [Int.reduceToNat] at ho42; rw [← Ny539.out] at ho42)); have n0_ := am (Kd.S_elder' (by (with_reducible repeat (first | apply Kd.S_alloc | apply Kd.S_drewN | apply Kd.S_drew)); exact HO_8.out) (Kd.R_base ho42) hb); have n1_ := Re HO_10 (Kd.R_base ho42) hb; have n2_ := Re HL524_0 (Kd.R_base ho42) hb; have n3_ := Rl (Kd.R_new' (Kd.R_new' ho42 (Kd.R_lt (Rz HO_10.out))) (Kd.R_lt (Rz HL524_0.out))) HB; have n4_ := Bb HB hb; clear HO_8 HO_10 HL524_0 HB; revert n0_ n1_ n2_ n3_ n4_; intro HO_8 HO_10 HL524_0 HO541 HB; clear hb ho42; obtain ⟨Ao9540, co9540, eo9540⟩ := Kd.R_slice HO541.out; subst eo9540; have p33 : 0 ≤ (x32_2 : Int) := dT; have q33 : (x32_2 : Int) < ((x8_2.length : Int) : Int) := dT; obtain ⟨_, ce33, hcl33, hM33, hcc33, hfr33, _, _⟩ := Kd.S_elem HO_8.out [] (x32_2 : Int) p33 q33; obtain ⟨ve33_0, rfl, ge33_0⟩ := hM33; have hx33_0 := hcc33 0 _ rfl; have hf33_0 := hfr33 0; (try simp only [show ((Kd.slice 3 (Kd.int .i64))).sz = 1 from rfl, Nat.mul_one, Nat.add_zero] at hx33_0); (try simp only [show ((Kd.slice 3 (Kd.int .i64))).sz = 1 from rfl, Nat.mul_one, Nat.add_zero] at hf33_0); clear hcl33 hcc33 hfr33; (try clear hM33); replace p33 := eq_true p33; replace q33 := eq_true q33; have HX43 := am (show Kd.S (Kd.slice 3 (Kd.int .i64)) 31 w41 w.heap.size (fun k_ => ((fun k_ => some k_ ≠ (u10 : Value).ownBlock)) k_ ∧ ¬ ((fun k_ => some k_ = ((.slice Ao9540 y539.length co9540) : Value).ownBlock)) k_) (.slice (some ⟨go22, 0, none⟩) x8_2.length co14) y532 from (by (with_reducible repeat (first | apply Kd.S_alloc | apply Kd.S_drewN | apply Kd.S_drew)); exact Kd.S_mono HO_8.out (fun k_ hk => ⟨hk.1, fun e_ => hk.2 e_⟩))); obtain ⟨oki43, ce43, hcl43, hM43, hcc43, hfr43, hoki43, hH43⟩ := Kd.S_elem HX43.out [] (x32_2 : Int) (dT) (by have h_ : (x32_2 : Int) < ((x8_2.length : Int) : Int) := dT; first | exact h_ | (have e_ := (Kd.S_reads' HO_8.out).1; omega) | simpa using h_); obtain ⟨ve43_0, rfl, ge43_0⟩ := hM43; have HP43 := Kd.S_seg hH43 (dT) (by have h_ : (x32_2 : Int) < ((x8_2.length : Int) : Int) := dT; first | exact h_ | (have e_ := (Kd.S_reads' HO_8.out).1; omega) | simpa using h_) (seg := [(.slice Ao9540 y539.length co9540)]) (j := 0) (show 1 ≤ 1 from by decide) (x' := y539) (Kd.M_row (Kd.R_mono (Kd.R_tight rfl (Kd.R_mono (ok' := fun k_ => ((fun k_ => some k_ ≠ (u10 : Value).ownBlock)) k_ ∧ k_ ≠ go22) (Kd.R_apart' (HO541.out) (Kd.S_typed HO_8.out) (by decide)) (fun k_ hk => ⟨hk.1.1.2, fun e_ => (hk.2) (by rw [e_]; rfl)⟩))) (fun _ h_ => Or.inr (h_)))) (fun _ hk => hk) (fun k_ hk_ => ((Kd.R_mono (ok' := fun k_ => ((fun k_ => some k_ ≠ (u10 : Value).ownBlock)) k_ ∧ k_ ≠ go22) (Kd.R_apart' (HO541.out) (Kd.S_typed HO_8.out) (by decide)) (fun k_ hk => ⟨hk.1.1.2, fun e_ => (hk.2) (by rw [e_]; rfl)⟩))).1 k_ hk_.symm); have hx43_0 := hcc43 0 _ rfl; (try simp only [show ((Kd.slice 3 (Kd.int .i64))).sz = 1 from rfl, Nat.mul_one, Nat.add_zero] at hx43_0); have hf43_0 := hfr43 0; (try simp only [show ((Kd.slice 3 (Kd.int .i64))).sz = 1 from rfl, Nat.mul_one, Nat.add_zero] at hf43_0); clear hcl43 hcc43 hfr43 hoki43 hH43; (try clear hM43); (try simp only [show ((Kd.slice 3 (Kd.int .i64))).sz = 1 from rfl, Nat.mul_one, Nat.add_zero] at HP43)) | ((with_reducible refine gate_store (t := 31) (p := 65) rfl ?_); (try (rw [drewN_self w41]; generalize hq_ : World.drewN w41 _ = w41; have n0_ := am (Kd.S_at hq_ HO_8.out); have n1_ := am (Kd.R_at hq_ HO_10.out); have n2_ := am (Kd.R_at hq_ HL524_0.out); have n3_ := am (below_at hq_ HB.out); clear hq_ HO_8 HO_10 HL524_0 HB; revert n0_ n1_ n2_ n3_; intro HO_8 HO_10 HL524_0 HB; (try (have HX43 := am (show Kd.S (Kd.slice 3 (Kd.int .i64)) 31 w41 w.heap.size (fun k_ => ((fun k_ => some k_ ≠ (u10 : Value).ownBlock)) k_ ∧ ¬ ((fun k_ => some k_ = ((.slice Ao9540 y539.length co9540) : Value).ownBlock)) k_) (.slice (some ⟨go22, 0, none⟩) x8_2.length co14) y532 from (by (with_reducible repeat (first | apply Kd.S_alloc | apply Kd.S_drewN | apply Kd.S_drew)); exact Kd.S_mono HO_8.out (fun k_ hk => ⟨hk.1, fun e_ => hk.2 e_⟩))))); (try (obtain ⟨oki43, ce43, hcl43, hM43, hcc43, hfr43, hoki43, hH43⟩ := Kd.S_elem HX43.out [] (x32_2 : Int) (dT) (by have h_ : (x32_2 : Int) < ((x8_2.length : Int) : Int) := dT; first | exact h_ | (have e_ := (Kd.S_reads' HO_8.out).1; omega) | simpa using h_))); (try (obtain ⟨ve43_0, rfl, ge43_0⟩ := hM43)); (try (have HP43 := Kd.S_seg hH43 (dT) (by have h_ : (x32_2 : Int) < ((x8_2.length : Int) : Int) := dT; first | exact h_ | (have e_ := (Kd.S_reads' HO_8.out).1; omega) | simpa using h_) (seg := [(.slice Ao9540 y539.length co9540)]) (j := 0) (show 1 ≤ 1 from by decide) (x' := y539) (Kd.M_row (Kd.R_mono (Kd.R_tight rfl (Kd.R_mono (ok' := fun k_ => ((fun k_ => some k_ ≠ (u10 : Value).ownBlock)) k_ ∧ k_ ≠ go22) (Kd.R_apart' (HO541.out) (Kd.S_typed HO_8.out) (by decide)) (fun k_ hk => ⟨hk.1.1.2, fun e_ => (hk.2) (by rw [e_]; rfl)⟩))) (fun _ h_ => Or.inr (h_)))) (fun _ hk => hk) (fun k_ hk_ => ((Kd.R_mono (ok' := fun k_ => ((fun k_ => some k_ ≠ (u10 : Value).ownBlock)) k_ ∧ k_ ≠ go22) (Kd.R_apart' (HO541.out) (Kd.S_typed HO_8.out) (by decide)) (fun k_ hk => ⟨hk.1.1.2, fun e_ => (hk.2) (by rw [e_]; rfl)⟩))).1 k_ hk_.symm))); (try (have hx43_0 := hcc43 0 _ rfl)); (try (try simp only [show ((Kd.slice 3 (Kd.int .i64))).sz = 1 from rfl, Nat.mul_one, Nat.add_zero] at hx43_0)); (try (have hf43_0 := hfr43 0)); (try (try simp only [show ((Kd.slice 3 (Kd.int .i64))).sz = 1 from rfl, Nat.mul_one, Nat.add_zero] at hf43_0)); (try (clear hcl43 hcc43 hfr43 hoki43 hH43; (try clear hM43))); (try (try simp only [show ((Kd.slice 3 (Kd.int .i64))).sz = 1 from rfl, Nat.mul_one, Nat.add_zero] at HP43)))); refine store_event (t := 31) (p := 65) (v := ?vo_w44) (w1 := (w41.setCell ⟨go22, (x32_2 : Int).toNat, none⟩ ((.slice Ao9540 y539.length co9540)))) ?hg ?ho ?hn ?hr ?_; (case ho => rfl); (case hg => rfl); (case hn => rfl); (case hr => first | (go_simp; done) | (go_simp; rfl)); intro w44 hw; have hg : w41.grownBy w44 (some go22) := (by rw [hw]; exact HP43.2); have hp_ : Kd.S (Kd.slice 3 (Kd.int .i64)) 31 w44 w.heap.size (fun k_ => some k_ ≠ (u10 : Value).ownBlock) (.slice (some ⟨go22, 0, none⟩) x8_2.length co14) y542 := (by rw [hw, Ny542.out]; exact HP43.1); clear HP43; have n0_ := am (hp_); have n1_ := am (Kd.R_over' (v := (.slice (some ⟨go22, 0, none⟩) x8_2.length co14)) (Rz HO_10.out) (Kd.S_typed HO_8.out) (by decide) hg); have n2_ := am (Kd.R_after (v := (.slice (some ⟨go22, 0, none⟩) x8_2.length co14)) (v1 := (.slice (some ⟨go22, 0, none⟩) x8_2.length co14)) (ok := (fun k_ => some k_ ≠ (u10 : Value).ownBlock ∧ some k_ ≠ ((.slice Ao9540 y539.length co9540) : Value).ownBlock)) (Rz (Kd.R_mono HL524_0.out (fun _ hk => ⟨⟨hk.1.1.1, hk.2⟩, hk.1.2⟩))) hg (.inl rfl)); have n3_ := am ((by rw [hw]; exact below_set (HB.out) GB22.out : Below w.heap.size w w44)); clear HO_8 HO_10 HL524_0 HB HO541; revert n0_ n1_ n2_ n3_; intro HO_8 HO_10 HL524_0 HB; clear hg hw hp_; have p543 : 0 ≤ (x32_2 : Int) := dT; have q543 : x32_2 < (y542.length : Int) := (by have h_ : (x32_2 : Int) < ((x8_2.length : Int) : Int) := dT; first | (have e_ := (Kd.S_reads' HO_8.out).1; omega) | simpa only [Ny532.out, Ny542.out, List.length_set] using h_); have ql543 : ((x32_2 : Int) < ((x8_2.length : Int) : Int)) = True := eq_true (dT); obtain ⟨ad543, A543_0, c543_0, e543, hx543_0, hl543_0, hi543_0⟩ := at_L3 (Kd.S_reads' HO_8.out).2.2 x32_2 p543 q543; obtain rfl : (⟨go22, 0, none⟩ : Addr) = ad543 := (by injection e543); obtain ⟨ce543, hce543, hMe543, hcc543⟩ := Kd.S_get HO_8.out [] x32_2 p543 (by first | exact q543 | exact dT | (have e_ := (Kd.S_reads' HO_8.out).1; omega)); obtain ⟨ve543_0, rfl, ge543_0⟩ := hMe543; have hv543_0 := hcc543 0 _ rfl; rw [Nat.add_zero, show ((Kd.slice 3 (Kd.int .i64))).sz = 1 from rfl, Nat.mul_one] at hv543_0; replace hv543_0 := Option.some.inj (hv543_0.symm.trans hx543_0); rw [hv543_0] at ge543_0; have HL543_0 := am (show Kd.R (Kd.int .i64) 3 _ _ _ _ (rd_L3 y542 x32_2) from ge543_0); clear hv543_0 ge543_0; clear hcc543 hce543; (first | simp only [add_plain] at hx543_0 | simp only [add_at] at hx543_0 | simp only [Addr.add, Nat.zero_add] at hx543_0 | skip); have HR543_0 := am hi543_0; have HC543_0 := am hl543_0; clear hi543_0 hl543_0; replace p543 := eq_true p543; replace q543 := eq_true q543; have p544 : 0 ≤ (0 : Int) := (by omega); have q544 : 0 < ((rd_L3 y542 x32_2).length : Int) := dT; obtain ⟨ad544, e544, hx544_0⟩ := Kd.at_int (by repeat (first | (with_reducible exact HR543_0.out) | (with_reducible refine Kd.C_alloc ?_ _) | (with_reducible refine Kd.C_drewN ?_ _) | (with_reducible refine Kd.C_drew ?_) | exact HR543_0.out)) 0 p544 q544; cases e544; have qi544 : (0 < (rd_L3 y542 x32_2).length) = True := eq_true (by omega); (try rw [show ((0 : Int)).toNat = 0 from rfl] at hx544_0); (try rw [Addr.add_zero'] at hx544_0); replace p544 := eq_true p544; replace q544 := eq_true q544) | ((with_reducible refine gate_builtin (b := .append) (xs := #[.tmp 66, .tmp 73]) rfl ?_); at_builtin; refine Kd.R_append (Kd.int .i64) (w0 := w) w.heap.size rfl (.tmp 66) (.tmp 73) 31 3 (.int .i64 0) 8 rfl Try.underlying31 info3 rfl (by decide) (by omega) u10 x10_2 (rd (rd_L3 y542 x32_2) 0) [.int .i64 (rd (rd_L3 y542 x32_2) 0)] (fun _ => True) (fun _ => False) rfl rfl ?aP (fun _ hk => hk.elim) ?aF ?aO ?aB ?aS ?aL ?_; (case aP => exact rfl); (case aB => exact (Bz HB.out)); (case aF => exact (fun _ _ => trivial)); (case aO => exact (Rz (Kd.R_mono HO_10.out (fun _ hk => trivial)))); (case aS => exact (below_size (Bz HB.out))); (case aL => have := LMc35.out; omega); intro v546 w45 ho hb hg hat; rw [← Ny545.out] at ho; have n0_ := am (Kd.S_after (ok := (fun _ => True)) (by (with_reducible repeat (first | apply Kd.S_alloc | apply Kd.S_drewN | apply Kd.S_drew)); exact Kd.S_mono HO_8.out (fun _ hk => ⟨trivial, hk⟩)) hg hat); have n1_ := am (Kd.R_after (ok := (fun k_ => some k_ ≠ (.slice (some ⟨go22, 0, none⟩) x8_2.length co14 : Value).ownBlock)) (Rz (Kd.R_mono HL524_0.out (fun _ hk => ⟨hk.2, hk.1.1⟩))) hg hat); have n2_ := am (Kd.R_after (ok := (fun k_ => some k_ ≠ (.slice (some ⟨go22, 0, none⟩) x8_2.length co14 : Value).ownBlock)) (Rz (Kd.R_mono HL543_0.out (fun _ hk => ⟨hk.2, hk.1⟩))) hg hat); have n3_ := am (hb); have n4_ := am (ho); clear HO_8 HL524_0 HL543_0 HB HO_10; revert n0_ n1_ n2_ n3_ n4_; intro HO_8 HL524_0 HL543_0 HB HO547; clear ho hb hg hat))
              repeat (go_quiet (first | ((with_reducible refine gate_dst (N := 55) rfl ?_); refine Kd.R_lit (Kd.int .i64) _ 3 ?hg (N := 55) ?hd (xs := ([ji20, ji20] : List Int)) (inner := [.int .i64 ji20, .int .i64 ji20]) (ok := fun _ => True) (okp := fun _ => True) ?hr ?hp (fun _ hk => hk) trivial (Below.refl _ _) (Nat.le_refl _) (by simp) ?_; (case hd => rfl); (case hg => rfl); (case hr => first | (go_simp; done) | (go_simp; rfl)); (case hp => exact (Reps.one (show Kd.M (Kd.int .i64) _ _ _ ji20 [.int .i64 ji20] from rfl) (Reps.one (show Kd.M (Kd.int .i64) _ _ _ ji20 [.int .i64 ji20] from rfl) (Reps.none _ _)))); intro v530 w36 ho37 hb hg_ hnew_; clear hg_ hnew_; (first | rw [← Ny529.out] at ho37 | (simp only [Int.reduceToNat] at ho37; rw [← Ny529.out] at ho37)); have n0_ := am (Kd.S_elder' (by (with_reducible repeat (first | apply Kd.S_alloc | apply Kd.S_drewN | apply Kd.S_drew)); exact HO_8.out) (Kd.R_base ho37) hb); have n1_ := Re HO_10 (Kd.R_base ho37) hb; have n2_ := Re HL524_0 (Kd.R_base ho37) hb; have n3_ := Rl (Kd.R_new' (Kd.R_new' ho37 (Kd.R_lt (Rz HO_10.out))) (Kd.R_lt (Rz HL524_0.out))) HB; have n4_ := am (Kd.C_below (by repeat (first | (with_reducible exact HR524_0.out) | (with_reducible refine Kd.C_alloc ?_ _) | (with_reducible refine Kd.C_drewN ?_ _) | (with_reducible refine Kd.C_drew ?_) | exact HR524_0.out)) hb); have n5_ := Bb HB hb; clear HO_8 HO_10 HL524_0 HR524_0 HB; revert n0_ n1_ n2_ n3_ n4_ n5_; intro HO_8 HO_10 HL524_0 HO531 HR524_0 HB; clear hb ho37; obtain ⟨Ao9530, co9530, eo9530⟩ := Kd.R_slice HO531.out; subst eo9530; have p22 : 0 ≤ (x32_2 : Int) := dT; have q22 : (x32_2 : Int) < ((x8_2.length : Int) : Int) := dT; obtain ⟨go22, co22, eo22, gb22, gl22, cl22, HG22⟩ := Kd.S_form HO_8.out (by omega); (first | cases eo22 | (injection eo22 with ea_ en_ ec_; (first | subst ea_ | (injection ea_ with ea_; subst ea_)); subst ec_; clear en_)); have GB22 := am gb22; have GG22 := am HG22; clear gb22 gl22 HG22; (first | simp only [add_plain] at hx524_0 | skip); obtain ⟨_, ce22, hcl22, hM22, hcc22, hfr22, _, _⟩ := Kd.S_elem HO_8.out [] (x32_2 : Int) p22 q22; obtain ⟨ve22_0, rfl, ge22_0⟩ := hM22; have hx22_0 := hcc22 0 _ rfl; have hf22_0 := hfr22 0; (try simp only [show ((Kd.slice 3 (Kd.int .i64))).sz = 1 from rfl, Nat.mul_one, Nat.add_zero] at hx22_0); (try simp only [show ((Kd.slice 3 (Kd.int .i64))).sz = 1 from rfl, Nat.mul_one, Nat.add_zero] at hf22_0); clear hcl22 hcc22 hfr22; (try clear hM22); replace p22 := eq_true p22; replace q22 := eq_true q22; have HX38 := am (show Kd.S (Kd.slice 3 (Kd.int .i64)) 31 w36 w.heap.size (fun k_ => ((fun k_ => some k_ ≠ (u10 : Value).ownBlock)) k_ ∧ ¬ ((fun k_ => some k_ = ((.slice Ao9530 y529.length co9530) : Value).ownBlock)) k_) (.slice (some ⟨go22, 0, none⟩) x8_2.length co14) x8_2 from (by (with_reducible repeat (first | apply Kd.S_alloc | apply Kd.S_drewN | apply Kd.S_drew)); exact Kd.S_mono HO_8.out (fun k_ hk => ⟨hk.1, fun e_ => hk.2 e_⟩))); obtain ⟨oki38, ce38, hcl38, hM38, hcc38, hfr38, hoki38, hH38⟩ := Kd.S_elem HX38.out [] (x32_2 : Int) (dT) (by have h_ : (x32_2 : Int) < ((x8_2.length : Int) : Int) := dT; first | exact h_ | (have e_ := (Kd.S_reads' HO_8.out).1; omega) | simpa using h_); obtain ⟨ve38_0, rfl, ge38_0⟩ := hM38; have HP38 := Kd.S_seg hH38 (dT) (by have h_ : (x32_2 : Int) < ((x8_2.length : Int) : Int) := dT; first | exact h_ | (have e_ := (Kd.S_reads' HO_8.out).1; omega) | simpa using h_) (seg := [(.slice Ao9530 y529.length co9530)]) (j := 0) (show 1 ≤ 1 from by decide) (x' := y529) (Kd.M_row (Kd.R_mono (Kd.R_tight rfl (Kd.R_mono (ok' := fun k_ => ((fun k_ => some k_ ≠ (u10 : Value).ownBlock)) k_ ∧ k_ ≠ go22) (Kd.R_apart' (HO531.out) (Kd.S_typed HO_8.out) (by decide)) (fun k_ hk => ⟨hk.1.1.2, fun e_ => (hk.2) (by rw [e_]; rfl)⟩))) (fun _ h_ => Or.inr (h_)))) (fun _ hk => hk) (fun k_ hk_ => ((Kd.R_mono (ok' := fun k_ => ((fun k_ => some k_ ≠ (u10 : Value).ownBlock)) k_ ∧ k_ ≠ go22) (Kd.R_apart' (HO531.out) (Kd.S_typed HO_8.out) (by decide)) (fun k_ hk => ⟨hk.1.1.2, fun e_ => (hk.2) (by rw [e_]; rfl)⟩))).1 k_ hk_.symm); have hx38_0 := hcc38 0 _ rfl; (try simp only [show ((Kd.slice 3 (Kd.int .i64))).sz = 1 from rfl, Nat.mul_one, Nat.add_zero] at hx38_0); have hf38_0 := hfr38 0; (try simp only [show ((Kd.slice 3 (Kd.int .i64))).sz = 1 from rfl, Nat.mul_one, Nat.add_zero] at hf38_0); clear hcl38 hcc38 hfr38 hoki38 hH38; (try clear hM38); (try simp only [show ((Kd.slice 3 (Kd.int .i64))).sz = 1 from rfl, Nat.mul_one, Nat.add_zero] at HP38)) | ((with_reducible refine gate_store (t := 31) (p := 56) rfl ?_); (try (rw [drewN_self w36]; generalize hq_ : World.drewN w36 _ = w36; have n0_ := am (Kd.S_at hq_ HO_8.out); have n1_ := am (Kd.R_at hq_ HO_10.out); have n2_ := am (Kd.R_at hq_ HL524_0.out); have n3_ := am (below_at hq_ HB.out); clear hq_ HO_8 HO_10 HL524_0 HB; revert n0_ n1_ n2_ n3_; intro HO_8 HO_10 HL524_0 HB; (try (have HX38 := am (show Kd.S (Kd.slice 3 (Kd.int .i64)) 31 w36 w.heap.size (fun k_ => ((fun k_ => some k_ ≠ (u10 : Value).ownBlock)) k_ ∧ ¬ ((fun k_ => some k_ = ((.slice Ao9530 y529.length co9530) : Value).ownBlock)) k_) (.slice (some ⟨go22, 0, none⟩) x8_2.length co14) x8_2 from (by (with_reducible repeat (first | apply Kd.S_alloc | apply Kd.S_drewN | apply Kd.S_drew)); exact Kd.S_mono HO_8.out (fun k_ hk => ⟨hk.1, fun e_ => hk.2 e_⟩))))); (try (obtain ⟨oki38, ce38, hcl38, hM38, hcc38, hfr38, hoki38, hH38⟩ := Kd.S_elem HX38.out [] (x32_2 : Int) (dT) (by have h_ : (x32_2 : Int) < ((x8_2.length : Int) : Int) := dT; first | exact h_ | (have e_ := (Kd.S_reads' HO_8.out).1; omega) | simpa using h_))); (try (obtain ⟨ve38_0, rfl, ge38_0⟩ := hM38)); (try (have HP38 := Kd.S_seg hH38 (dT) (by have h_ : (x32_2 : Int) < ((x8_2.length : Int) : Int) := dT; first | exact h_ | (have e_ := (Kd.S_reads' HO_8.out).1; omega) | simpa using h_) (seg := [(.slice Ao9530 y529.length co9530)]) (j := 0) (show 1 ≤ 1 from by decide) (x' := y529) (Kd.M_row (Kd.R_mono (Kd.R_tight rfl (Kd.R_mono (ok' := fun k_ => ((fun k_ => some k_ ≠ (u10 : Value).ownBlock)) k_ ∧ k_ ≠ go22) (Kd.R_apart' (HO531.out) (Kd.S_typed HO_8.out) (by decide)) (fun k_ hk => ⟨hk.1.1.2, fun e_ => (hk.2) (by rw [e_]; rfl)⟩))) (fun _ h_ => Or.inr (h_)))) (fun _ hk => hk) (fun k_ hk_ => ((Kd.R_mono (ok' := fun k_ => ((fun k_ => some k_ ≠ (u10 : Value).ownBlock)) k_ ∧ k_ ≠ go22) (Kd.R_apart' (HO531.out) (Kd.S_typed HO_8.out) (by decide)) (fun k_ hk => ⟨hk.1.1.2, fun e_ => (hk.2) (by rw [e_]; rfl)⟩))).1 k_ hk_.symm))); (try (have hx38_0 := hcc38 0 _ rfl)); (try (try simp only [show ((Kd.slice 3 (Kd.int .i64))).sz = 1 from rfl, Nat.mul_one, Nat.add_zero] at hx38_0)); (try (have hf38_0 := hfr38 0)); (try (try simp only [show ((Kd.slice 3 (Kd.int .i64))).sz = 1 from rfl, Nat.mul_one, Nat.add_zero] at hf38_0)); (try (clear hcl38 hcc38 hfr38 hoki38 hH38; (try clear hM38))); (try (try simp only [show ((Kd.slice 3 (Kd.int .i64))).sz = 1 from rfl, Nat.mul_one, Nat.add_zero] at HP38)))); refine store_event (t := 31) (p := 56) (v := ?vo_w39) (w1 := (w36.setCell ⟨go22, (x32_2 : Int).toNat, none⟩ ((.slice Ao9530 y529.length co9530)))) ?hg ?ho ?hn ?hr ?_; (case ho => rfl); (case hg => rfl); (case hn => rfl); (case hr => first | (go_simp; done) | (go_simp; rfl)); intro w39 hw; have hg : w36.grownBy w39 (some go22) := (by rw [hw]; exact HP38.2); have hp_ : Kd.S (Kd.slice 3 (Kd.int .i64)) 31 w39 w.heap.size (fun k_ => some k_ ≠ (u10 : Value).ownBlock) (.slice (some ⟨go22, 0, none⟩) x8_2.length co14) y532 := (by rw [hw, Ny532.out]; exact HP38.1); clear HP38; have n0_ := am (hp_); have n1_ := am (Kd.R_over' (v := (.slice (some ⟨go22, 0, none⟩) x8_2.length co14)) (Rz HO_10.out) (Kd.S_typed HO_8.out) (by decide) hg); have n2_ := am (Kd.R_after (v := (.slice (some ⟨go22, 0, none⟩) x8_2.length co14)) (v1 := (.slice (some ⟨go22, 0, none⟩) x8_2.length co14)) (ok := (fun k_ => some k_ ≠ (u10 : Value).ownBlock ∧ some k_ ≠ ((.slice Ao9530 y529.length co9530) : Value).ownBlock)) (Rz (Kd.R_mono HL524_0.out (fun _ hk => ⟨⟨hk.1.1, hk.2⟩, hk.1.2⟩))) hg (.inl rfl)); have n3_ := am ((by rw [hw]; exact below_set (HB.out) GB22.out : Below w.heap.size w w39)); clear HO_8 HO_10 HL524_0 HB HO531; revert n0_ n1_ n2_ n3_; intro HO_8 HO_10 HL524_0 HB; clear hg hw hp_) | (go_at_call 75; refine calls_of_args (args' := #[.slice (some ⟨go22, 0, none⟩) y532.length co14]) (by first | (rw [show y532.length = x8_2.length from (Kd.S_reads' HO_8.out).1.symm] <;> rfl) | rfl) ?_; (with_reducible refine (impl_placed.calls k2 _ _ y532 false _ ?side1 ?side2 A23.out).mono ?_); (case side1 => exact Cz ((Kd.S_reads' HO_8.out).2.2)); (case side2 => rw [show y532.length = x8_2.length from (Kd.S_reads' HO_8.out).1.symm]; exact (Kd.S_reads' HO_8.out).2.1); rintro e w40 ⟨rfl, hb⟩; have n0_ := am (Kd.S_below (by (with_reducible repeat (first | apply Kd.S_alloc | apply Kd.S_drewN | apply Kd.S_drew)); exact HO_8.out) hb); have n1_ := Rb HO_10 hb; have n2_ := Rb HL524_0 hb; have n3_ := Bb HB hb; clear HO_8 HO_10 HL524_0 HB; revert n0_ n1_ n2_ n3_; intro HO_8 HO_10 HL524_0 HB; (try clear hb); (try clear hb2); (try clear hk); (try clear hi)) | ((with_reducible refine gate_dst (N := 64) rfl ?_); refine Kd.R_lit (Kd.int .i64) _ 3 ?hg (N := 64) ?hd (xs := ([ji21, ji21] : List Int)) (inner := [.int .i64 ji21, .int .i64 ji21]) (ok := fun _ => True) (okp := fun _ => True) ?hr ?hp (fun _ hk => hk) trivial (Below.refl _ _) (Nat.le_refl _) (by simp) ?_; (case hd => rfl); (case hg => rfl); (case hr => first | (go_simp; done) | (go_simp; rfl)); (case hp => exact (Reps.one (show Kd.M (Kd.int .i64) _ _ _ ji21 [.int .i64 ji21] from rfl) (Reps.one (show Kd.M (Kd.int .i64) _ _ _ ji21 [.int .i64 ji21] from rfl) (Reps.none _ _)))); intro v540 w41 ho42 hb hg_ hnew_; clear hg_ hnew_; (first | rw [← Ny539.out] at ho42 | (simp only [Int.reduceToNat] at ho42; rw [← Ny539.out] at ho42)); have n0_ := am (Kd.S_elder' (by (with_reducible repeat (first | apply Kd.S_alloc | apply Kd.S_drewN | apply Kd.S_drew)); exact HO_8.out) (Kd.R_base ho42) hb); have n1_ := Re HO_10 (Kd.R_base ho42) hb; have n2_ := Re HL524_0 (Kd.R_base ho42) hb; have n3_ := Rl (Kd.R_new' (Kd.R_new' ho42 (Kd.R_lt (Rz HO_10.out))) (Kd.R_lt (Rz HL524_0.out))) HB; have n4_ := Bb HB hb; clear HO_8 HO_10 HL524_0 HB; revert n0_ n1_ n2_ n3_ n4_; intro HO_8 HO_10 HL524_0 HO541 HB; clear hb ho42; obtain ⟨Ao9540, co9540, eo9540⟩ := Kd.R_slice HO541.out; subst eo9540; have p33 : 0 ≤ (x32_2 : Int) := dT; have q33 : (x32_2 : Int) < ((x8_2.length : Int) : Int) := dT; obtain ⟨_, ce33, hcl33, hM33, hcc33, hfr33, _, _⟩ := Kd.S_elem HO_8.out [] (x32_2 : Int) p33 q33; obtain ⟨ve33_0, rfl, ge33_0⟩ := hM33; have hx33_0 := hcc33 0 _ rfl; have hf33_0 := hfr33 0; (try simp only [show ((Kd.slice 3 (Kd.int .i64))).sz = 1 from rfl, Nat.mul_one, Nat.add_zero] at hx33_0); (try simp only [show ((Kd.slice 3 (Kd.int .i64))).sz = 1 from rfl, Nat.mul_one, Nat.add_zero] at hf33_0); clear hcl33 hcc33 hfr33; (try clear hM33); replace p33 := eq_true p33; replace q33 := eq_true q33; have HX43 := am (show Kd.S (Kd.slice 3 (Kd.int .i64)) 31 w41 w.heap.size (fun k_ => ((fun k_ => some k_ ≠ (u10 : Value).ownBlock)) k_ ∧ ¬ ((fun k_ => some k_ = ((.slice Ao9540 y539.length co9540) : Value).ownBlock)) k_) (.slice (some ⟨go22, 0, none⟩) x8_2.length co14) y532 from (by (with_reducible repeat (first | apply Kd.S_alloc | apply Kd.S_drewN | apply Kd.S_drew)); exact Kd.S_mono HO_8.out (fun k_ hk => ⟨hk.1, fun e_ => hk.2 e_⟩))); obtain ⟨oki43, ce43, hcl43, hM43, hcc43, hfr43, hoki43, hH43⟩ := Kd.S_elem HX43.out [] (x32_2 : Int) (dT) (by have h_ : (x32_2 : Int) < ((x8_2.length : Int) : Int) := dT; first | exact h_ | (have e_ := (Kd.S_reads' HO_8.out).1; omega) | simpa using h_); obtain ⟨ve43_0, rfl, ge43_0⟩ := hM43; have HP43 := Kd.S_seg hH43 (dT) (by have h_ : (x32_2 : Int) < ((x8_2.length : Int) : Int) := dT; first | exact h_ | (have e_ := (Kd.S_reads' HO_8.out).1; omega) | simpa using h_) (seg := [(.slice Ao9540 y539.length co9540)]) (j := 0) (show 1 ≤ 1 from by decide) (x' := y539) (Kd.M_row (Kd.R_mono (Kd.R_tight rfl (Kd.R_mono (ok' := fun k_ => ((fun k_ => some k_ ≠ (u10 : Value).ownBlock)) k_ ∧ k_ ≠ go22) (Kd.R_apart' (HO541.out) (Kd.S_typed HO_8.out) (by decide)) (fun k_ hk => ⟨hk.1.1.2, fun e_ => (hk.2) (by rw [e_]; rfl)⟩))) (fun _ h_ => Or.inr (h_)))) (fun _ hk => hk) (fun k_ hk_ => ((Kd.R_mono (ok' := fun k_ => ((fun k_ => some k_ ≠ (u10 : Value).ownBlock)) k_ ∧ k_ ≠ go22) (Kd.R_apart' (HO541.out) (Kd.S_typed HO_8.out) (by decide)) (fun k_ hk => ⟨hk.1.1.2, fun e_ => (hk.2) (by rw [e_]; rfl)⟩))).1 k_ hk_.symm); have hx43_0 := hcc43 0 _ rfl; (try simp only [show ((Kd.slice 3 (Kd.int .i64))).sz = 1 from rfl, Nat.mul_one, Nat.add_zero] at hx43_0); have hf43_0 := hfr43 0; (try simp only [show ((Kd.slice 3 (Kd.int .i64))).sz = 1 from rfl, Nat.mul_one, Nat.add_zero] at hf43_0); clear hcl43 hcc43 hfr43 hoki43 hH43; (try clear hM43); (try simp only [show ((Kd.slice 3 (Kd.int .i64))).sz = 1 from rfl, Nat.mul_one, Nat.add_zero] at HP43)) | ((with_reducible refine gate_store (t := 31) (p := 65) rfl ?_); (try (rw [drewN_self w41]; generalize hq_ : World.drewN w41 _ = w41; have n0_ := am (Kd.S_at hq_ HO_8.out); have n1_ := am (Kd.R_at hq_ HO_10.out); have n2_ := am (Kd.R_at hq_ HL524_0.out); have n3_ := am (below_at hq_ HB.out); clear hq_ HO_8 HO_10 HL524_0 HB; revert n0_ n1_ n2_ n3_; intro HO_8 HO_10 HL524_0 HB; (try (have HX43 := am (show Kd.S (Kd.slice 3 (Kd.int .i64)) 31 w41 w.heap.size (fun k_ => ((fun k_ => some k_ ≠ (u10 : Value).ownBlock)) k_ ∧ ¬ ((fun k_ => some k_ = ((.slice Ao9540 y539.length co9540) : Value).ownBlock)) k_) (.slice (some ⟨go22, 0, none⟩) x8_2.length co14) y532 from (by (with_reducible repeat (first | apply Kd.S_alloc | apply Kd.S_drewN | apply Kd.S_drew)); exact Kd.S_mono HO_8.out (fun k_ hk => ⟨hk.1, fun e_ => hk.2 e_⟩))))); (try (obtain ⟨oki43, ce43, hcl43, hM43, hcc43, hfr43, hoki43, hH43⟩ := Kd.S_elem HX43.out [] (x32_2 : Int) (dT) (by have h_ : (x32_2 : Int) < ((x8_2.length : Int) : Int) := dT; first | exact h_ | (have e_ := (Kd.S_reads' HO_8.out).1; omega) | simpa using h_))); (try (obtain ⟨ve43_0, rfl, ge43_0⟩ := hM43)); (try (have HP43 := Kd.S_seg hH43 (dT) (by have h_ : (x32_2 : Int) < ((x8_2.length : Int) : Int) := dT; first | exact h_ | (have e_ := (Kd.S_reads' HO_8.out).1; omega) | simpa using h_) (seg := [(.slice Ao9540 y539.length co9540)]) (j := 0) (show 1 ≤ 1 from by decide) (x' := y539) (Kd.M_row (Kd.R_mono (Kd.R_tight rfl (Kd.R_mono (ok' := fun k_ => ((fun k_ => some k_ ≠ (u10 : Value).ownBlock)) k_ ∧ k_ ≠ go22) (Kd.R_apart' (HO541.out) (Kd.S_typed HO_8.out) (by decide)) (fun k_ hk => ⟨hk.1.1.2, fun e_ => (hk.2) (by rw [e_]; rfl)⟩))) (fun _ h_ => Or.inr (h_)))) (fun _ hk => hk) (fun k_ hk_ => ((Kd.R_mono (ok' := fun k_ => ((fun k_ => some k_ ≠ (u10 : Value).ownBlock)) k_ ∧ k_ ≠ go22) (Kd.R_apart' (HO541.out) (Kd.S_typed HO_8.out) (by decide)) (fun k_ hk => ⟨hk.1.1.2, fun e_ => (hk.2) (by rw [e_]; rfl)⟩))).1 k_ hk_.symm))); (try (have hx43_0 := hcc43 0 _ rfl)); (try (try simp only [show ((Kd.slice 3 (Kd.int .i64))).sz = 1 from rfl, Nat.mul_one, Nat.add_zero] at hx43_0)); (try (have hf43_0 := hfr43 0)); (try (try simp only [show ((Kd.slice 3 (Kd.int .i64))).sz = 1 from rfl, Nat.mul_one, Nat.add_zero] at hf43_0)); (try (clear hcl43 hcc43 hfr43 hoki43 hH43; (try clear hM43))); (try (try simp only [show ((Kd.slice 3 (Kd.int .i64))).sz = 1 from rfl, Nat.mul_one, Nat.add_zero] at HP43)))); refine store_event (t := 31) (p := 65) (v := ?vo_w44) (w1 := (w41.setCell ⟨go22, (x32_2 : Int).toNat, none⟩ ((.slice Ao9540 y539.length co9540)))) ?hg ?ho ?hn ?hr ?_; (case ho => rfl); (case hg => rfl); (case hn => rfl); (case hr => first | (go_simp; done) | (go_simp; rfl)); intro w44 hw; have hg : w41.grownBy w44 (some go22) := (by rw [hw]; exact HP43.2); have hp_ : Kd.S (Kd.slice 3 (Kd.int .i64)) 31 w44 w.heap.size (fun k_ => some k_ ≠ (u10 : Value).ownBlock) (.slice (some ⟨go22, 0, none⟩) x8_2.length co14) y542 := (by rw [hw, Ny542.out]; exact HP43.1); clear HP43; have n0_ := am (hp_); have n1_ := am (Kd.R_over' (v := (.slice (some ⟨go22, 0, none⟩) x8_2.length co14)) (Rz HO_10.out) (Kd.S_typed HO_8.out) (by decide) hg); have n2_ := am (Kd.R_after (v := (.slice (some ⟨go22, 0, none⟩) x8_2.length co14)) (v1 := (.slice (some ⟨go22, 0, none⟩) x8_2.length co14)) (ok := (fun k_ => some k_ ≠ (u10 : Value).ownBlock ∧ some k_ ≠ ((.slice Ao9540 y539.length co9540) : Value).ownBlock)) (Rz (Kd.R_mono HL524_0.out (fun _ hk => ⟨⟨hk.1.1.1, hk.2⟩, hk.1.2⟩))) hg (.inl rfl)); have n3_ := am ((by rw [hw]; exact below_set (HB.out) GB22.out : Below w.heap.size w w44)); clear HO_8 HO_10 HL524_0 HB HO541; revert n0_ n1_ n2_ n3_; intro HO_8 HO_10 HL524_0 HB; clear hg hw hp_; have p543 : 0 ≤ (x32_2 : Int) := dT; have q543 : x32_2 < (y542.length : Int) := (by have h_ : (x32_2 : Int) < ((x8_2.length : Int) : Int) := dT; first | (have e_ := (Kd.S_reads' HO_8.out).1; omega) | simpa only [Ny532.out, Ny542.out, List.length_set] using h_); have ql543 : ((x32_2 : Int) < ((x8_2.length : Int) : Int)) = True := eq_true (dT); obtain ⟨ad543, A543_0, c543_0, e543, hx543_0, hl543_0, hi543_0⟩ := at_L3 (Kd.S_reads' HO_8.out).2.2 x32_2 p543 q543; obtain rfl : (⟨go22, 0, none⟩ : Addr) = ad543 := (by injection e543); obtain ⟨ce543, hce543, hMe543, hcc543⟩ := Kd.S_get HO_8.out [] x32_2 p543 (by first | exact q543 | exact dT | (have e_ := (Kd.S_reads' HO_8.out).1; omega)); obtain ⟨ve543_0, rfl, ge543_0⟩ := hMe543; have hv543_0 := hcc543 0 _ rfl; rw [Nat.add_zero, show ((Kd.slice 3 (Kd.int .i64))).sz = 1 from rfl, Nat.mul_one] at hv543_0; replace hv543_0 := Option.some.inj (hv543_0.symm.trans hx543_0); rw [hv543_0] at ge543_0; have HL543_0 := am (show Kd.R (Kd.int .i64) 3 _ _ _ _ (rd_L3 y542 x32_2) from ge543_0); clear hv543_0 ge543_0; clear hcc543 hce543; (first | simp only [add_plain] at hx543_0 | simp only [add_at] at hx543_0 | simp only [Addr.add, Nat.zero_add] at hx543_0 | skip); have HR543_0 := am hi543_0; have HC543_0 := am hl543_0; clear hi543_0 hl543_0; replace p543 := eq_true p543; replace q543 := eq_true q543; have p544 : 0 ≤ (0 : Int) := (by omega); have q544 : 0 < ((rd_L3 y542 x32_2).length : Int) := dT; obtain ⟨ad544, e544, hx544_0⟩ := Kd.at_int (by repeat (first | (with_reducible exact HR543_0.out) | (with_reducible refine Kd.C_alloc ?_ _) | (with_reducible refine Kd.C_drewN ?_ _) | (with_reducible refine Kd.C_drew ?_) | exact HR543_0.out)) 0 p544 q544; cases e544; have qi544 : (0 < (rd_L3 y542 x32_2).length) = True := eq_true (by omega); (try rw [show ((0 : Int)).toNat = 0 from rfl] at hx544_0); (try rw [Addr.add_zero'] at hx544_0); replace p544 := eq_true p544; replace q544 := eq_true q544) | ((with_reducible refine gate_builtin (b := .append) (xs := #[.tmp 66, .tmp 73]) rfl ?_); at_builtin; refine Kd.R_append (Kd.int .i64) (w0 := w) w.heap.size rfl (.tmp 66) (.tmp 73) 31 3 (.int .i64 0) 8 rfl Try.underlying31 info3 rfl (by decide) (by omega) u10 x10_2 (rd (rd_L3 y542 x32_2) 0) [.int .i64 (rd (rd_L3 y542 x32_2) 0)] (fun _ => True) (fun _ => False) rfl rfl ?aP (fun _ hk => hk.elim) ?aF ?aO ?aB ?aS ?aL ?_; (case aP => exact rfl); (case aB => exact (Bz HB.out)); (case aF => exact (fun _ _ => trivial)); (case aO => exact (Rz (Kd.R_mono HO_10.out (fun _ hk => trivial)))); (case aS => exact (below_size (Bz HB.out))); (case aL => have := LMc35.out; omega); intro v546 w45 ho hb hg hat; rw [← Ny545.out] at ho; have n0_ := am (Kd.S_after (ok := (fun _ => True)) (by (with_reducible repeat (first | apply Kd.S_alloc | apply Kd.S_drewN | apply Kd.S_drew)); exact Kd.S_mono HO_8.out (fun _ hk => ⟨trivial, hk⟩)) hg hat); have n1_ := am (Kd.R_after (ok := (fun k_ => some k_ ≠ (.slice (some ⟨go22, 0, none⟩) x8_2.length co14 : Value).ownBlock)) (Rz (Kd.R_mono HL524_0.out (fun _ hk => ⟨hk.2, hk.1.1⟩))) hg hat); have n2_ := am (Kd.R_after (ok := (fun k_ => some k_ ≠ (.slice (some ⟨go22, 0, none⟩) x8_2.length co14 : Value).ownBlock)) (Rz (Kd.R_mono HL543_0.out (fun _ hk => ⟨hk.2, hk.1⟩))) hg hat); have n3_ := am (hb); have n4_ := am (ho); clear HO_8 HL524_0 HL543_0 HB HO_10; revert n0_ n1_ n2_ n3_ n4_; intro HO_8 HL524_0 HL543_0 HB HO547; clear ho hb hg hat)); try go_wp2_with (first | ((with_reducible refine gate_dst (N := 55) rfl ?_); refine Kd.R_lit (Kd.int .i64) _ 3 ?hg (N := 55) ?hd (xs := ([ji20, ji20] : List Int)) (inner := [.int .i64 ji20, .int .i64 ji20]) (ok := fun _ => True) (okp := fun _ => True) ?hr ?hp (fun _ hk => hk) trivial (Below.refl _ _) (Nat.le_refl _) (by simp) ?_; (case hd => rfl); (case hg => rfl); (case hr => first | (go_simp; done) | (go_simp; rfl)); (case hp => exact (Reps.one (show Kd.M (Kd.int .i64) _ _ _ ji20 [.int .i64 ji20] from rfl) (Reps.one (show Kd.M (Kd.int .i64) _ _ _ ji20 [.int .i64 ji20] from rfl) (Reps.none _ _)))); intro v530 w36 ho37 hb hg_ hnew_; clear hg_ hnew_; (first | rw [← Ny529.out] at ho37 | (simp only [Int.reduceToNat] at ho37; rw [← Ny529.out] at ho37)); have n0_ := am (Kd.S_elder' (by (with_reducible repeat (first | apply Kd.S_alloc | apply Kd.S_drewN | apply Kd.S_drew)); exact HO_8.out) (Kd.R_base ho37) hb); have n1_ := Re HO_10 (Kd.R_base ho37) hb; have n2_ := Re HL524_0 (Kd.R_base ho37) hb; have n3_ := Rl (Kd.R_new' (Kd.R_new' ho37 (Kd.R_lt (Rz HO_10.out))) (Kd.R_lt (Rz HL524_0.out))) HB; have n4_ := am (Kd.C_below (by repeat (first | (with_reducible exact HR524_0.out) | (with_reducible refine Kd.C_alloc ?_ _) | (with_reducible refine Kd.C_drewN ?_ _) | (with_reducible refine Kd.C_drew ?_) | exact HR524_0.out)) hb); have n5_ := Bb HB hb; clear HO_8 HO_10 HL524_0 HR524_0 HB; revert n0_ n1_ n2_ n3_ n4_ n5_; intro HO_8 HO_10 HL524_0 HO531 HR524_0 HB; clear hb ho37; obtain ⟨Ao9530, co9530, eo9530⟩ := Kd.R_slice HO531.out; subst eo9530; have p22 : 0 ≤ (x32_2 : Int) := dT; have q22 : (x32_2 : Int) < ((x8_2.length : Int) : Int) := dT; obtain ⟨go22, co22, eo22, gb22, gl22, cl22, HG22⟩ := Kd.S_form HO_8.out (by omega); (first | cases eo22 | (injection eo22 with ea_ en_ ec_; (first | subst ea_ | (injection ea_ with ea_; subst ea_)); subst ec_; clear en_)); have GB22 := am gb22; have GG22 := am HG22; clear gb22 gl22 HG22; (first | simp only [add_plain] at hx524_0 | skip); obtain ⟨_, ce22, hcl22, hM22, hcc22, hfr22, _, _⟩ := Kd.S_elem HO_8.out [] (x32_2 : Int) p22 q22; obtain ⟨ve22_0, rfl, ge22_0⟩ := hM22; have hx22_0 := hcc22 0 _ rfl; have hf22_0 := hfr22 0; (try simp only [show ((Kd.slice 3 (Kd.int .i64))).sz = 1 from rfl, Nat.mul_one, Nat.add_zero] at hx22_0); (try simp only [show ((Kd.slice 3 (Kd.int .i64))).sz = 1 from rfl, Nat.mul_one, Nat.add_zero] at hf22_0); clear hcl22 hcc22 hfr22; (try clear hM22); replace p22 := eq_true p22; replace q22 := eq_true q22; have HX38 := am (show Kd.S (Kd.slice 3 (Kd.int .i64)) 31 w36 w.heap.size (fun k_ => ((fun k_ => some k_ ≠ (u10 : Value).ownBlock)) k_ ∧ ¬ ((fun k_ => some k_ = ((.slice Ao9530 y529.length co9530) : Value).ownBlock)) k_) (.slice (some ⟨go22, 0, none⟩) x8_2.length co14) x8_2 from (by (with_reducible repeat (first | apply Kd.S_alloc | apply Kd.S_drewN | apply Kd.S_drew)); exact Kd.S_mono HO_8.out (fun k_ hk => ⟨hk.1, fun e_ => hk.2 e_⟩))); obtain ⟨oki38, ce38, hcl38, hM38, hcc38, hfr38, hoki38, hH38⟩ := Kd.S_elem HX38.out [] (x32_2 : Int) (dT) (by have h_ : (x32_2 : Int) < ((x8_2.length : Int) : Int) := dT; first | exact h_ | (have e_ := (Kd.S_reads' HO_8.out).1; omega) | simpa using h_); obtain ⟨ve38_0, rfl, ge38_0⟩ := hM38; have HP38 := Kd.S_seg hH38 (dT) (by have h_ : (x32_2 : Int) < ((x8_2.length : Int) : Int) := dT; first | exact h_ | (have e_ := (Kd.S_reads' HO_8.out).1; omega) | simpa using h_) (seg := [(.slice Ao9530 y529.length co9530)]) (j := 0) (show 1 ≤ 1 from by decide) (x' := y529) (Kd.M_row (Kd.R_mono (Kd.R_tight rfl (Kd.R_mono (ok' := fun k_ => ((fun k_ => some k_ ≠ (u10 : Value).ownBlock)) k_ ∧ k_ ≠ go22) (Kd.R_apart' (HO531.out) (Kd.S_typed HO_8.out) (by decide)) (fun k_ hk => ⟨hk.1.1.2, fun e_ => (hk.2) (by rw [e_]; rfl)⟩))) (fun _ h_ => Or.inr (h_)))) (fun _ hk => hk) (fun k_ hk_ => ((Kd.R_mono (ok' := fun k_ => ((fun k_ => some k_ ≠ (u10 : Value).ownBlock)) k_ ∧ k_ ≠ go22) (Kd.R_apart' (HO531.out) (Kd.S_typed HO_8.out) (by decide)) (fun k_ hk => ⟨hk.1.1.2, fun e_ => (hk.2) (by rw [e_]; rfl)⟩))).1 k_ hk_.symm); have hx38_0 := hcc38 0 _ rfl; (try simp only [show ((Kd.slice 3 (Kd.int .i64))).sz = 1 from rfl, Nat.mul_one, Nat.add_zero] at hx38_0); have hf38_0 := hfr38 0; (try simp only [show ((Kd.slice 3 (Kd.int .i64))).sz = 1 from rfl, Nat.mul_one, Nat.add_zero] at hf38_0); clear hcl38 hcc38 hfr38 hoki38 hH38; (try clear hM38); (try simp only [show ((Kd.slice 3 (Kd.int .i64))).sz = 1 from rfl, Nat.mul_one, Nat.add_zero] at HP38)) | ((with_reducible refine gate_store (t := 31) (p := 56) rfl ?_); (try (rw [drewN_self w36]; generalize hq_ : World.drewN w36 _ = w36; have n0_ := am (Kd.S_at hq_ HO_8.out); have n1_ := am (Kd.R_at hq_ HO_10.out); have n2_ := am (Kd.R_at hq_ HL524_0.out); have n3_ := am (below_at hq_ HB.out); clear hq_ HO_8 HO_10 HL524_0 HB; revert n0_ n1_ n2_ n3_; intro HO_8 HO_10 HL524_0 HB; (try (have HX38 := am (show Kd.S (Kd.slice 3 (Kd.int .i64)) 31 w36 w.heap.size (fun k_ => ((fun k_ => some k_ ≠ (u10 : Value).ownBlock)) k_ ∧ ¬ ((fun k_ => some k_ = ((.slice Ao9530 y529.length co9530) : Value).ownBlock)) k_) (.slice (some ⟨go22, 0, none⟩) x8_2.length co14) x8_2 from (by (with_reducible repeat (first | apply Kd.S_alloc | apply Kd.S_drewN | apply Kd.S_drew)); exact Kd.S_mono HO_8.out (fun k_ hk => ⟨hk.1, fun e_ => hk.2 e_⟩))))); (try (obtain ⟨oki38, ce38, hcl38, hM38, hcc38, hfr38, hoki38, hH38⟩ := Kd.S_elem HX38.out [] (x32_2 : Int) (dT) (by have h_ : (x32_2 : Int) < ((x8_2.length : Int) : Int) := dT; first | exact h_ | (have e_ := (Kd.S_reads' HO_8.out).1; omega) | simpa using h_))); (try (obtain ⟨ve38_0, rfl, ge38_0⟩ := hM38)); (try (have HP38 := Kd.S_seg hH38 (dT) (by have h_ : (x32_2 : Int) < ((x8_2.length : Int) : Int) := dT; first | exact h_ | (have e_ := (Kd.S_reads' HO_8.out).1; omega) | simpa using h_) (seg := [(.slice Ao9530 y529.length co9530)]) (j := 0) (show 1 ≤ 1 from by decide) (x' := y529) (Kd.M_row (Kd.R_mono (Kd.R_tight rfl (Kd.R_mono (ok' := fun k_ => ((fun k_ => some k_ ≠ (u10 : Value).ownBlock)) k_ ∧ k_ ≠ go22) (Kd.R_apart' (HO531.out) (Kd.S_typed HO_8.out) (by decide)) (fun k_ hk => ⟨hk.1.1.2, fun e_ => (hk.2) (by rw [e_]; rfl)⟩))) (fun _ h_ => Or.inr (h_)))) (fun _ hk => hk) (fun k_ hk_ => ((Kd.R_mono (ok' := fun k_ => ((fun k_ => some k_ ≠ (u10 : Value).ownBlock)) k_ ∧ k_ ≠ go22) (Kd.R_apart' (HO531.out) (Kd.S_typed HO_8.out) (by decide)) (fun k_ hk => ⟨hk.1.1.2, fun e_ => (hk.2) (by rw [e_]; rfl)⟩))).1 k_ hk_.symm))); (try (have hx38_0 := hcc38 0 _ rfl)); (try (try simp only [show ((Kd.slice 3 (Kd.int .i64))).sz = 1 from rfl, Nat.mul_one, Nat.add_zero] at hx38_0)); (try (have hf38_0 := hfr38 0)); (try (try simp only [show ((Kd.slice 3 (Kd.int .i64))).sz = 1 from rfl, Nat.mul_one, Nat.add_zero] at hf38_0)); (try (clear hcl38 hcc38 hfr38 hoki38 hH38; (try clear hM38))); (try (try simp only [show ((Kd.slice 3 (Kd.int .i64))).sz = 1 from rfl, Nat.mul_one, Nat.add_zero] at HP38)))); refine store_event (t := 31) (p := 56) (v := ?vo_w39) (w1 := (w36.setCell ⟨go22, (x32_2 : Int).toNat, none⟩ ((.slice Ao9530 y529.length co9530)))) ?hg ?ho ?hn ?hr ?_; (case ho => rfl); (case hg => rfl); (case hn => rfl); (case hr => first | (go_simp; done) | (go_simp; rfl)); intro w39 hw; have hg : w36.grownBy w39 (some go22) := (by rw [hw]; exact HP38.2); have hp_ : Kd.S (Kd.slice 3 (Kd.int .i64)) 31 w39 w.heap.size (fun k_ => some k_ ≠ (u10 : Value).ownBlock) (.slice (some ⟨go22, 0, none⟩) x8_2.length co14) y532 := (by rw [hw, Ny532.out]; exact HP38.1); clear HP38; have n0_ := am (hp_); have n1_ := am (Kd.R_over' (v := (.slice (some ⟨go22, 0, none⟩) x8_2.length co14)) (Rz HO_10.out) (Kd.S_typed HO_8.out) (by decide) hg); have n2_ := am (Kd.R_after (v := (.slice (some ⟨go22, 0, none⟩) x8_2.length co14)) (v1 := (.slice (some ⟨go22, 0, none⟩) x8_2.length co14)) (ok := (fun k_ => some k_ ≠ (u10 : Value).ownBlock ∧ some k_ ≠ ((.slice Ao9530 y529.length co9530) : Value).ownBlock)) (Rz (Kd.R_mono HL524_0.out (fun _ hk => ⟨⟨hk.1.1, hk.2⟩, hk.1.2⟩))) hg (.inl rfl)); have n3_ := am ((by rw [hw]; exact below_set (HB.out) GB22.out : Below w.heap.size w w39)); clear HO_8 HO_10 HL524_0 HB HO531; revert n0_ n1_ n2_ n3_; intro HO_8 HO_10 HL524_0 HB; clear hg hw hp_) | (go_at_call 75; refine calls_of_args (args' := #[.slice (some ⟨go22, 0, none⟩) y532.length co14]) (by first | (rw [show y532.length = x8_2.length from (Kd.S_reads' HO_8.out).1.symm] <;> rfl) | rfl) ?_; (with_reducible refine (impl_placed.calls k2 _ _ y532 false _ ?side1 ?side2 A23.out).mono ?_); (case side1 => exact Cz ((Kd.S_reads' HO_8.out).2.2)); (case side2 => rw [show y532.length = x8_2.length from (Kd.S_reads' HO_8.out).1.symm]; exact (Kd.S_reads' HO_8.out).2.1); rintro e w40 ⟨rfl, hb⟩; have n0_ := am (Kd.S_below (by (with_reducible repeat (first | apply Kd.S_alloc | apply Kd.S_drewN | apply Kd.S_drew)); exact HO_8.out) hb); have n1_ := Rb HO_10 hb; have n2_ := Rb HL524_0 hb; have n3_ := Bb HB hb; clear HO_8 HO_10 HL524_0 HB; revert n0_ n1_ n2_ n3_; intro HO_8 HO_10 HL524_0 HB; (try clear hb); (try clear hb2); (try clear hk); (try clear hi)) | ((with_reducible refine gate_dst (N := 64) rfl ?_); refine Kd.R_lit (Kd.int .i64) _ 3 ?hg (N := 64) ?hd (xs := ([ji21, ji21] : List Int)) (inner := [.int .i64 ji21, .int .i64 ji21]) (ok := fun _ => True) (okp := fun _ => True) ?hr ?hp (fun _ hk => hk) trivial (Below.refl _ _) (Nat.le_refl _) (by simp) ?_; (case hd => rfl); (case hg => rfl); (case hr => first | (go_simp; done) | (go_simp; rfl)); (case hp => exact (Reps.one (show Kd.M (Kd.int .i64) _ _ _ ji21 [.int .i64 ji21] from rfl) (Reps.one (show Kd.M (Kd.int .i64) _ _ _ ji21 [.int .i64 ji21] from rfl) (Reps.none _ _)))); intro v540 w41 ho42 hb hg_ hnew_; clear hg_ hnew_; (first | rw [← Ny539.out] at ho42 | (simp only [Int.reduceToNat] at ho42; rw [← Ny539.out] at ho42)); have n0_ := am (Kd.S_elder' (by (with_reducible repeat (first | apply Kd.S_alloc | apply Kd.S_drewN | apply Kd.S_drew)); exact HO_8.out) (Kd.R_base ho42) hb); have n1_ := Re HO_10 (Kd.R_base ho42) hb; have n2_ := Re HL524_0 (Kd.R_base ho42) hb; have n3_ := Rl (Kd.R_new' (Kd.R_new' ho42 (Kd.R_lt (Rz HO_10.out))) (Kd.R_lt (Rz HL524_0.out))) HB; have n4_ := Bb HB hb; clear HO_8 HO_10 HL524_0 HB; revert n0_ n1_ n2_ n3_ n4_; intro HO_8 HO_10 HL524_0 HO541 HB; clear hb ho42; obtain ⟨Ao9540, co9540, eo9540⟩ := Kd.R_slice HO541.out; subst eo9540; have p33 : 0 ≤ (x32_2 : Int) := dT; have q33 : (x32_2 : Int) < ((x8_2.length : Int) : Int) := dT; obtain ⟨_, ce33, hcl33, hM33, hcc33, hfr33, _, _⟩ := Kd.S_elem HO_8.out [] (x32_2 : Int) p33 q33; obtain ⟨ve33_0, rfl, ge33_0⟩ := hM33; have hx33_0 := hcc33 0 _ rfl; have hf33_0 := hfr33 0; (try simp only [show ((Kd.slice 3 (Kd.int .i64))).sz = 1 from rfl, Nat.mul_one, Nat.add_zero] at hx33_0); (try simp only [show ((Kd.slice 3 (Kd.int .i64))).sz = 1 from rfl, Nat.mul_one, Nat.add_zero] at hf33_0); clear hcl33 hcc33 hfr33; (try clear hM33); replace p33 := eq_true p33; replace q33 := eq_true q33; have HX43 := am (show Kd.S (Kd.slice 3 (Kd.int .i64)) 31 w41 w.heap.size (fun k_ => ((fun k_ => some k_ ≠ (u10 : Value).ownBlock)) k_ ∧ ¬ ((fun k_ => some k_ = ((.slice Ao9540 y539.length co9540) : Value).ownBlock)) k_) (.slice (some ⟨go22, 0, none⟩) x8_2.length co14) y532 from (by (with_reducible repeat (first | apply Kd.S_alloc | apply Kd.S_drewN | apply Kd.S_drew)); exact Kd.S_mono HO_8.out (fun k_ hk => ⟨hk.1, fun e_ => hk.2 e_⟩))); obtain ⟨oki43, ce43, hcl43, hM43, hcc43, hfr43, hoki43, hH43⟩ := Kd.S_elem HX43.out [] (x32_2 : Int) (dT) (by have h_ : (x32_2 : Int) < ((x8_2.length : Int) : Int) := dT; first | exact h_ | (have e_ := (Kd.S_reads' HO_8.out).1; omega) | simpa using h_); obtain ⟨ve43_0, rfl, ge43_0⟩ := hM43; have HP43 := Kd.S_seg hH43 (dT) (by have h_ : (x32_2 : Int) < ((x8_2.length : Int) : Int) := dT; first | exact h_ | (have e_ := (Kd.S_reads' HO_8.out).1; omega) | simpa using h_) (seg := [(.slice Ao9540 y539.length co9540)]) (j := 0) (show 1 ≤ 1 from by decide) (x' := y539) (Kd.M_row (Kd.R_mono (Kd.R_tight rfl (Kd.R_mono (ok' := fun k_ => ((fun k_ => some k_ ≠ (u10 : Value).ownBlock)) k_ ∧ k_ ≠ go22) (Kd.R_apart' (HO541.out) (Kd.S_typed HO_8.out) (by decide)) (fun k_ hk => ⟨hk.1.1.2, fun e_ => (hk.2) (by rw [e_]; rfl)⟩))) (fun _ h_ => Or.inr (h_)))) (fun _ hk => hk) (fun k_ hk_ => ((Kd.R_mono (ok' := fun k_ => ((fun k_ => some k_ ≠ (u10 : Value).ownBlock)) k_ ∧ k_ ≠ go22) (Kd.R_apart' (HO541.out) (Kd.S_typed HO_8.out) (by decide)) (fun k_ hk => ⟨hk.1.1.2, fun e_ => (hk.2) (by rw [e_]; rfl)⟩))).1 k_ hk_.symm); have hx43_0 := hcc43 0 _ rfl; (try simp only [show ((Kd.slice 3 (Kd.int .i64))).sz = 1 from rfl, Nat.mul_one, Nat.add_zero] at hx43_0); have hf43_0 := hfr43 0; (try simp only [show ((Kd.slice 3 (Kd.int .i64))).sz = 1 from rfl, Nat.mul_one, Nat.add_zero] at hf43_0); clear hcl43 hcc43 hfr43 hoki43 hH43; (try clear hM43); (try simp only [show ((Kd.slice 3 (Kd.int .i64))).sz = 1 from rfl, Nat.mul_one, Nat.add_zero] at HP43)) | ((with_reducible refine gate_store (t := 31) (p := 65) rfl ?_); (try (rw [drewN_self w41]; generalize hq_ : World.drewN w41 _ = w41; have n0_ := am (Kd.S_at hq_ HO_8.out); have n1_ := am (Kd.R_at hq_ HO_10.out); have n2_ := am (Kd.R_at hq_ HL524_0.out); have n3_ := am (below_at hq_ HB.out); clear hq_ HO_8 HO_10 HL524_0 HB; revert n0_ n1_ n2_ n3_; intro HO_8 HO_10 HL524_0 HB; (try (have HX43 := am (show Kd.S (Kd.slice 3 (Kd.int .i64)) 31 w41 w.heap.size (fun k_ => ((fun k_ => some k_ ≠ (u10 : Value).ownBlock)) k_ ∧ ¬ ((fun k_ => some k_ = ((.slice Ao9540 y539.length co9540) : Value).ownBlock)) k_) (.slice (some ⟨go22, 0, none⟩) x8_2.length co14) y532 from (by (with_reducible repeat (first | apply Kd.S_alloc | apply Kd.S_drewN | apply Kd.S_drew)); exact Kd.S_mono HO_8.out (fun k_ hk => ⟨hk.1, fun e_ => hk.2 e_⟩))))); (try (obtain ⟨oki43, ce43, hcl43, hM43, hcc43, hfr43, hoki43, hH43⟩ := Kd.S_elem HX43.out [] (x32_2 : Int) (dT) (by have h_ : (x32_2 : Int) < ((x8_2.length : Int) : Int) := dT; first | exact h_ | (have e_ := (Kd.S_reads' HO_8.out).1; omega) | simpa using h_))); (try (obtain ⟨ve43_0, rfl, ge43_0⟩ := hM43)); (try (have HP43 := Kd.S_seg hH43 (dT) (by have h_ : (x32_2 : Int) < ((x8_2.length : Int) : Int) := dT; first | exact h_ | (have e_ := (Kd.S_reads' HO_8.out).1; omega) | simpa using h_) (seg := [(.slice Ao9540 y539.length co9540)]) (j := 0) (show 1 ≤ 1 from by decide) (x' := y539) (Kd.M_row (Kd.R_mono (Kd.R_tight rfl (Kd.R_mono (ok' := fun k_ => ((fun k_ => some k_ ≠ (u10 : Value).ownBlock)) k_ ∧ k_ ≠ go22) (Kd.R_apart' (HO541.out) (Kd.S_typed HO_8.out) (by decide)) (fun k_ hk => ⟨hk.1.1.2, fun e_ => (hk.2) (by rw [e_]; rfl)⟩))) (fun _ h_ => Or.inr (h_)))) (fun _ hk => hk) (fun k_ hk_ => ((Kd.R_mono (ok' := fun k_ => ((fun k_ => some k_ ≠ (u10 : Value).ownBlock)) k_ ∧ k_ ≠ go22) (Kd.R_apart' (HO541.out) (Kd.S_typed HO_8.out) (by decide)) (fun k_ hk => ⟨hk.1.1.2, fun e_ => (hk.2) (by rw [e_]; rfl)⟩))).1 k_ hk_.symm))); (try (have hx43_0 := hcc43 0 _ rfl)); (try (try simp only [show ((Kd.slice 3 (Kd.int .i64))).sz = 1 from rfl, Nat.mul_one, Nat.add_zero] at hx43_0)); (try (have hf43_0 := hfr43 0)); (try (try simp only [show ((Kd.slice 3 (Kd.int .i64))).sz = 1 from rfl, Nat.mul_one, Nat.add_zero] at hf43_0)); (try (clear hcl43 hcc43 hfr43 hoki43 hH43; (try clear hM43))); (try (try simp only [show ((Kd.slice 3 (Kd.int .i64))).sz = 1 from rfl, Nat.mul_one, Nat.add_zero] at HP43)))); refine store_event (t := 31) (p := 65) (v := ?vo_w44) (w1 := (w41.setCell ⟨go22, (x32_2 : Int).toNat, none⟩ ((.slice Ao9540 y539.length co9540)))) ?hg ?ho ?hn ?hr ?_; (case ho => rfl); (case hg => rfl); (case hn => rfl); (case hr => first | (go_simp; done) | (go_simp; rfl)); intro w44 hw; have hg : w41.grownBy w44 (some go22) := (by rw [hw]; exact HP43.2); have hp_ : Kd.S (Kd.slice 3 (Kd.int .i64)) 31 w44 w.heap.size (fun k_ => some k_ ≠ (u10 : Value).ownBlock) (.slice (some ⟨go22, 0, none⟩) x8_2.length co14) y542 := (by rw [hw, Ny542.out]; exact HP43.1); clear HP43; have n0_ := am (hp_); have n1_ := am (Kd.R_over' (v := (.slice (some ⟨go22, 0, none⟩) x8_2.length co14)) (Rz HO_10.out) (Kd.S_typed HO_8.out) (by decide) hg); have n2_ := am (Kd.R_after (v := (.slice (some ⟨go22, 0, none⟩) x8_2.length co14)) (v1 := (.slice (some ⟨go22, 0, none⟩) x8_2.length co14)) (ok := (fun k_ => some k_ ≠ (u10 : Value).ownBlock ∧ some k_ ≠ ((.slice Ao9540 y539.length co9540) : Value).ownBlock)) (Rz (Kd.R_mono HL524_0.out (fun _ hk => ⟨⟨hk.1.1.1, hk.2⟩, hk.1.2⟩))) hg (.inl rfl)); have n3_ := am ((by rw [hw]; exact below_set (HB.out) GB22.out : Below w.heap.size w w44)); clear HO_8 HO_10 HL524_0 HB HO541; revert n0_ n1_ n2_ n3_; intro HO_8 HO_10 HL524_0 HB; clear hg hw hp_; have p543 : 0 ≤ (x32_2 : Int) := dT; have q543 : x32_2 < (y542.length : Int) := (by have h_ : (x32_2 : Int) < ((x8_2.length : Int) : Int) := dT; first | (have e_ := (Kd.S_reads' HO_8.out).1; omega) | simpa only [Ny532.out, Ny542.out, List.length_set] using h_); have ql543 : ((x32_2 : Int) < ((x8_2.length : Int) : Int)) = True := eq_true (dT); obtain ⟨ad543, A543_0, c543_0, e543, hx543_0, hl543_0, hi543_0⟩ := at_L3 (Kd.S_reads' HO_8.out).2.2 x32_2 p543 q543; obtain rfl : (⟨go22, 0, none⟩ : Addr) = ad543 := (by injection e543); obtain ⟨ce543, hce543, hMe543, hcc543⟩ := Kd.S_get HO_8.out [] x32_2 p543 (by first | exact q543 | exact dT | (have e_ := (Kd.S_reads' HO_8.out).1; omega)); obtain ⟨ve543_0, rfl, ge543_0⟩ := hMe543; have hv543_0 := hcc543 0 _ rfl; rw [Nat.add_zero, show ((Kd.slice 3 (Kd.int .i64))).sz = 1 from rfl, Nat.mul_one] at hv543_0; replace hv543_0 := Option.some.inj (hv543_0.symm.trans hx543_0); rw [hv543_0] at ge543_0; have HL543_0 := am (show Kd.R (Kd.int .i64) 3 _ _ _ _ (rd_L3 y542 x32_2) from ge543_0); clear hv543_0 ge543_0; clear hcc543 hce543; (first | simp only [add_plain] at hx543_0 | simp only [add_at] at hx543_0 | simp only [Addr.add, Nat.zero_add] at hx543_0 | skip); have HR543_0 := am hi543_0; have HC543_0 := am hl543_0; clear hi543_0 hl543_0; replace p543 := eq_true p543; replace q543 := eq_true q543; have p544 : 0 ≤ (0 : Int) := (by omega); have q544 : 0 < ((rd_L3 y542 x32_2).length : Int) := dT; obtain ⟨ad544, e544, hx544_0⟩ := Kd.at_int (by repeat (first | (with_reducible exact HR543_0.out) | (with_reducible refine Kd.C_alloc ?_ _) | (with_reducible refine Kd.C_drewN ?_ _) | (with_reducible refine Kd.C_drew ?_) | exact HR543_0.out)) 0 p544 q544; cases e544; have qi544 : (0 < (rd_L3 y542 x32_2).length) = True := eq_true (by omega); (try rw [show ((0 : Int)).toNat = 0 from rfl] at hx544_0); (try rw [Addr.add_zero'] at hx544_0); replace p544 := eq_true p544; replace q544 := eq_true q544) | ((with_reducible refine gate_builtin (b := .append) (xs := #[.tmp 66, .tmp 73]) rfl ?_); at_builtin; refine Kd.R_append (Kd.int .i64) (w0 := w) w.heap.size rfl (.tmp 66) (.tmp 73) 31 3 (.int .i64 0) 8 rfl Try.underlying31 info3 rfl (by decide) (by omega) u10 x10_2 (rd (rd_L3 y542 x32_2) 0) [.int .i64 (rd (rd_L3 y542 x32_2) 0)] (fun _ => True) (fun _ => False) rfl rfl ?aP (fun _ hk => hk.elim) ?aF ?aO ?aB ?aS ?aL ?_; (case aP => exact rfl); (case aB => exact (Bz HB.out)); (case aF => exact (fun _ _ => trivial)); (case aO => exact (Rz (Kd.R_mono HO_10.out (fun _ hk => trivial)))); (case aS => exact (below_size (Bz HB.out))); (case aL => have := LMc35.out; omega); intro v546 w45 ho hb hg hat; rw [← Ny545.out] at ho; have n0_ := am (Kd.S_after (ok := (fun _ => True)) (by (with_reducible repeat (first | apply Kd.S_alloc | apply Kd.S_drewN | apply Kd.S_drew)); exact Kd.S_mono HO_8.out (fun _ hk => ⟨trivial, hk⟩)) hg hat); have n1_ := am (Kd.R_after (ok := (fun k_ => some k_ ≠ (.slice (some ⟨go22, 0, none⟩) x8_2.length co14 : Value).ownBlock)) (Rz (Kd.R_mono HL524_0.out (fun _ hk => ⟨hk.2, hk.1.1⟩))) hg hat); have n2_ := am (Kd.R_after (ok := (fun k_ => some k_ ≠ (.slice (some ⟨go22, 0, none⟩) x8_2.length co14 : Value).ownBlock)) (Rz (Kd.R_mono HL543_0.out (fun _ hk => ⟨hk.2, hk.1⟩))) hg hat); have n3_ := am (hb); have n4_ := am (ho); clear HO_8 HL524_0 HL543_0 HB HO_10; revert n0_ n1_ n2_ n3_ n4_; intro HO_8 HL524_0 HL543_0 HB HO547; clear ho hb hg hat)))
              (try simp only [← hl8_2])
              go_roundg k2
              case measure => have := HJ4.out; have := HK2.out; omega
              case rel => exact ⟨(y542), (y545), (wrap64 (x32_2 + 1)), wZ, H', ⟨by have := HJ4.out; have := HK2.out; omega⟩, ⟨by (try simp only [hl8_2]); (with_reducible repeat (first | apply Kd.S_alloc | apply Kd.S_drewN | apply Kd.S_drew)); exact Kd.S_mono HO_8.out (fun _ hk => hk.2)⟩, ⟨by (try simp only [hl8_2]); (with_reducible repeat (first | apply Kd.R_alloc | apply Kd.R_drewN | apply Kd.R_drew)); exact HO547.out⟩, ⟨Bz HB.out⟩⟩
             ·rw [if_neg c35] at H
              exact absurd H (by simp)
            ·rw [if_neg c34] at H
             exact absurd H (by simp)
          ·rw [if_neg c19] at H
           exact absurd H (by simp)
         ·rw [if_neg c18] at H
          exact absurd H (by simp)
        ·rw [if_neg c17] at H
         exact absurd H (by simp)
       ·rw [if_neg c16] at H
        exact absurd H (by simp)
      ·rw [if_neg c15] at H
       have c15b0 : decide (x32_2 < (t516.length : Int)) = false := decide_eq_false c15; (try simp only [hl8_2] at c15b0); clear c15
       simp only [Option.some.injEq, Prod.mk.injEq] at H
       obtain ⟨rfl, rfl⟩ := H
       go_wp2
       repeat (go_quiet (fail); try go_wp2)
       go_ret2
       exact ⟨_, eZ, Rz HO_10.out, Bz HB.out⟩

def impl_CrowdOf.l0 : Nat → List (List Int) → List (List Int) → Int → Int → Option (List Int × Bool)
 | 0, _, _, _, _ => none
 | k + 1, x8, x22, x23, x24 => if x24 < x23 then (if 0 ≤ x24 then (if x24 < (x22.length : Int) then ((impl_cellCount.f k x8 (rd_L3 x22 x24)).bind fun t556 => (if t556 < ((rd_L3 x22 x24).length : Int) then (some (rd_L3 x22 x24, true)) else (impl_CrowdOf.l0 k x8 x22 x23 (wrap64 (x24 + 1))))) else (none)) else (none)) else (some (([] : List Int), false))
def impl_CrowdOf.f (k : Nat) (a0 : Int) (l1 : List ByteArray) (a2 : Int) : Option (List Int × Bool) := (impl_pairs.f k a0 l1 a2).bind fun bt548 => (if bt548.2 = true then ((impl_groups.f k bt548.1).bind fun t552 => (impl_CrowdOf.l0 k bt548.1 t552 (t552.length : Int) 0)) else (some (([] : List Int), false)))
theorem impl_CrowdOf.calls (k : Nat) (a0 : Int) (A1 : Option Addr) (c1 : Nat) (l1 : List ByteArray) (a2 : Int) (r1 : List Int) (r2 : Bool) (w : World) (hr1 : Kd.C Kd.string w A1 l1.length l1) (hc1 : l1.length ≤ c1) (h : impl_CrowdOf.f k a0 l1 a2 = some (r1, r2)) :
  Calls Try.prog 23 #[.int .i64 a0, .slice A1 l1.length c1, .int .i64 a2] w fun e w' => ∃ v0_ : Value, e = .returned (.tuple #[v0_, .bool r2]) ∧ Kd.R (Kd.int .i64) 3 w' w.heap.size (fun _ => True) v0_ r1 ∧ Below w.heap.size w w' := by
 have HR1 := am hr1; have HC1 := am hc1; clear hr1 hc1; have HB := am (Below.refl w.heap.size w); have H : ((impl_pairs.f k a0 l1 a2).bind fun bt548 => (if bt548.2 = true then ((impl_groups.f k bt548.1).bind fun t552 => (impl_CrowdOf.l0 k bt548.1 t552 (t552.length : Int) 0)) else (some (([] : List Int), false)))) = some (r1, r2) := h; clear h; replace H := Option.bind_eq_some_iff.mp H; obtain ⟨⟨t548, t549⟩, A40, H⟩ := H; (try dsimp -simprocs only at H); have A4 := am A40; clear A40
 by_cases c5 : t549 = true
 ·subst c5
  rw [if_pos rfl] at H; replace H := Option.bind_eq_some_iff.mp H; obtain ⟨t552, A60, H⟩ := H; (try dsimp -simprocs only at H); have A6 := am A60; clear A60; have H' := am H; clear H
  go_enter Try.func23, Try.ntmps23
  go_wp2_with (first | ((with_reducible refine gate_callee (f := 60) rfl ?_); refine gL (some 16) Try.func60 #[.int .i64 a0, .slice A1 l1.length c1, .int .i64 a2] ?_; (with_reducible refine (impl_pairs.calls k a0 _ _ l1 a2 t548 true _ ?side1 ?side2 A4.out).mono ?_); (case side1 => exact Cz HR1.out); (case side2 => exact HC1.out); rintro e w7 ⟨v550, rfl, ho0, hb⟩; refine ⟨_, rfl, ?_⟩; have n0_ := am (Kd.S_lower ho0 (below_size (Bz HB.out))); have n1_ := Bb HB hb; clear HB; revert n0_ n1_; intro HO551 HB; (try clear hb); (try clear hb2); (try clear hk); (try clear hi); (try clear ho0); obtain ⟨Ao8, co8, eo8⟩ := Kd.S_slice HO551.out; subst eo8) | ((with_reducible refine gate_callee (f := 61) rfl ?_); refine gL (some 22) Try.func61 #[.slice Ao8 t548.length co8] ?_; (with_reducible refine (impl_groups.calls k _ _ t548 t552 _ ?side1 ?side2 A6.out).mono ?_); (case side1 => exact Cz ((Kd.S_reads' HO551.out).2.2)); (case side2 => exact (Kd.S_reads' HO551.out).2.1); rintro e w9 ⟨v553, rfl, ho0, hb⟩; refine ⟨_, rfl, ?_⟩; have n0_ := am (Kd.S_elder' (by (with_reducible repeat (first | apply Kd.S_alloc | apply Kd.S_drewN | apply Kd.S_drew)); exact HO551.out) (Kd.S_base ho0) hb); have n1_ := am (Kd.S_lower (Kd.S_new' ho0 (Kd.S_lt (by (with_reducible repeat (first | apply Kd.S_alloc | apply Kd.S_drewN | apply Kd.S_drew)); exact HO551.out))) (below_size (Bz HB.out))); have n2_ := Bb HB hb; clear HO551 HB; revert n0_ n1_ n2_; intro HO551 HO554 HB; (try clear hb); (try clear hb2); (try clear hk); (try clear hi); (try clear ho0); obtain ⟨Ao10, co10, eo10⟩ := Kd.S_slice HO554.out; subst eo10))
  (try simp only [aP])
  go_loopg [24] k (fun kq v24 w' => ∃ (x24_1 : Int), v24 = .int .i64 x24_1 ∧ Aside0 (impl_CrowdOf.l0 kq t548 t552 (t552.length : Int) x24_1 = some (r1, r2)) ∧ Aside0 (kq ≤ k) ∧ Aside0 (Kd.S (Kd.slice 3 (Kd.int .i64)) 31 w' w.heap.size (fun k_ => some k_ ≠ ((.slice Ao10 t552.length co10) : Value).ownBlock) (.slice Ao8 t548.length co8) t548) ∧ Aside0 (Kd.S (Kd.slice 3 (Kd.int .i64)) 31 w' w.heap.size (fun k_ => some k_ ≠ ((.slice Ao8 t548.length co8) : Value).ownBlock) (.slice Ao10 t552.length co10) t552) ∧ Aside0 (Below w.heap.size w w'))
  case atStart => exact ⟨(0), wZ, H', ⟨Nat.le_refl _⟩, ⟨by (with_reducible repeat (first | apply Kd.S_alloc | apply Kd.S_drewN | apply Kd.S_drew)); exact Kd.S_mono HO551.out (fun _ hk => hk.2)⟩, ⟨by (with_reducible repeat (first | apply Kd.S_alloc | apply Kd.S_drewN | apply Kd.S_drew)); exact Kd.S_mono HO554.out (fun _ hk => hk.2)⟩, ⟨Bz HB.out⟩⟩
  case round =>
   clear H'
   try clear c1
   try clear c2
   try clear p2
   try clear c5
   try clear c6
   obtain ⟨x24_1, rfl, HA, HK1, HO_8, HO_22, HB⟩ := hrel; cases gk with
   | zero => exact absurd HA.out (by simp [impl_CrowdOf.l0])
   | succ k1 =>
    have H := HA.out; clear HA
    simp only [impl_CrowdOf.l0] at H
    by_cases c11 : x24_1 < (t552.length : Int)
    ·rw [if_pos c11] at H
     have c11b0 : decide (x24_1 < (t552.length : Int)) = true := decide_eq_true c11; clear c11
     by_cases c12 : 0 ≤ x24_1
     ·rw [if_pos c12] at H
      have c12b0 : decide (0 ≤ x24_1) = true := decide_eq_true c12; clear c12
      by_cases c13 : x24_1 < (t552.length : Int)
      ·rw [if_pos c13] at H
       have c13b0 : decide (x24_1 < (t552.length : Int)) = true := decide_eq_true c13; clear c13; replace H := Option.bind_eq_some_iff.mp H; obtain ⟨t556, A140, H⟩ := H; (try dsimp -simprocs only at H); have A14 := am A140; clear A140
       by_cases c15 : t556 < ((rd_L3 t552 x24_1).length : Int)
       ·rw [if_pos c15] at H
        have c15b0 : decide (t556 < ((rd_L3 t552 x24_1).length : Int)) = true := decide_eq_true c15; clear c15
        simp only [Option.some.injEq, Prod.mk.injEq] at H
        obtain ⟨rfl, rfl⟩ := H; have p555 : 0 ≤ (x24_1 : Int) := dT; have q555 : x24_1 < (t552.length : Int) := dT; obtain ⟨ad555, A555_0, c555_0, e555, hx555_0, hl555_0, hi555_0⟩ := at_L3 (Kd.S_reads' HO_22.out).2.2 x24_1 p555 q555; cases e555; obtain ⟨ce555, hce555, hMe555, hcc555⟩ := Kd.S_get HO_22.out [] x24_1 p555 (by first | exact q555 | exact dT | (have e_ := (Kd.S_reads' HO_22.out).1; omega)); obtain ⟨ve555_0, rfl, ge555_0⟩ := hMe555; have hv555_0 := hcc555 0 _ rfl; rw [Nat.add_zero, show ((Kd.slice 3 (Kd.int .i64))).sz = 1 from rfl, Nat.mul_one] at hv555_0; replace hv555_0 := Option.some.inj (hv555_0.symm.trans hx555_0); rw [hv555_0] at ge555_0; have HL555_0 := am (show Kd.R (Kd.int .i64) 3 _ _ _ _ (rd_L3 t552 x24_1) from ge555_0); clear hv555_0 ge555_0; clear hcc555 hce555; have HR555_0 := am hi555_0; have HC555_0 := am hl555_0; clear hi555_0 hl555_0; replace p555 := eq_true p555; replace q555 := eq_true q555
        go_wp2_with (first | ((with_reducible refine gate_callee (f := 69) rfl ?_); refine gL (some 30) Try.func69 #[.slice Ao8 t548.length co8, .slice A555_0 (rd_L3 t552 x24_1).length c555_0] ?_; (with_reducible refine (impl_cellCount.calls k1 _ _ t548 _ _ (rd_L3 t552 x24_1) t556 _ ?side1 ?side2 ?side3 ?side4 A14.out).mono ?_); (case side1 => exact Cz ((Kd.S_reads' HO_8.out).2.2)); (case side2 => exact (Kd.S_reads' HO_8.out).2.1); (case side3 => repeat (first | exact (by repeat (first | (with_reducible exact HR555_0.out) | (with_reducible refine Kd.C_alloc ?_ _) | (with_reducible refine Kd.C_drewN ?_ _) | (with_reducible refine Kd.C_drew ?_) | exact HR555_0.out)) | (with_reducible refine Kd.C_alloc ?_ _) | (with_reducible refine Kd.C_drewN ?_ _) | (with_reducible refine Kd.C_drew ?_))); (case side4 => exact HC555_0.out); rintro e w16 ⟨rfl, hb⟩; refine ⟨_, rfl, ?_⟩; have n0_ := am (Kd.S_below (by (with_reducible repeat (first | apply Kd.S_alloc | apply Kd.S_drewN | apply Kd.S_drew)); exact HO_8.out) hb); have n1_ := am (Kd.S_below (by (with_reducible repeat (first | apply Kd.S_alloc | apply Kd.S_drewN | apply Kd.S_drew)); exact HO_22.out) hb); have n2_ := Rb HL555_0 hb; have n3_ := am (Kd.C_below (by repeat (first | (with_reducible exact HR555_0.out) | (with_reducible refine Kd.C_alloc ?_ _) | (with_reducible refine Kd.C_drewN ?_ _) | (with_reducible refine Kd.C_drew ?_) | exact HR555_0.out)) hb); have n4_ := Bb HB hb; clear HO_8 HO_22 HL555_0 HR555_0 HB; revert n0_ n1_ n2_ n3_ n4_; intro HO_8 HO_22 HL555_0 HR555_0 HB; (try clear hb); (try clear hb2); (try clear hk); (try clear hi)))
        go_ret2
        exact ⟨_, eZ, Rz (Kd.R_mono HL555_0.out (fun _ hk => trivial)), Bz HB.out⟩
       ·rw [if_neg c15] at H
        have c15b0 : decide (t556 < ((rd_L3 t552 x24_1).length : Int)) = false := decide_eq_false c15; clear c15; have H' := am H; clear H; have p555 : 0 ≤ (x24_1 : Int) := dT; have q555 : x24_1 < (t552.length : Int) := dT; obtain ⟨ad555, A555_0, c555_0, e555, hx555_0, hl555_0, hi555_0⟩ := at_L3 (Kd.S_reads' HO_22.out).2.2 x24_1 p555 q555; cases e555; obtain ⟨ce555, hce555, hMe555, hcc555⟩ := Kd.S_get HO_22.out [] x24_1 p555 (by first | exact q555 | exact dT | (have e_ := (Kd.S_reads' HO_22.out).1; omega)); obtain ⟨ve555_0, rfl, ge555_0⟩ := hMe555; have hv555_0 := hcc555 0 _ rfl; rw [Nat.add_zero, show ((Kd.slice 3 (Kd.int .i64))).sz = 1 from rfl, Nat.mul_one] at hv555_0; replace hv555_0 := Option.some.inj (hv555_0.symm.trans hx555_0); rw [hv555_0] at ge555_0; have HL555_0 := am (show Kd.R (Kd.int .i64) 3 _ _ _ _ (rd_L3 t552 x24_1) from ge555_0); clear hv555_0 ge555_0; clear hcc555 hce555; have HR555_0 := am hi555_0; have HC555_0 := am hl555_0; clear hi555_0 hl555_0; replace p555 := eq_true p555; replace q555 := eq_true q555
        go_wp2_with (first | ((with_reducible refine gate_callee (f := 69) rfl ?_); refine gL (some 30) Try.func69 #[.slice Ao8 t548.length co8, .slice A555_0 (rd_L3 t552 x24_1).length c555_0] ?_; (with_reducible refine (impl_cellCount.calls k1 _ _ t548 _ _ (rd_L3 t552 x24_1) t556 _ ?side1 ?side2 ?side3 ?side4 A14.out).mono ?_); (case side1 => exact Cz ((Kd.S_reads' HO_8.out).2.2)); (case side2 => exact (Kd.S_reads' HO_8.out).2.1); (case side3 => repeat (first | exact (by repeat (first | (with_reducible exact HR555_0.out) | (with_reducible refine Kd.C_alloc ?_ _) | (with_reducible refine Kd.C_drewN ?_ _) | (with_reducible refine Kd.C_drew ?_) | exact HR555_0.out)) | (with_reducible refine Kd.C_alloc ?_ _) | (with_reducible refine Kd.C_drewN ?_ _) | (with_reducible refine Kd.C_drew ?_))); (case side4 => exact HC555_0.out); rintro e w17 ⟨rfl, hb⟩; refine ⟨_, rfl, ?_⟩; have n0_ := am (Kd.S_below (by (with_reducible repeat (first | apply Kd.S_alloc | apply Kd.S_drewN | apply Kd.S_drew)); exact HO_8.out) hb); have n1_ := am (Kd.S_below (by (with_reducible repeat (first | apply Kd.S_alloc | apply Kd.S_drewN | apply Kd.S_drew)); exact HO_22.out) hb); have n2_ := Rb HL555_0 hb; have n3_ := am (Kd.C_below (by repeat (first | (with_reducible exact HR555_0.out) | (with_reducible refine Kd.C_alloc ?_ _) | (with_reducible refine Kd.C_drewN ?_ _) | (with_reducible refine Kd.C_drew ?_) | exact HR555_0.out)) hb); have n4_ := Bb HB hb; clear HO_8 HO_22 HL555_0 HR555_0 HB; revert n0_ n1_ n2_ n3_ n4_; intro HO_8 HO_22 HL555_0 HR555_0 HB; (try clear hb); (try clear hb2); (try clear hk); (try clear hi)))
        go_roundg k1
        case measure => have := HK1.out; omega
        case rel => exact ⟨(wrap64 (x24_1 + 1)), wZ, H', ⟨by have := HK1.out; omega⟩, ⟨by (with_reducible repeat (first | apply Kd.S_alloc | apply Kd.S_drewN | apply Kd.S_drew)); exact HO_8.out⟩, ⟨by (with_reducible repeat (first | apply Kd.S_alloc | apply Kd.S_drewN | apply Kd.S_drew)); exact HO_22.out⟩, ⟨Bz HB.out⟩⟩
      ·rw [if_neg c13] at H
       exact absurd H (by simp)
     ·rw [if_neg c12] at H
      exact absurd H (by simp)
    ·rw [if_neg c11] at H
     have c11b0 : decide (x24_1 < (t552.length : Int)) = false := decide_eq_false c11; clear c11
     simp only [Option.some.injEq, Prod.mk.injEq] at H
     obtain ⟨rfl, rfl⟩ := H
     go_wp2
     go_ret2
     exact ⟨_, eZ, nZ, Bz HB.out⟩
 ·replace c5 := Bool.eq_false_iff.mpr c5
  subst c5
  rw [if_neg (show ¬ (false = true) by decide)] at H
  simp only [Option.some.injEq, Prod.mk.injEq] at H
  obtain ⟨rfl, rfl⟩ := H
  go_enter Try.func23, Try.ntmps23
  go_wp2_with (first | ((with_reducible refine gate_callee (f := 60) rfl ?_); refine gL (some 16) Try.func60 #[.int .i64 a0, .slice A1 l1.length c1, .int .i64 a2] ?_; (with_reducible refine (impl_pairs.calls k a0 _ _ l1 a2 t548 false _ ?side1 ?side2 A4.out).mono ?_); (case side1 => exact Cz HR1.out); (case side2 => exact HC1.out); rintro e w18 ⟨v550, rfl, ho0, hb⟩; refine ⟨_, rfl, ?_⟩; have n0_ := am (Kd.S_lower ho0 (below_size (Bz HB.out))); have n1_ := Bb HB hb; clear HB; revert n0_ n1_; intro HO551 HB; (try clear hb); (try clear hb2); (try clear hk); (try clear hi); (try clear ho0)))
  go_ret2
  exact ⟨_, eZ, nZ, Bz HB.out⟩

def spec_DrawKeyGroups.f (k : Nat) (l0 : List Int) : Option (Int × List ByteArray × Int) := (spec_l1Cur_keyed.f k l0 0 0).bind fun bt558 => (some (bt558.1, bt558.2.1, bt558.2.2.1))
theorem spec_DrawKeyGroups.calls (k : Nat) (A0 : Option Addr) (c0 : Nat) (l0 : List Int) (r1 : Int) (r2 : List ByteArray) (r3 : Int) (w : World) (hr0 : Kd.C (Kd.int .u8) w A0 l0.length l0) (hc0 : l0.length ≤ c0) (h : spec_DrawKeyGroups.f k l0 = some (r1, r2, r3)) :
  Calls Try.prog 12 #[.slice A0 l0.length c0] w fun e w' => ∃ v1_ : Value, e = .returned (.tuple #[.int .i64 r1, v1_, .int .i64 r3]) ∧ Kd.R Kd.string 9 w' w.heap.size (fun _ => True) v1_ r2 ∧ Below w.heap.size w w' := by
 have hu75 := Try.underlying75; have HR0 := am hr0; have HC0 := am hc0; clear hr0 hc0; have HB := am (Below.refl w.heap.size w); have H : ((spec_l1Cur_keyed.f k l0 0 0).bind fun bt558 => (some (bt558.1, bt558.2.1, bt558.2.2.1))) = some (r1, r2, r3) := h; clear h; replace H := Option.bind_eq_some_iff.mp H; obtain ⟨⟨t558, t559, t562, t563, t564⟩, A20, H⟩ := H; (try dsimp -simprocs only at H); have A2 := am A20; clear A20
 simp only [Option.some.injEq, Prod.mk.injEq] at H
 obtain ⟨rfl, rfl, rfl⟩ := H
 go_enter Try.func12, Try.ntmps12
 go_wp2_with (first | ((with_reducible refine gate_dst (N := 8) rfl ?_); refine bE 8 #[.slice A0 l0.length c0, .int .i64 0, .int .u64 0] 75 ?_; intro gb557 hg w3 hbox hb; have n0_ := Bb HB hb; have n1_ := am (hbox); have n2_ := Gl HB hg; have n3_ := Gl HB hg; clear HB; revert n0_ n1_ n2_ n3_; intro HB BK557 GW557 GE557; clear hb hbox hg; have HI557 := am (show IsS75 w _ gb557 l0 0 0 from ⟨A0, c0, BK557.out, GE557.out, HR0.out⟩); clear BK557) | ((with_reducible refine gate_callee (f := 59) rfl ?_); refine gL (some 10) Try.func59 #[.pointer (some ⟨gb557, 0, none⟩)] ?_; (with_reducible refine (spec_l1Cur_keyed.calls k gb557 l0 0 0 t558 t559 t562 t563 t564 w _ ?side1 ?side2 A2.out).mono ?_); (case side1 => repeat (first | (with_reducible first | exact HI557.out | apply IsS75.alloc | apply IsS75.drewN | apply IsS75.drew | apply IsS75.set_1 | apply IsS75.set_2) | exact HI557.out)); (case side2 => repeat (first | (with_reducible first | exact HB.out | apply below_alloc | apply pw_below_drewN | apply below_drew1 | refine below_set ?_ (IsS75.ge HI557.out)) | exact HB.out)); rintro e w4 ⟨v560, rfl, ho0, hi, hb, hk⟩; refine ⟨_, rfl, ?_⟩; have n0_ := am (Kd.R_lower ho0 (below_size (by repeat (first | (with_reducible first | exact HB.out | apply below_alloc | apply pw_below_drewN | apply below_drew1 | refine below_set ?_ (IsS75.ge HI557.out)) | exact HB.out)))); have n1_ := am (hb); have n2_ := am (hi); clear HB HI557; revert n0_ n1_ n2_; intro HO561 HB HI557; (try clear hb); (try clear hb2); (try clear hk); (try clear hi); (try clear ho0)))
 go_ret3
 exact ⟨_, eZ, Rz HO561.out, by repeat (first | (with_reducible first | exact HB.out | apply below_alloc | apply pw_below_drewN | apply below_drew1 | refine below_set ?_ (IsS75.ge HI557.out)) | exact HB.out)⟩

def spec_DrawLeastCells.f (k : Nat) (l0 : List Int) : Option (Int × List ByteArray × Int) := (spec_DrawKeyGroups.f k l0).bind fun bt565 => (some (bt565.1, bt565.2.1, bt565.2.2))
theorem spec_DrawLeastCells.calls (k : Nat) (A0 : Option Addr) (c0 : Nat) (l0 : List Int) (r1 : Int) (r2 : List ByteArray) (r3 : Int) (w : World) (hr0 : Kd.C (Kd.int .u8) w A0 l0.length l0) (hc0 : l0.length ≤ c0) (h : spec_DrawLeastCells.f k l0 = some (r1, r2, r3)) :
  Calls Try.prog 24 #[.slice A0 l0.length c0] w fun e w' => ∃ v1_ : Value, e = .returned (.tuple #[.int .i64 r1, v1_, .int .i64 r3]) ∧ Kd.R Kd.string 9 w' w.heap.size (fun _ => True) v1_ r2 ∧ Below w.heap.size w w' := by
 have HR0 := am hr0; have HC0 := am hc0; clear hr0 hc0; have HB := am (Below.refl w.heap.size w); have H : ((spec_DrawKeyGroups.f k l0).bind fun bt565 => (some (bt565.1, bt565.2.1, bt565.2.2))) = some (r1, r2, r3) := h; clear h; replace H := Option.bind_eq_some_iff.mp H; obtain ⟨⟨t565, t566, t567⟩, A20, H⟩ := H; (try dsimp -simprocs only at H); have A2 := am A20; clear A20
 simp only [Option.some.injEq, Prod.mk.injEq] at H
 obtain ⟨rfl, rfl, rfl⟩ := H
 go_enter Try.func24, Try.ntmps24
 go_wp2_with (first | ((with_reducible refine gate_callee (f := 12) rfl ?_); refine gL (some 6) Try.func12 #[.slice A0 l0.length c0] ?_; (with_reducible refine (spec_DrawKeyGroups.calls k _ _ l0 t565 t566 t567 _ ?side1 ?side2 A2.out).mono ?_); (case side1 => exact Cz HR0.out); (case side2 => exact HC0.out); rintro e w3 ⟨v568, rfl, ho0, hb⟩; refine ⟨_, rfl, ?_⟩; have n0_ := Rl ho0 HB; have n1_ := Bb HB hb; clear HB; revert n0_ n1_; intro HO569 HB; (try clear hb); (try clear hb2); (try clear hk); (try clear hi); (try clear ho0)))
 go_ret3
 exact ⟨_, eZ, Rz HO569.out, Bz HB.out⟩

mutual
def impl_LeastCells.j0 : Nat → Int → List ByteArray → Int → Bool → Option (Int × Bool)
 | 0, _, _, _, _ => none
 | k + 1, x0, x1, x2, x23 => if x23 = true then (some (0, false)) else (impl_LeastCells.l0 k x0 x1 x2 1)
def impl_LeastCells.l0 : Nat → Int → List ByteArray → Int → Int → Option (Int × Bool)
 | 0, _, _, _, _ => none
 | k + 1, x0, x1, x2, x8 => if x8 ≤ x2 then ((impl_pairs.f k x0 x1 x8).bind fun bt573 => ((impl_placed.f k bt573.1).bind fun t577 => (if t577 = true then (some (x8, true)) else (impl_LeastCells.l0 k x0 x1 x2 (wrap64 (x8 + 1)))))) else (some (0, false))
end
def impl_LeastCells.f (k : Nat) (a0 : Int) (l1 : List ByteArray) (a2 : Int) : Option (Int × Bool) := (impl_isSeed.f a0).bind fun t570 => (if t570 = true then ((impl_AreKeys.f k l1).bind fun t571 => (if t571 = true then ((impl_cellsOk.f a2).bind fun t572 => (impl_LeastCells.j0 k a0 l1 a2 (!t572))) else (impl_LeastCells.j0 k a0 l1 a2 true))) else (impl_LeastCells.j0 k a0 l1 a2 true))
theorem impl_LeastCells.calls (k : Nat) (a0 : Int) (A1 : Option Addr) (c1 : Nat) (l1 : List ByteArray) (a2 : Int) (r1 : Int) (r2 : Bool) (w : World) (hr1 : Kd.C Kd.string w A1 l1.length l1) (hc1 : l1.length ≤ c1) (h : impl_LeastCells.f k a0 l1 a2 = some (r1, r2)) :
  Calls Try.prog 25 #[.int .i64 a0, .slice A1 l1.length c1, .int .i64 a2] w fun e w' => e = .returned (.tuple #[.int .i64 r1, .bool r2]) ∧ Below w.heap.size w w' := by
 have HR1 := am hr1; have HC1 := am hc1; clear hr1 hc1; have HB := am (Below.refl w.heap.size w); have H : ((impl_isSeed.f a0).bind fun t570 => (if t570 = true then ((impl_AreKeys.f k l1).bind fun t571 => (if t571 = true then ((impl_cellsOk.f a2).bind fun t572 => (impl_LeastCells.j0 k a0 l1 a2 (!t572))) else (impl_LeastCells.j0 k a0 l1 a2 true))) else (impl_LeastCells.j0 k a0 l1 a2 true))) = some (r1, r2) := h; clear h; have HC4 := am H; clear H
 go_enter Try.func25, Try.ntmps25
 go_upto_region 1 with (fail)
 go_cut [23] (fun v23 wc => ∃ (kq : Nat) (x23_3 : Bool), v23 = .bool x23_3 ∧ Aside0 (impl_LeastCells.j0 kq a0 l1 a2 x23_3 = some (r1, r2)) ∧ Aside0 (kq ≤ k) ∧ Aside0 (Below w.heap.size w wc))
 case first =>
  have H := HC4.out; clear HC4; replace H := Option.bind_eq_some_iff.mp H; obtain ⟨t570, A50, H⟩ := H; (try dsimp -simprocs only at H); have A5 := am A50; clear A50
  by_cases c6 : t570 = true
  ·subst c6
   rw [if_pos rfl] at H; replace H := Option.bind_eq_some_iff.mp H; obtain ⟨t571, A70, H⟩ := H; (try dsimp -simprocs only at H); have A7 := am A70; clear A70
   by_cases c8 : t571 = true
   ·subst c8
    rw [if_pos rfl] at H; replace H := Option.bind_eq_some_iff.mp H; obtain ⟨t572, A90, H⟩ := H; (try dsimp -simprocs only at H); have A9 := am A90; clear A90; have H' := am H; clear H
    go_wp2_with (first | ((with_reducible refine gate_callee (f := 65) rfl ?_); refine gL (some 12) Try.func65 #[.int .i64 a0] ?_; (with_reducible refine (impl_isSeed.calls a0 true _ A5.out).mono ?_); rintro e w' ⟨rfl, ⟨nd, rfl⟩⟩; refine ⟨_, rfl, ?_⟩) | (go_at_call 72; (with_reducible refine (impl_AreKeys.calls k _ _ l1 true _ ?side1 ?side2 A7.out).mono ?_); (case side1 => exact Kd.C_below HR1.out (Bz HB.out)); (case side2 => exact HC1.out); rintro e w' ⟨rfl, ⟨nd, rfl⟩⟩) | (go_at_call 67; (with_reducible refine (impl_cellsOk.calls a2 t572 _ A9.out).mono ?_); rintro e w' ⟨rfl, ⟨nd, rfl⟩⟩))
    go_meet
    case rel => exact ⟨_, (!t572), wZ, H', ⟨by first | omega | exact Nat.le_refl _⟩, ⟨Bz HB.out⟩⟩
   ·replace c8 := Bool.eq_false_iff.mpr c8
    subst c8
    rw [if_neg (show ¬ (false = true) by decide)] at H; have H' := am H; clear H
    go_wp2_with (first | ((with_reducible refine gate_callee (f := 65) rfl ?_); refine gL (some 12) Try.func65 #[.int .i64 a0] ?_; (with_reducible refine (impl_isSeed.calls a0 true _ A5.out).mono ?_); rintro e w' ⟨rfl, ⟨nd, rfl⟩⟩; refine ⟨_, rfl, ?_⟩) | (go_at_call 72; (with_reducible refine (impl_AreKeys.calls k _ _ l1 false _ ?side1 ?side2 A7.out).mono ?_); (case side1 => exact Kd.C_below HR1.out (Bz HB.out)); (case side2 => exact HC1.out); rintro e w' ⟨rfl, ⟨nd, rfl⟩⟩))
    go_meet
    case rel => exact ⟨_, (true), wZ, H', ⟨by first | omega | exact Nat.le_refl _⟩, ⟨Bz HB.out⟩⟩
  ·replace c6 := Bool.eq_false_iff.mpr c6
   subst c6
   rw [if_neg (show ¬ (false = true) by decide)] at H; have H' := am H; clear H
   go_wp2_with (first | ((with_reducible refine gate_callee (f := 65) rfl ?_); refine gL (some 12) Try.func65 #[.int .i64 a0] ?_; (with_reducible refine (impl_isSeed.calls a0 false _ A5.out).mono ?_); rintro e w' ⟨rfl, ⟨nd, rfl⟩⟩; refine ⟨_, rfl, ?_⟩))
   go_meet
   case rel => exact ⟨_, (true), wZ, H', ⟨by first | omega | exact Nat.le_refl _⟩, ⟨Bz HB.out⟩⟩
 case rest =>
  clear HC4
  try clear c1
  try clear c2
  try clear p2
  try clear c6
  try clear c8
  obtain ⟨kq, x23_3, rfl, HA, HJ3, HB⟩ := hcut; cases kq with
  | zero => exact absurd HA.out (by simp [impl_LeastCells.j0])
  | succ kj3 =>
   have H := HA.out; clear HA
   simp only [impl_LeastCells.j0] at H
   by_cases c10 : x23_3 = true
   ·subst c10
    rw [if_pos rfl] at H
    simp only [Option.some.injEq, Prod.mk.injEq] at H
    obtain ⟨rfl, rfl⟩ := H
    go_wp2
    go_ret2
    exact ⟨eZ, Bz HB.out⟩
   ·replace c10 := Bool.eq_false_iff.mpr c10
    subst c10
    rw [if_neg (show ¬ (false = true) by decide)] at H; have H' := am H; clear H
    go_wp2
    go_loopg [8] kj3 (fun kq v8 w' => ∃ (x8_2 : Int), v8 = .int .i64 x8_2 ∧ Aside0 (impl_LeastCells.l0 kq a0 l1 a2 x8_2 = some (r1, r2)) ∧ Aside0 (kq ≤ kj3) ∧ Aside0 (Below w.heap.size w w'))
    case atStart => exact ⟨(1), wZ, H', ⟨Nat.le_refl _⟩, ⟨Bz HB.out⟩⟩
    case round =>
     clear H'
     try clear c1
     try clear c2
     try clear p2
     try clear c6
     try clear c8
     try clear c10
     try clear p2
     obtain ⟨x8_2, rfl, HA, HK2, HB⟩ := hrel; cases gk with
     | zero => exact absurd HA.out (by simp [impl_LeastCells.l0])
     | succ k2 =>
      have H := HA.out; clear HA
      simp only [impl_LeastCells.l0] at H
      by_cases c11 : x8_2 ≤ a2
      ·rw [if_pos c11] at H
       have c11b0 : decide (x8_2 ≤ a2) = true := decide_eq_true c11; clear c11; replace H := Option.bind_eq_some_iff.mp H; obtain ⟨⟨t573, t574⟩, A120, H⟩ := H; (try dsimp -simprocs only at H); have A12 := am A120; clear A120; replace H := Option.bind_eq_some_iff.mp H; obtain ⟨t577, A130, H⟩ := H; (try dsimp -simprocs only at H); have A13 := am A130; clear A130
       by_cases c14 : t577 = true
       ·subst c14
        rw [if_pos rfl] at H
        simp only [Option.some.injEq, Prod.mk.injEq] at H
        obtain ⟨rfl, rfl⟩ := H
        go_wp2_with (first | ((with_reducible refine gate_callee (f := 60) rfl ?_); refine gL (some 33) Try.func60 #[.int .i64 a0, .slice A1 l1.length c1, .int .i64 x8_2] ?_; (with_reducible refine (impl_pairs.calls k2 a0 _ _ l1 x8_2 t573 t574 _ ?side1 ?side2 A12.out).mono ?_); (case side1 => exact Cz (Kd.C_below HR1.out HB.out)); (case side2 => exact HC1.out); rintro e w15 ⟨v575, rfl, ho0, hb⟩; refine ⟨_, rfl, ?_⟩; have n0_ := am (Kd.S_lower ho0 (below_size (Bz HB.out))); have n1_ := Bb HB hb; clear HB; revert n0_ n1_; intro HO576 HB; (try clear hb); (try clear hb2); (try clear hk); (try clear hi); (try clear ho0); obtain ⟨Ao16, co16, eo16⟩ := Kd.S_slice HO576.out; subst eo16) | ((with_reducible refine gate_callee (f := 75) rfl ?_); refine gL (some 37) Try.func75 #[.slice Ao16 t573.length co16] ?_; (with_reducible refine (impl_placed.calls k2 _ _ t573 true _ ?side1 ?side2 A13.out).mono ?_); (case side1 => exact Cz ((Kd.S_reads' HO576.out).2.2)); (case side2 => exact (Kd.S_reads' HO576.out).2.1); rintro e w17 ⟨rfl, hb⟩; refine ⟨_, rfl, ?_⟩; have n0_ := am (Kd.S_below (by (with_reducible repeat (first | apply Kd.S_alloc | apply Kd.S_drewN | apply Kd.S_drew)); exact HO576.out) hb); have n1_ := Bb HB hb; clear HO576 HB; revert n0_ n1_; intro HO576 HB; (try clear hb); (try clear hb2); (try clear hk); (try clear hi)))
        go_ret2
        exact ⟨eZ, Bz HB.out⟩
       ·replace c14 := Bool.eq_false_iff.mpr c14
        subst c14
        rw [if_neg (show ¬ (false = true) by decide)] at H; have H' := am H; clear H
        go_wp2_with (first | ((with_reducible refine gate_callee (f := 60) rfl ?_); refine gL (some 33) Try.func60 #[.int .i64 a0, .slice A1 l1.length c1, .int .i64 x8_2] ?_; (with_reducible refine (impl_pairs.calls k2 a0 _ _ l1 x8_2 t573 t574 _ ?side1 ?side2 A12.out).mono ?_); (case side1 => exact Cz (Kd.C_below HR1.out HB.out)); (case side2 => exact HC1.out); rintro e w18 ⟨v575, rfl, ho0, hb⟩; refine ⟨_, rfl, ?_⟩; have n0_ := am (Kd.S_lower ho0 (below_size (Bz HB.out))); have n1_ := Bb HB hb; clear HB; revert n0_ n1_; intro HO576 HB; (try clear hb); (try clear hb2); (try clear hk); (try clear hi); (try clear ho0); obtain ⟨Ao19, co19, eo19⟩ := Kd.S_slice HO576.out; subst eo19) | ((with_reducible refine gate_callee (f := 75) rfl ?_); refine gL (some 37) Try.func75 #[.slice Ao19 t573.length co19] ?_; (with_reducible refine (impl_placed.calls k2 _ _ t573 false _ ?side1 ?side2 A13.out).mono ?_); (case side1 => exact Cz ((Kd.S_reads' HO576.out).2.2)); (case side2 => exact (Kd.S_reads' HO576.out).2.1); rintro e w20 ⟨rfl, hb⟩; refine ⟨_, rfl, ?_⟩; have n0_ := am (Kd.S_below (by (with_reducible repeat (first | apply Kd.S_alloc | apply Kd.S_drewN | apply Kd.S_drew)); exact HO576.out) hb); have n1_ := Bb HB hb; clear HO576 HB; revert n0_ n1_; intro HO576 HB; (try clear hb); (try clear hb2); (try clear hk); (try clear hi)))
        go_roundg k2
        case measure => have := HJ3.out; have := HK2.out; omega
        case rel => exact ⟨(wrap64 (x8_2 + 1)), wZ, H', ⟨by have := HJ3.out; have := HK2.out; omega⟩, ⟨Bz HB.out⟩⟩
      ·rw [if_neg c11] at H
       have c11b0 : decide (x8_2 ≤ a2) = false := decide_eq_false c11; clear c11
       simp only [Option.some.injEq, Prod.mk.injEq] at H
       obtain ⟨rfl, rfl⟩ := H
       go_wp2
       go_ret2
       exact ⟨eZ, Bz HB.out⟩

def spec_LeastCells.l0 : Nat → Int → List ByteArray → Int → Int → Option (Int × Bool)
 | 0, _, _, _, _ => none
 | k + 1, x0, x1, x2, x8 => if x8 ≤ x2 then ((spec_cuFits.f k x0 x1 x8).bind fun t579 => (if t579 = true then (some (x8, true)) else (spec_LeastCells.l0 k x0 x1 x2 (wrap64 (x8 + 1))))) else (some (0, false))
def spec_LeastCells.f (k : Nat) (a0 : Int) (l1 : List ByteArray) (a2 : Int) : Option (Int × Bool) := (spec_cuKeyed.f k a0 l1 a2).bind fun t578 => (if t578 = true then (spec_LeastCells.l0 k a0 l1 a2 1) else (some (0, false)))
theorem spec_LeastCells.calls (k : Nat) (a0 : Int) (A1 : Option Addr) (c1 : Nat) (l1 : List ByteArray) (a2 : Int) (r1 : Int) (r2 : Bool) (w : World) (hr1 : Kd.C Kd.string w A1 l1.length l1) (hc1 : l1.length ≤ c1) (h : spec_LeastCells.f k a0 l1 a2 = some (r1, r2)) :
  Calls Try.prog 26 #[.int .i64 a0, .slice A1 l1.length c1, .int .i64 a2] w fun e w' => e = .returned (.tuple #[.int .i64 r1, .bool r2]) ∧ Below w.heap.size w w' := by
 have HR1 := am hr1; have HC1 := am hc1; clear hr1 hc1; have HB := am (Below.refl w.heap.size w); have H : ((spec_cuKeyed.f k a0 l1 a2).bind fun t578 => (if t578 = true then (spec_LeastCells.l0 k a0 l1 a2 1) else (some (0, false)))) = some (r1, r2) := h; clear h; replace H := Option.bind_eq_some_iff.mp H; obtain ⟨t578, A40, H⟩ := H; (try dsimp -simprocs only at H); have A4 := am A40; clear A40
 by_cases c5 : t578 = true
 ·subst c5
  rw [if_pos rfl] at H; have H' := am H; clear H
  go_enter Try.func26, Try.ntmps26
  go_wp2_with (first | ((with_reducible refine gate_callee (f := 62) rfl ?_); refine gL (some 12) Try.func62 #[.int .i64 a0, .slice A1 l1.length c1, .int .i64 a2] ?_; (with_reducible refine (spec_cuKeyed.calls k a0 _ _ l1 a2 true _ ?side1 ?side2 A4.out).mono ?_); (case side1 => exact Cz HR1.out); (case side2 => exact HC1.out); rintro e w' ⟨rfl, ⟨nd, rfl⟩⟩; refine ⟨_, rfl, ?_⟩))
  (try simp only [aP])
  go_loopg [8] k (fun kq v8 w' => ∃ (x8_1 : Int), v8 = .int .i64 x8_1 ∧ Aside0 (spec_LeastCells.l0 kq a0 l1 a2 x8_1 = some (r1, r2)) ∧ Aside0 (kq ≤ k) ∧ Aside0 (Below w.heap.size w w'))
  case atStart => exact ⟨(1), wZ, H', ⟨Nat.le_refl _⟩, ⟨Bz HB.out⟩⟩
  case round =>
   clear H'
   try clear c1
   try clear c2
   try clear p2
   try clear c5
   obtain ⟨x8_1, rfl, HA, HK1, HB⟩ := hrel; cases gk with
   | zero => exact absurd HA.out (by simp [spec_LeastCells.l0])
   | succ k1 =>
    have H := HA.out; clear HA
    simp only [spec_LeastCells.l0] at H
    by_cases c6 : x8_1 ≤ a2
    ·rw [if_pos c6] at H
     have c6b0 : decide (x8_1 ≤ a2) = true := decide_eq_true c6; clear c6; replace H := Option.bind_eq_some_iff.mp H; obtain ⟨t579, A70, H⟩ := H; (try dsimp -simprocs only at H); have A7 := am A70; clear A70
     by_cases c8 : t579 = true
     ·subst c8
      rw [if_pos rfl] at H
      simp only [Option.some.injEq, Prod.mk.injEq] at H
      obtain ⟨rfl, rfl⟩ := H
      go_wp2_with (first | ((with_reducible refine gate_callee (f := 78) rfl ?_); refine gL (some 22) Try.func78 #[.int .i64 a0, .slice A1 l1.length c1, .int .i64 x8_1] ?_; (with_reducible refine (spec_cuFits.calls k1 a0 _ _ l1 x8_1 true _ ?side1 ?side2 A7.out).mono ?_); (case side1 => exact Cz (Kd.C_below HR1.out HB.out)); (case side2 => exact HC1.out); rintro e w9 ⟨rfl, hb⟩; refine ⟨_, rfl, ?_⟩; have n0_ := Bb HB hb; clear HB; revert n0_; intro HB; (try clear hb); (try clear hb2); (try clear hk); (try clear hi)))
      go_ret2
      exact ⟨eZ, Bz HB.out⟩
     ·replace c8 := Bool.eq_false_iff.mpr c8
      subst c8
      rw [if_neg (show ¬ (false = true) by decide)] at H; have H' := am H; clear H
      go_wp2_with (first | ((with_reducible refine gate_callee (f := 78) rfl ?_); refine gL (some 22) Try.func78 #[.int .i64 a0, .slice A1 l1.length c1, .int .i64 x8_1] ?_; (with_reducible refine (spec_cuFits.calls k1 a0 _ _ l1 x8_1 false _ ?side1 ?side2 A7.out).mono ?_); (case side1 => exact Cz (Kd.C_below HR1.out HB.out)); (case side2 => exact HC1.out); rintro e w10 ⟨rfl, hb⟩; refine ⟨_, rfl, ?_⟩; have n0_ := Bb HB hb; clear HB; revert n0_; intro HB; (try clear hb); (try clear hb2); (try clear hk); (try clear hi)))
      go_roundg k1
      case measure => have := HK1.out; omega
      case rel => exact ⟨(wrap64 (x8_1 + 1)), wZ, H', ⟨by have := HK1.out; omega⟩, ⟨Bz HB.out⟩⟩
    ·rw [if_neg c6] at H
     have c6b0 : decide (x8_1 ≤ a2) = false := decide_eq_false c6; clear c6
     simp only [Option.some.injEq, Prod.mk.injEq] at H
     obtain ⟨rfl, rfl⟩ := H
     go_wp2
     go_ret2
     exact ⟨eZ, Bz HB.out⟩
 ·replace c5 := Bool.eq_false_iff.mpr c5
  subst c5
  rw [if_neg (show ¬ (false = true) by decide)] at H
  simp only [Option.some.injEq, Prod.mk.injEq] at H
  obtain ⟨rfl, rfl⟩ := H
  go_enter Try.func26, Try.ntmps26
  go_wp2_with (first | ((with_reducible refine gate_callee (f := 62) rfl ?_); refine gL (some 12) Try.func62 #[.int .i64 a0, .slice A1 l1.length c1, .int .i64 a2] ?_; (with_reducible refine (spec_cuKeyed.calls k a0 _ _ l1 a2 false _ ?side1 ?side2 A4.out).mono ?_); (case side1 => exact Cz HR1.out); (case side2 => exact HC1.out); rintro e w' ⟨rfl, ⟨nd, rfl⟩⟩; refine ⟨_, rfl, ?_⟩))
  go_ret2
  exact ⟨eZ, Bz HB.out⟩

mutual
def laws_FnLeastForCells.j0 : Nat → List Int → List ByteArray → Int → Int → Int → Int → Bool → Bool → Option (Bool)
 | 0, _, _, _, _, _, _, _, _ => none
 | k + 1, x1, x5, x6, x7, x8, x9, x10, x57 => if x57 = true then (some false) else (if x10 = true then ((impl_PlaceKeys.f k x9 x5 x6).bind fun bt591 => (if bt591.2 = true then (if x9 < x7 then (laws_FnLeastForCells.j1 k x1 x5 x6 x7 x9 true) else (laws_FnLeastForCells.j1 k x1 x5 x6 x7 x9 (decide (x9 ≥ x8)))) else (laws_FnLeastForCells.j1 k x1 x5 x6 x7 x9 true))) else (laws_FnLeastForCells.j2 k x1))
def laws_FnLeastForCells.j2 : Nat → List Int → Option (Bool)
 | 0, _ => none
 | k + 1, x1 => (spec_DrawLeastCells.f k x1).bind fun bt599 => ((impl_LeastCells.f k bt599.1 bt599.2.1 bt599.2.2).bind fun bt604 => ((spec_LeastCells.f k bt599.1 bt599.2.1 bt599.2.2).bind fun bt606 => (if (bt604.2 != bt606.2) = true then (laws_FnLeastForCells.j3 k bt599.2.1 bt599.1 bt604.2 bt599.2.2 bt604.1 true) else (laws_FnLeastForCells.j3 k bt599.2.1 bt599.1 bt604.2 bt599.2.2 bt604.1 (bt604.1 != bt606.1)))))
def laws_FnLeastForCells.j3 : Nat → List ByteArray → Int → Bool → Int → Int → Bool → Option (Bool)
 | 0, _, _, _, _, _, _ => none
 | k + 1, x5, x9, x10, x17, x18, x118 => if x118 = true then (some false) else (if x10 = true then ((impl_PlaceKeys.f k x9 x5 x18).bind fun bt608 => (if bt608.2 = true then (laws_FnLeastForCells.j4 k x5 x9 x18 (decide (x18 > x17))) else (laws_FnLeastForCells.j4 k x5 x9 x18 true))) else (some true))
def laws_FnLeastForCells.j4 : Nat → List ByteArray → Int → Int → Bool → Option (Bool)
 | 0, _, _, _, _ => none
 | k + 1, x5, x9, x18, x133 => if x133 = true then (some false) else (laws_FnLeastForCells.l0 k x5 x9 x18 1)
def laws_FnLeastForCells.l0 : Nat → List ByteArray → Int → Int → Int → Option (Bool)
 | 0, _, _, _, _ => none
 | k + 1, x5, x9, x18, x21 => if x21 < x18 then ((impl_PlaceKeys.f k x9 x5 x21).bind fun bt612 => (if bt612.2 = true then (some false) else (laws_FnLeastForCells.l0 k x5 x9 x18 (wrap64 (x21 + 1))))) else (some true)
def laws_FnLeastForCells.j1 : Nat → List Int → List ByteArray → Int → Int → Int → Bool → Option (Bool)
 | 0, _, _, _, _, _, _ => none
 | k + 1, x1, x5, x6, x7, x9, x77 => if x77 = true then (some false) else (if x9 > x7 then ((impl_CrowdOf.f k (wrap64 (x9 - 1)) x5 x6).bind fun bt595 => (if bt595.2 = true then (laws_FnLeastForCells.j2 k x1) else (some false))) else (laws_FnLeastForCells.j2 k x1))
end
def laws_FnLeastForCells.f (k : Nat) (l0 : List Int) (l1 : List Int) : Option (Bool) := (laws_big.f l0 l1).bind fun t580 => (if t580 = true then (some true) else ((spec_DrawFirstCuckooSeed.f k l0).bind fun bt581 => ((impl_FirstCuckooSeed.f k bt581.1 bt581.2.1 bt581.2.2.1 bt581.2.2.2).bind fun bt587 => ((spec_FirstCuckooSeed.f k bt581.1 bt581.2.1 bt581.2.2.1 bt581.2.2.2).bind fun bt589 => (if (bt587.2 != bt589.2) = true then (laws_FnLeastForCells.j0 k l1 bt581.1 bt581.2.1 bt581.2.2.1 bt581.2.2.2 bt587.1 bt587.2 true) else (laws_FnLeastForCells.j0 k l1 bt581.1 bt581.2.1 bt581.2.2.1 bt581.2.2.2 bt587.1 bt587.2 (bt587.1 != bt589.1)))))))
theorem laws_FnLeastForCells.j0.dead (k : Nat) (y0 : List Int) (y1 : List ByteArray) (y2 : Int) (y3 : Int) (y4 : Int) (y5 : Int) (y6 : Bool) : laws_FnLeastForCells.j0 k y0 y1 y2 y3 y4 y5 y6 true ≠ some true := by cases k <;> simp [laws_FnLeastForCells.j0]
theorem laws_FnLeastForCells.j3.dead (k : Nat) (y0 : List ByteArray) (y1 : Int) (y2 : Bool) (y3 : Int) (y4 : Int) : laws_FnLeastForCells.j3 k y0 y1 y2 y3 y4 true ≠ some true := by cases k <;> simp [laws_FnLeastForCells.j3]
theorem laws_FnLeastForCells.j4.dead (k : Nat) (y0 : List ByteArray) (y1 : Int) (y2 : Int) : laws_FnLeastForCells.j4 k y0 y1 y2 true ≠ some true := by cases k <;> simp [laws_FnLeastForCells.j4]
theorem laws_FnLeastForCells.j1.dead (k : Nat) (y0 : List Int) (y1 : List ByteArray) (y2 : Int) (y3 : Int) (y4 : Int) : laws_FnLeastForCells.j1 k y0 y1 y2 y3 y4 true ≠ some true := by cases k <;> simp [laws_FnLeastForCells.j1]
theorem laws_FnLeastForCells.calls (k : Nat) (A0 : Option Addr) (c0 : Nat) (l0 : List Int) (A1 : Option Addr) (c1 : Nat) (l1 : List Int) (r : Bool) (w : World) (hr0 : Kd.C (Kd.int .u8) w A0 l0.length l0) (hc0 : l0.length ≤ c0) (hr1 : Kd.C (Kd.int .u8) w A1 l1.length l1) (hc1 : l1.length ≤ c1) (h : laws_FnLeastForCells.f k l0 l1 = some r) (hT_ : r = true) :
  Calls Try.prog 4 #[.slice A0 l0.length c0, .slice A1 l1.length c1] w fun e w' => e = .returned (.bool r) ∧ Below w.heap.size w w' := by
 have HR0 := am hr0; have HC0 := am hc0; clear hr0 hc0; have HR1 := am hr1; have HC1 := am hc1; clear hr1 hc1; have HB := am (Below.refl w.heap.size w); have H : ((laws_big.f l0 l1).bind fun t580 => (if t580 = true then (some true) else ((spec_DrawFirstCuckooSeed.f k l0).bind fun bt581 => ((impl_FirstCuckooSeed.f k bt581.1 bt581.2.1 bt581.2.2.1 bt581.2.2.2).bind fun bt587 => ((spec_FirstCuckooSeed.f k bt581.1 bt581.2.1 bt581.2.2.1 bt581.2.2.2).bind fun bt589 => (if (bt587.2 != bt589.2) = true then (laws_FnLeastForCells.j0 k l1 bt581.1 bt581.2.1 bt581.2.2.1 bt581.2.2.2 bt587.1 bt587.2 true) else (laws_FnLeastForCells.j0 k l1 bt581.1 bt581.2.1 bt581.2.2.1 bt581.2.2.2 bt587.1 bt587.2 (bt587.1 != bt589.1)))))))) = some r := h; clear h; have HQT_ := am hT_; clear hT_; replace H := Option.bind_eq_some_iff.mp H; obtain ⟨t580, A30, H⟩ := H; (try dsimp -simprocs only at H); have A3 := am A30; clear A30
 by_cases c4 : t580 = true
 ·subst c4
  rw [if_pos rfl] at H; obtain rfl := Option.some.inj H
  go_enter Try.func4, Try.ntmps4
  go_wp2_with (first | ((with_reducible refine gate_callee (f := 11) rfl ?_); refine gL (some 26) Try.func11 #[.slice A0 l0.length c0, .slice A1 l1.length c1] ?_; (with_reducible refine (laws_big.calls _ _ l0 _ _ l1 true _ ?side1 ?side2 ?side3 ?side4 A3.out).mono ?_); (case side1 => exact Cz HR0.out); (case side2 => exact HC0.out); (case side3 => exact Cz HR1.out); (case side4 => exact HC1.out); rintro e w' ⟨rfl, ⟨nd, rfl⟩⟩; refine ⟨_, rfl, ?_⟩))
  go_ret
  exact ⟨eZ, Bz HB.out⟩
 ·replace c4 := Bool.eq_false_iff.mpr c4
  subst c4
  rw [if_neg (show ¬ (false = true) by decide)] at H; replace H := Option.bind_eq_some_iff.mp H; obtain ⟨⟨t581, t582, t583, t584⟩, A50, H⟩ := H; (try dsimp -simprocs only at H); have A5 := am A50; clear A50; replace H := Option.bind_eq_some_iff.mp H; obtain ⟨⟨t587, t588⟩, A60, H⟩ := H; (try dsimp -simprocs only at H); have A6 := am A60; clear A60; replace H := Option.bind_eq_some_iff.mp H; obtain ⟨⟨t589, t590⟩, A70, H⟩ := H; (try dsimp -simprocs only at H); have A7 := am A70; clear A70; have HC8 := am H; clear H
  go_enter Try.func4, Try.ntmps4
  go_upto_region 6 with (first | ((with_reducible refine gate_callee (f := 11) rfl ?_); refine gL (some 26) Try.func11 #[.slice A0 l0.length c0, .slice A1 l1.length c1] ?_; (with_reducible refine (laws_big.calls _ _ l0 _ _ l1 false _ ?side1 ?side2 ?side3 ?side4 A3.out).mono ?_); (case side1 => exact Cz HR0.out); (case side2 => exact HC0.out); (case side3 => exact Cz HR1.out); (case side4 => exact HC1.out); rintro e w' ⟨rfl, ⟨nd, rfl⟩⟩; refine ⟨_, rfl, ?_⟩) | ((with_reducible refine gate_callee (f := 19) rfl ?_); refine gL (some 29) Try.func19 #[.slice A0 l0.length c0] ?_; (with_reducible refine (spec_DrawFirstCuckooSeed.calls k _ _ l0 t581 t582 t583 t584 _ ?side1 ?side2 A5.out).mono ?_); (case side1 => exact Cz HR0.out); (case side2 => exact HC0.out); rintro e w9 ⟨v585, rfl, ho0, hb⟩; refine ⟨_, rfl, ?_⟩; have n0_ := Rl ho0 HB; have n1_ := Bb HB hb; clear HB; revert n0_ n1_; intro HO586 HB; (try clear hb); (try clear hb2); (try clear hk); (try clear hi); (try clear ho0); obtain ⟨Ao10, co10, eo10⟩ := Kd.R_slice HO586.out; subst eo10) | ((with_reducible refine gate_callee (f := 20) rfl ?_); refine gL (some 39) Try.func20 #[.slice Ao10 t581.length co10, .int .i64 t582, .int .i64 t583, .int .i64 t584] ?_; (with_reducible refine (impl_FirstCuckooSeed.calls k _ _ t581 t582 t583 t584 t587 t588 _ ?side1 ?side2 A6.out).mono ?_); (case side1 => exact Cz ((Kd.R_reads' HO586.out).2.2)); (case side2 => exact (Kd.R_reads' HO586.out).2.1); rintro e w11 ⟨rfl, hb⟩; refine ⟨_, rfl, ?_⟩; have n0_ := Rb HO586 hb; have n1_ := Bb HB hb; clear HO586 HB; revert n0_ n1_; intro HO586 HB; (try clear hb); (try clear hb2); (try clear hk); (try clear hi)) | ((with_reducible refine gate_callee (f := 21) rfl ?_); refine gL (some 47) Try.func21 #[.slice Ao10 t581.length co10, .int .i64 t582, .int .i64 t583, .int .i64 t584] ?_; (with_reducible refine (spec_FirstCuckooSeed.calls k _ _ t581 t582 t583 t584 t589 t590 _ ?side1 ?side2 A7.out).mono ?_); (case side1 => exact Cz ((Kd.R_reads' HO586.out).2.2)); (case side2 => exact (Kd.R_reads' HO586.out).2.1); rintro e w12 ⟨rfl, hb⟩; refine ⟨_, rfl, ?_⟩; have n0_ := Rb HO586 hb; have n1_ := Bb HB hb; clear HO586 HB; revert n0_ n1_; intro HO586 HB; (try clear hb); (try clear hb2); (try clear hk); (try clear hi)))
  (try simp only [aP])
  go_cut [57] (fun v57 wc => ∃ (kq : Nat) (x57_7 : Bool), v57 = .bool x57_7 ∧ Aside0 (laws_FnLeastForCells.j0 kq l1 t581 t582 t583 t584 t587 t588 x57_7 = some r) ∧ Aside0 (kq ≤ k) ∧ Aside0 (Kd.R Kd.string 9 wc w.heap.size (fun _ => True) (.slice Ao10 t581.length co10) t581) ∧ Aside0 (Below w.heap.size w wc))
  case first =>
   have H := HC8.out; clear HC8
   by_cases c13 : (t588 != t590) = true
   ·rw [if_pos c13] at H
    have c13b0 : (t588 != t590) = true := c13
    (try (have c13b1 : decide (t588 = t590) = false := by simpa using c13))
    (try (have c13b2 : (t588 == t590) = false := by simpa using c13))
    (try (have c13b3 : ¬ (t588 = t590) := by simpa using c13))
    (try (have c13b4 : (!(t588 == t590)) = true := c13b0))
    clear c13
    (first | rw [c13b0] | (simp only [i64_w, i32_w]; rw [c13b0]) | skip)
    exact absurd (H.trans (congrArg some HQT_.out)) (laws_FnLeastForCells.j0.dead _ _ _ _ _ _ _ _)
   ·rw [if_neg c13] at H
    have c13b0 : (t588 != t590) = false := by simpa using c13
    (try (have c13b1 : decide (t588 = t590) = true := by simpa using c13))
    (try (have c13b2 : (t588 == t590) = true := by simpa using c13))
    (try (have c13b3 : (!(t588 == t590)) = false := c13b0))
    clear c13
    (first | rw [c13b0] | (simp only [i64_w, i32_w]; rw [c13b0]) | skip)
    have H' := am H; clear H
    go_wp2
    go_meet
    case rel => exact ⟨_, ((t587 != t589)), wZ, H', ⟨by first | omega | exact Nat.le_refl _⟩, ⟨Rz HO586.out⟩, ⟨Bz HB.out⟩⟩
  case rest =>
   clear HC8
   try clear c1
   try clear c2
   try clear p2
   try clear c4
   try clear c11
   try clear c13
   try clear c13b0
   try clear c13b1
   try clear c13b2
   obtain ⟨kq, x57_7, rfl, HA, HJ7, HO_5, HB⟩ := hcut; cases kq with
   | zero => exact absurd HA.out (by simp [laws_FnLeastForCells.j0])
   | succ kj7 =>
    have H := HA.out; clear HA
    simp only [laws_FnLeastForCells.j0] at H
    by_cases c14 : x57_7 = true
    ·subst c14
     rw [if_pos rfl] at H; exact absurd (Option.some.inj H) (by rw [HQT_.out]; decide)
    ·replace c14 := Bool.eq_false_iff.mpr c14
     subst c14
     rw [if_neg (show ¬ (false = true) by decide)] at H; have HC15 := am H; clear H
     go_upto_if 58 with (fail)
     go_cut [] (fun wc => ∃ (kq : Nat), Aside0 (laws_FnLeastForCells.j2 kq l1 = some r) ∧ Aside0 (kq ≤ kj7) ∧ Aside0 (Below w.heap.size w wc))
     case first =>
      have H := HC15.out; clear HC15
      by_cases c16 : t588 = true
      ·subst c16
       rw [if_pos rfl] at H; replace H := Option.bind_eq_some_iff.mp H; obtain ⟨⟨t591, t592⟩, A170, H⟩ := H; (try dsimp -simprocs only at H); have A17 := am A170; clear A170; have HC18 := am H; clear H
       go_upto_region 10 with (first | ((with_reducible refine gate_callee (f := 22) rfl ?_); refine gL (some 63) Try.func22 #[.int .i64 t587, .slice Ao10 t581.length co10, .int .i64 t582] ?_; (with_reducible refine (impl_PlaceKeys.calls kj7 t587 _ _ t581 t582 t591 t592 _ ?side1 ?side2 A17.out).mono ?_); (case side1 => exact Cz ((Kd.R_reads' HO_5.out).2.2)); (case side2 => exact (Kd.R_reads' HO_5.out).2.1); rintro e w19 ⟨v593, rfl, ho0, hb⟩; refine ⟨_, rfl, ?_⟩; have n0_ := Rb HO_5 hb; have n1_ := Rl ho0 HB; have n2_ := Bb HB hb; clear HO_5 HB; revert n0_ n1_ n2_; intro HO_5 HO594 HB; (try clear hb); (try clear hb2); (try clear hk); (try clear hi); (try clear ho0)))
       (try simp only [aP])
       go_cut [77] (fun v77 wc => ∃ (kq : Nat) (x77_17 : Bool), v77 = .bool x77_17 ∧ Aside0 (laws_FnLeastForCells.j1 kq l1 t581 t582 t583 t587 x77_17 = some r) ∧ Aside0 (kq ≤ kj7) ∧ Aside0 (Kd.R Kd.string 9 wc w.heap.size (fun _ => True) (.slice Ao10 t581.length co10) t581) ∧ Aside0 (Below w.heap.size w wc))
       case first =>
        have H := HC18.out; clear HC18
        by_cases c20 : t592 = true
        ·subst c20
         rw [if_pos rfl] at H
         by_cases c21 : t587 < t583
         ·rw [if_pos c21] at H
          have c21b0 : decide (t587 < t583) = true := decide_eq_true c21; clear c21
          (first | rw [c21b0] | (simp only [i64_w, i32_w]; rw [c21b0]) | skip)
          exact absurd (H.trans (congrArg some HQT_.out)) (laws_FnLeastForCells.j1.dead _ _ _ _ _ _)
         ·rw [if_neg c21] at H
          have c21b0 : decide (t587 < t583) = false := decide_eq_false c21; clear c21
          (first | rw [c21b0] | (simp only [i64_w, i32_w]; rw [c21b0]) | skip)
          have H' := am H; clear H
          go_wp2
          go_meet
          case rel => exact ⟨_, (decide (t587 ≥ t584)), wZ, H', ⟨by have := HJ7.out; first | omega | exact Nat.le_refl _⟩, ⟨Rz HO_5.out⟩, ⟨Bz HB.out⟩⟩
        ·replace c20 := Bool.eq_false_iff.mpr c20
         subst c20
         rw [if_neg (show ¬ (false = true) by decide)] at H; exact absurd (H.trans (congrArg some HQT_.out)) (laws_FnLeastForCells.j1.dead _ _ _ _ _ _)
       case rest =>
        clear HC18
        try clear c1
        try clear c2
        try clear p2
        try clear c4
        try clear c11
        try clear c13
        try clear c13b0
        try clear c13b1
        try clear c13b2
        try clear c14
        try clear c16
        try clear c19
        try clear c20
        try clear c21
        try clear c21b0
        try clear p2
        obtain ⟨kq, x77_17, rfl, HA, HJ17, HO_5, HB⟩ := hcut; cases kq with
        | zero => exact absurd HA.out (by simp [laws_FnLeastForCells.j1])
        | succ kj17 =>
         have H := HA.out; clear HA
         simp only [laws_FnLeastForCells.j1] at H
         by_cases c22 : x77_17 = true
         ·subst c22
          rw [if_pos rfl] at H; exact absurd (Option.some.inj H) (by rw [HQT_.out]; decide)
         ·replace c22 := Bool.eq_false_iff.mpr c22
          subst c22
          rw [if_neg (show ¬ (false = true) by decide)] at H
          by_cases c23 : t587 > t583
          ·rw [if_pos c23] at H
           have c23b0 : decide (t583 < t587) = true := decide_eq_true c23; clear c23; replace H := Option.bind_eq_some_iff.mp H; obtain ⟨⟨t595, t596⟩, A240, H⟩ := H; (try dsimp -simprocs only at H); have A24 := am A240; clear A240
           by_cases c25 : t596 = true
           ·subst c25
            rw [if_pos rfl] at H; have H' := am H; clear H
            go_wp2_with (first | ((with_reducible refine gate_callee (f := 23) rfl ?_); refine gL (some 86) Try.func23 #[.int .i64 (wrap64 (t587 - 1)), .slice Ao10 t581.length co10, .int .i64 t582] ?_; (with_reducible refine (impl_CrowdOf.calls kj17 (wrap64 (t587 - 1)) _ _ t581 t582 t595 true _ ?side1 ?side2 A24.out).mono ?_); (case side1 => exact Cz ((Kd.R_reads' HO_5.out).2.2)); (case side2 => exact (Kd.R_reads' HO_5.out).2.1); rintro e w26 ⟨v597, rfl, ho0, hb⟩; refine ⟨_, rfl, ?_⟩; have n0_ := Rb HO_5 hb; have n1_ := Rl ho0 HB; have n2_ := Bb HB hb; clear HO_5 HB; revert n0_ n1_ n2_; intro HO_5 HO598 HB; (try clear hb); (try clear hb2); (try clear hk); (try clear hi); (try clear ho0)))
            go_meet
            case rel => exact ⟨_, H', ⟨by have := HJ7.out; have := HJ17.out; first | omega | exact Nat.le_refl _⟩, ⟨Bz HB.out⟩⟩
           ·replace c25 := Bool.eq_false_iff.mpr c25
            subst c25
            rw [if_neg (show ¬ (false = true) by decide)] at H; exact absurd (Option.some.inj H) (by rw [HQT_.out]; decide)
          ·rw [if_neg c23] at H
           have c23b0 : decide (t583 < t587) = false := decide_eq_false c23; clear c23; have H' := am H; clear H
           go_wp2
           go_meet
           case rel => exact ⟨_, H', ⟨by have := HJ7.out; have := HJ17.out; first | omega | exact Nat.le_refl _⟩, ⟨Bz HB.out⟩⟩
      ·replace c16 := Bool.eq_false_iff.mpr c16
       subst c16
       rw [if_neg (show ¬ (false = true) by decide)] at H; have H' := am H; clear H
       go_wp2
       go_meet
       case rel => exact ⟨_, H', ⟨by have := HJ7.out; first | omega | exact Nat.le_refl _⟩, ⟨Bz HB.out⟩⟩
     case rest =>
      clear HC15
      try clear c1
      try clear c2
      try clear p2
      try clear c4
      try clear p6
      try clear c11
      try clear c13
      try clear c13b0
      try clear c13b1
      try clear c13b2
      try clear c14
      try clear c16
      try clear c19
      try clear c20
      try clear c21
      try clear c21b0
      try clear c22
      try clear c23
      try clear c23b0
      try clear c25
      try clear p2
      obtain ⟨kq, HA, HJ14, HB⟩ := hcut; cases kq with
      | zero => exact absurd HA.out (by simp [laws_FnLeastForCells.j2])
      | succ kj14 =>
       have H := HA.out; clear HA
       simp only [laws_FnLeastForCells.j2] at H
       replace H := Option.bind_eq_some_iff.mp H; obtain ⟨⟨t599, t600, t601⟩, A270, H⟩ := H; (try dsimp -simprocs only at H); have A27 := am A270; clear A270; replace H := Option.bind_eq_some_iff.mp H; obtain ⟨⟨t604, t605⟩, A280, H⟩ := H; (try dsimp -simprocs only at H); have A28 := am A280; clear A280; replace H := Option.bind_eq_some_iff.mp H; obtain ⟨⟨t606, t607⟩, A290, H⟩ := H; (try dsimp -simprocs only at H); have A29 := am A290; clear A290; have HC30 := am H; clear H
       go_upto_region 19 with (first | ((with_reducible refine gate_callee (f := 24) rfl ?_); refine gL (some 93) Try.func24 #[.slice A1 l1.length c1] ?_; (with_reducible refine (spec_DrawLeastCells.calls kj14 _ _ l1 t599 t600 t601 _ ?side1 ?side2 A27.out).mono ?_); (case side1 => exact Cz (Kd.C_below HR1.out HB.out)); (case side2 => exact HC1.out); rintro e w31 ⟨v602, rfl, ho0, hb⟩; refine ⟨_, rfl, ?_⟩; have n0_ := Rl ho0 HB; have n1_ := Bb HB hb; clear HB; revert n0_ n1_; intro HO603 HB; (try clear hb); (try clear hb2); (try clear hk); (try clear hi); (try clear ho0); obtain ⟨Ao32, co32, eo32⟩ := Kd.R_slice HO603.out; subst eo32) | ((with_reducible refine gate_callee (f := 25) rfl ?_); refine gL (some 101) Try.func25 #[.int .i64 t599, .slice Ao32 t600.length co32, .int .i64 t601] ?_; (with_reducible refine (impl_LeastCells.calls kj14 t599 _ _ t600 t601 t604 t605 _ ?side1 ?side2 A28.out).mono ?_); (case side1 => exact Cz ((Kd.R_reads' HO603.out).2.2)); (case side2 => exact (Kd.R_reads' HO603.out).2.1); rintro e w33 ⟨rfl, hb⟩; refine ⟨_, rfl, ?_⟩; have n0_ := Rb HO603 hb; have n1_ := Bb HB hb; clear HO603 HB; revert n0_ n1_; intro HO603 HB; (try clear hb); (try clear hb2); (try clear hk); (try clear hi)) | ((with_reducible refine gate_callee (f := 26) rfl ?_); refine gL (some 108) Try.func26 #[.int .i64 t599, .slice Ao32 t600.length co32, .int .i64 t601] ?_; (with_reducible refine (spec_LeastCells.calls kj14 t599 _ _ t600 t601 t606 t607 _ ?side1 ?side2 A29.out).mono ?_); (case side1 => exact Cz ((Kd.R_reads' HO603.out).2.2)); (case side2 => exact (Kd.R_reads' HO603.out).2.1); rintro e w34 ⟨rfl, hb⟩; refine ⟨_, rfl, ?_⟩; have n0_ := Rb HO603 hb; have n1_ := Bb HB hb; clear HO603 HB; revert n0_ n1_; intro HO603 HB; (try clear hb); (try clear hb2); (try clear hk); (try clear hi)))
       (try simp only [aP])
       go_cut [118] (fun v118 wc => ∃ (kq : Nat) (x118_29 : Bool), v118 = .bool x118_29 ∧ Aside0 (laws_FnLeastForCells.j3 kq t600 t599 t605 t601 t604 x118_29 = some r) ∧ Aside0 (kq ≤ kj14) ∧ Aside0 (Kd.R Kd.string 9 wc w.heap.size (fun _ => True) (.slice Ao32 t600.length co32) t600) ∧ Aside0 (Below w.heap.size w wc))
       case first =>
        have H := HC30.out; clear HC30
        by_cases c35 : (t605 != t607) = true
        ·rw [if_pos c35] at H
         have c35b0 : (t605 != t607) = true := c35
         (try (have c35b1 : decide (t605 = t607) = false := by simpa using c35))
         (try (have c35b2 : (t605 == t607) = false := by simpa using c35))
         (try (have c35b3 : ¬ (t605 = t607) := by simpa using c35))
         (try (have c35b4 : (!(t605 == t607)) = true := c35b0))
         clear c35
         (first | rw [c35b0] | (simp only [i64_w, i32_w]; rw [c35b0]) | skip)
         exact absurd (H.trans (congrArg some HQT_.out)) (laws_FnLeastForCells.j3.dead _ _ _ _ _ _)
        ·rw [if_neg c35] at H
         have c35b0 : (t605 != t607) = false := by simpa using c35
         (try (have c35b1 : decide (t605 = t607) = true := by simpa using c35))
         (try (have c35b2 : (t605 == t607) = true := by simpa using c35))
         (try (have c35b3 : (!(t605 == t607)) = false := c35b0))
         clear c35
         (first | rw [c35b0] | (simp only [i64_w, i32_w]; rw [c35b0]) | skip)
         have H' := am H; clear H
         go_wp2
         go_meet
         case rel => exact ⟨_, ((t604 != t606)), wZ, H', ⟨by have := HJ7.out; have := HJ14.out; first | omega | exact Nat.le_refl _⟩, ⟨Rz HO603.out⟩, ⟨Bz HB.out⟩⟩
       case rest =>
        clear HC30
        try clear c1
        try clear c2
        try clear p2
        try clear c3
        try clear c4
        try clear p6
        try clear c11
        try clear c13
        try clear c13b0
        try clear c13b1
        try clear c13b2
        try clear c14
        try clear c16
        try clear c19
        try clear c20
        try clear c21
        try clear c21b0
        try clear c22
        try clear c23
        try clear c23b0
        try clear c24
        try clear c25
        try clear c26
        try clear c35
        try clear c35b0
        try clear c35b1
        try clear c35b2
        try clear p2
        try clear p6
        obtain ⟨kq, x118_29, rfl, HA, HJ29, HO_5, HB⟩ := hcut; cases kq with
        | zero => exact absurd HA.out (by simp [laws_FnLeastForCells.j3])
        | succ kj29 =>
         have H := HA.out; clear HA
         simp only [laws_FnLeastForCells.j3] at H
         by_cases c36 : x118_29 = true
         ·subst c36
          rw [if_pos rfl] at H; exact absurd (Option.some.inj H) (by rw [HQT_.out]; decide)
         ·replace c36 := Bool.eq_false_iff.mpr c36
          subst c36
          rw [if_neg (show ¬ (false = true) by decide)] at H
          by_cases c37 : t605 = true
          ·subst c37
           rw [if_pos rfl] at H; replace H := Option.bind_eq_some_iff.mp H; obtain ⟨⟨t608, t609⟩, A380, H⟩ := H; (try dsimp -simprocs only at H); have A38 := am A380; clear A380; have HC39 := am H; clear H
           go_upto_region 23 with (first | ((with_reducible refine gate_callee (f := 22) rfl ?_); refine gL (some 124) Try.func22 #[.int .i64 t599, .slice Ao32 t600.length co32, .int .i64 t604] ?_; (with_reducible refine (impl_PlaceKeys.calls kj29 t599 _ _ t600 t604 t608 t609 _ ?side1 ?side2 A38.out).mono ?_); (case side1 => exact Cz ((Kd.R_reads' HO_5.out).2.2)); (case side2 => exact (Kd.R_reads' HO_5.out).2.1); rintro e w40 ⟨v610, rfl, ho0, hb⟩; refine ⟨_, rfl, ?_⟩; have n0_ := Rb HO_5 hb; have n1_ := Rl ho0 HB; have n2_ := Bb HB hb; clear HO_5 HB; revert n0_ n1_ n2_; intro HO_5 HO611 HB; (try clear hb); (try clear hb2); (try clear hk); (try clear hi); (try clear ho0)))
           (try simp only [aP])
           go_cut [133] (fun v133 wc => ∃ (kq : Nat) (x133_38 : Bool), v133 = .bool x133_38 ∧ Aside0 (laws_FnLeastForCells.j4 kq t600 t599 t604 x133_38 = some r) ∧ Aside0 (kq ≤ kj29) ∧ Aside0 (Kd.R Kd.string 9 wc w.heap.size (fun _ => True) (.slice Ao32 t600.length co32) t600) ∧ Aside0 (Below w.heap.size w wc))
           case first =>
            have H := HC39.out; clear HC39
            by_cases c41 : t609 = true
            ·subst c41
             rw [if_pos rfl] at H; have H' := am H; clear H
             go_wp2
             go_meet
             case rel => exact ⟨_, (decide (t604 > t601)), wZ, H', ⟨by have := HJ7.out; have := HJ14.out; have := HJ29.out; first | omega | exact Nat.le_refl _⟩, ⟨Rz HO_5.out⟩, ⟨Bz HB.out⟩⟩
            ·replace c41 := Bool.eq_false_iff.mpr c41
             subst c41
             rw [if_neg (show ¬ (false = true) by decide)] at H; exact absurd (H.trans (congrArg some HQT_.out)) (laws_FnLeastForCells.j4.dead _ _ _ _)
           case rest =>
            clear HC39
            try clear c1
            try clear c2
            try clear p2
            try clear c3
            try clear c4
            try clear p6
            try clear c11
            try clear c13
            try clear c13b0
            try clear c13b1
            try clear c13b2
            try clear c14
            try clear c16
            try clear c19
            try clear c20
            try clear c21
            try clear c21b0
            try clear c22
            try clear c23
            try clear c23b0
            try clear c24
            try clear c25
            try clear c26
            try clear c35
            try clear c35b0
            try clear c35b1
            try clear c35b2
            try clear c36
            try clear c37
            try clear c41
            try clear p2
            try clear p6
            obtain ⟨kq, x133_38, rfl, HA, HJ38, HO_5, HB⟩ := hcut; cases kq with
            | zero => exact absurd HA.out (by simp [laws_FnLeastForCells.j4])
            | succ kj38 =>
             have H := HA.out; clear HA
             simp only [laws_FnLeastForCells.j4] at H
             by_cases c42 : x133_38 = true
             ·subst c42
              rw [if_pos rfl] at H; exact absurd (Option.some.inj H) (by rw [HQT_.out]; decide)
             ·replace c42 := Bool.eq_false_iff.mpr c42
              subst c42
              rw [if_neg (show ¬ (false = true) by decide)] at H; have H' := am H; clear H
              go_wp2
              go_loopg [21] kj38 (fun kq v21 w' => ∃ (x21_5 : Int), v21 = .int .i64 x21_5 ∧ Aside0 (laws_FnLeastForCells.l0 kq t600 t599 t604 x21_5 = some r) ∧ Aside0 (kq ≤ kj38) ∧ Aside0 (Kd.R Kd.string 9 w' w.heap.size (fun _ => True) (.slice Ao32 t600.length co32) t600) ∧ Aside0 (Below w.heap.size w w'))
              case atStart => exact ⟨(1), wZ, H', ⟨Nat.le_refl _⟩, ⟨Rz HO_5.out⟩, ⟨Bz HB.out⟩⟩
              case round =>
               clear H'
               try clear c1
               try clear c2
               try clear p2
               try clear c3
               try clear c4
               try clear p6
               try clear c11
               try clear c13
               try clear c13b0
               try clear c13b1
               try clear c13b2
               try clear c14
               try clear c16
               try clear c19
               try clear c20
               try clear c21
               try clear c21b0
               try clear c22
               try clear c23
               try clear c23b0
               try clear c24
               try clear c25
               try clear c26
               try clear c35
               try clear c35b0
               try clear c35b1
               try clear c35b2
               try clear c36
               try clear c37
               try clear c41
               try clear c42
               try clear p2
               try clear p6
               obtain ⟨x21_5, rfl, HA, HK5, HO_5, HB⟩ := hrel; cases gk with
               | zero => exact absurd HA.out (by simp [laws_FnLeastForCells.l0])
               | succ k5 =>
                have H := HA.out; clear HA
                simp only [laws_FnLeastForCells.l0] at H
                by_cases c43 : x21_5 < t604
                ·rw [if_pos c43] at H
                 have c43b0 : decide (x21_5 < t604) = true := decide_eq_true c43; clear c43; replace H := Option.bind_eq_some_iff.mp H; obtain ⟨⟨t612, t613⟩, A440, H⟩ := H; (try dsimp -simprocs only at H); have A44 := am A440; clear A440
                 by_cases c45 : t613 = true
                 ·subst c45
                  rw [if_pos rfl] at H; exact absurd (Option.some.inj H) (by rw [HQT_.out]; decide)
                 ·replace c45 := Bool.eq_false_iff.mpr c45
                  subst c45
                  rw [if_neg (show ¬ (false = true) by decide)] at H; have H' := am H; clear H
                  go_wp2_with (first | ((with_reducible refine gate_callee (f := 22) rfl ?_); refine gL (some 143) Try.func22 #[.int .i64 t599, .slice Ao32 t600.length co32, .int .i64 x21_5] ?_; (with_reducible refine (impl_PlaceKeys.calls k5 t599 _ _ t600 x21_5 t612 false _ ?side1 ?side2 A44.out).mono ?_); (case side1 => exact Cz ((Kd.R_reads' HO_5.out).2.2)); (case side2 => exact (Kd.R_reads' HO_5.out).2.1); rintro e w46 ⟨v614, rfl, ho0, hb⟩; refine ⟨_, rfl, ?_⟩; have n0_ := Rb HO_5 hb; have n1_ := Rl ho0 HB; have n2_ := Bb HB hb; clear HO_5 HB; revert n0_ n1_ n2_; intro HO_5 HO615 HB; (try clear hb); (try clear hb2); (try clear hk); (try clear hi); (try clear ho0)))
                  go_roundg k5
                  case measure => have := HJ7.out; have := HJ14.out; have := HJ29.out; have := HJ38.out; have := HK5.out; omega
                  case rel => exact ⟨(wrap64 (x21_5 + 1)), wZ, H', ⟨by have := HJ7.out; have := HJ14.out; have := HJ29.out; have := HJ38.out; have := HK5.out; omega⟩, ⟨Rz HO_5.out⟩, ⟨Bz HB.out⟩⟩
                ·rw [if_neg c43] at H
                 have c43b0 : decide (x21_5 < t604) = false := decide_eq_false c43; clear c43; obtain rfl := Option.some.inj H
                 go_wp2
                 go_ret
                 exact ⟨eZ, Bz HB.out⟩
          ·replace c37 := Bool.eq_false_iff.mpr c37
           subst c37
           rw [if_neg (show ¬ (false = true) by decide)] at H; obtain rfl := Option.some.inj H
           go_wp2
           go_ret
           exact ⟨eZ, Bz HB.out⟩

def laws_FnLeastForCells.Pure : Prop := ∀ (l0 : List Int) (l1 : List Int), l0.length ≤ maxLen → l0.length * 1 ≤ 140737488351232 → (∀ x ∈ l0, (Lit.int .u8 x).wf = true) → l1.length ≤ maxLen → l1.length * 1 ≤ 140737488351232 → (∀ x ∈ l1, (Lit.int .u8 x).wf = true) → ∃ k, laws_FnLeastForCells.f k l0 l1 = some true
theorem laws_FnLeastForCells.walk (P : laws_FnLeastForCells.Pure) (a0 : Option Addr) (len0 cap0 : Nat) (z0 : List Int) (a1 : Option Addr) (len1 cap1 : Nat) (z1 : List Int) (w : World) (w0 : (a0 = none ∧ len0 = 0 ∧ cap0 = 0 ∧ z0 = []) ∨ ∃ x, a0 = some x ∧ len0 ≤ cap0 ∧ cap0 ≤ maxLen ∧ z0.length = cap0 ∧ (∀ i, i < z0.length → w.cell? (x.add i) = some (.int .u8 (z0.getD i 0))) ∧ ∀ n ∈ z0, (Lit.int .u8 n).wf = true) (y0 : len0 * 1 ≤ 140737488351232) (w1 : (a1 = none ∧ len1 = 0 ∧ cap1 = 0 ∧ z1 = []) ∨ ∃ x, a1 = some x ∧ len1 ≤ cap1 ∧ cap1 ≤ maxLen ∧ z1.length = cap1 ∧ (∀ i, i < z1.length → w.cell? (x.add i) = some (.int .u8 (z1.getD i 0))) ∧ ∀ n ∈ z1, (Lit.int .u8 n).wf = true) (y1 : len1 * 1 ≤ 140737488351232) :
  Calls Try.prog 4 #[.slice a0 len0 cap0, .slice a1 len1 cap1] w fun e w' => e = .returned (.bool true) ∧ Below w.heap.size w w' := by
 obtain ⟨l0, rfl, hr0, hm0, hw0, hc0⟩ := ReadsInt.ofRowC w0; obtain ⟨l1, rfl, hr1, hm1, hw1, hc1⟩ := ReadsInt.ofRowC w1; obtain ⟨k, h⟩ := P l0 l1 hm0 y0 hw0 hm1 y1 hw1; refine (laws_FnLeastForCells.calls k _ _ l0 _ _ l1 true w (Kd.C_of_reads (d := (0 : Int)) (h1 := fun _ => rfl) hr0) hc0 (Kd.C_of_reads (d := (0 : Int)) (h1 := fun _ => rfl) hr1) hc1 h rfl).mono ?_; rintro e w' ⟨rfl, hd⟩; exact ⟨rfl, hd⟩

end Go.Proofs.Ytephjmmkggcmeaa.PL
namespace Go.Proofs.YtephjmmkggcmeaaQ
open Go Go.RowKit Go.Proofs.YtephjmmkggcmeaaW.PrintWords Go.Proofs.YtephjmmkggcmeaaGp

theorem ev_succ {α : Type} {g : Nat → Option α} {r : α} (h : Ev (fun k => g (k + 1)) r) : Ev g r := Ev.step (f := fun k => g (k + 1)) (fun _ => rfl) h
theorem ev_some {α : Type} {a r : α} (h : a = r) : Ev (fun _ => some a) r := h ▸ Ev.now a
theorem ev_pos {α : Type} {c : Prop} [Decidable c] {f g : Nat → Option α} {r : α} (h : c) (k : Ev f r) : Ev (fun n => if c then f n else g n) r := by simpa only [if_pos h] using k
theorem ev_neg {α : Type} {c : Prop} [Decidable c] {f g : Nat → Option α} {r : α} (h : ¬ c) (k : Ev g r) : Ev (fun n => if c then f n else g n) r := by simpa only [if_neg h] using k
theorem ev_bind {α β : Type} {g : Nat → Option α} {f : Nat → α → Option β} {r : β} (a : α) (h : Ev g a) (k : Ev (fun n => f n a) r) : Ev (fun n => (g n).bind (f n)) r := Ev.bind h k
theorem w64 {x : Int} (h0 : -9223372036854775808 ≤ x) (h1 : x ≤ 9223372036854775807) : wrap64 x = x := by unfold wrap64; omega
theorem winc {i : Nat} (h : (i : Int) < 9223372036854775807) : wrap64 ((i : Int) + 1) = ((i + 1 : Nat) : Int) := by unfold wrap64; omega
theorem wdec {i : Nat} (h : (i : Int) < 9223372036854775807) : wrap64 (((i + 1 : Nat) : Int) - 1) = (i : Int) := by unfold wrap64; omega
theorem maxLen_eq : maxLen = 9223372036854775807 := by unfold maxLen; rfl
section
variable {α : Type} {d : α} {pre t : List α} {s : α}
theorem rdOf_mid : rdOf d (pre ++ s :: t) ((pre.length : Nat) : Int) = s := by simp [rdOf]
theorem rdOf_last {p : α} : rdOf d ((pre ++ [p]) ++ s :: t) ((pre.length : Nat) : Int) = p := by simp [rdOf]
theorem lt_mid : ((pre.length : Nat) : Int) < ((pre ++ s :: t).length : Int) := by simp; omega
theorem not_lt_end : ¬ ((pre.length : Nat) : Int) < ((pre ++ ([] : List α)).length : Int) := by simp
theorem len_one : ((pre ++ [s]).length : Int) = ((pre.length + 1 : Nat) : Int) := by simp
end
theorem rd_mid {pre t : List Int} {s : Int} : rd (pre ++ s :: t) ((pre.length : Nat) : Int) = s := by simp [rd]
theorem rd_get {xs : List Int} {i : Nat} (h : i < xs.length) : rd xs (i : Int) = xs[i] := by simp [rd, h]

theorem tl (s : ByteArray) : s.toList = s.data.toList := Lib.toList_data s
theorem tl_inj {x y : ByteArray} : x.toList = y.toList ↔ x = y := by
  rw [tl, tl]
  exact ⟨fun h => ByteArray.ext (Array.toList_inj.1 h), fun h => h ▸ rfl⟩
theorem size_len (s : ByteArray) : s.size = s.data.toList.length := (data_length s).symm
theorem bt_mid {s : ByteArray} {pre t : List UInt8} {c : UInt8} (h : s.data.toList = pre ++ c :: t) : bt s ((pre.length : Nat) : Int) = (c.toNat : Int) := by
  have hs : pre.length < s.size := by rw [size_len, h]; simp
  have hg : s[pre.length]'hs = c := by
    have : s.data.toList[pre.length]'(by rw [h]; simp) = c := by simp [h]
    rw [← this]; rfl
  unfold bt
  rw [dif_pos (by simpa using hs)]
  simp only [Int.toNat_natCast, hg]
theorem lt_size {s : ByteArray} {pre t : List UInt8} {c : UInt8} (h : s.data.toList = pre ++ c :: t) : ((pre.length : Nat) : Int) < (s.size : Int) := by rw [size_len, h]; simp; omega
theorem not_lt_size {s : ByteArray} {pre : List UInt8} (h : s.data.toList = pre ++ []) : ¬ ((pre.length : Nat) : Int) < (s.size : Int) := by rw [size_len, h]; simp
def lessS (a b : ByteArray) : Bool := Op.bytesLess a.toList b.toList
end Go.Proofs.YtephjmmkggcmeaaQ
namespace Go.Proofs.YtephjmmkggcmeaaQ
open Go Go.RowKit Go.Proofs.YtephjmmkggcmeaaW.PrintWords Go.Proofs.YtephjmmkggcmeaaGp Go.Proofs.Ytephjmmkggcmeaa.PL

theorem spec_in (n a b : Int) : spec_l1In.f n a b = some (decide (a ≤ n ∧ n ≤ b)) := by
  unfold spec_l1In.f
  by_cases h : a ≤ n <;> by_cases h' : n ≤ b <;> simp [h, h']
theorem impl_in (n a b : Int) : impl_in.f n a b = some (decide (a ≤ n ∧ n ≤ b)) := by
  unfold impl_in.f
  by_cases h : a ≤ n <;> by_cases h' : n ≤ b <;> simp [h, h']

def byteOk (c : UInt8) : Bool := decide (33 ≤ (c.toNat : Int) ∧ (c.toNat : Int) ≤ 125)
def isKeyB (s : ByteArray) : Bool := s.data.toList.all byteOk && decide (1 ≤ (s.size : Int) ∧ (s.size : Int) ≤ 12)
theorem spec_IsKey_l0 (x0 : ByteArray) (hz : (x0.size : Int) ≤ 9223372036854775806) : ∀ (t pre : List UInt8), x0.data.toList = pre ++ t →
    Ev (fun k => spec_IsKey.l0 k x0 (pre.length : Int)) (t.all byteOk && decide (1 ≤ (x0.size : Int) ∧ (x0.size : Int) ≤ 12)) := by
  intro t
  induction t with
  | nil =>
    intro pre h
    refine ev_succ ?_
    simp only [spec_IsKey.l0, spec_in, Option.bind_some]
    exact ev_neg (not_lt_size h) (ev_some (by simp))
  | cons c t ih =>
    intro pre h
    have hm := lt_size h
    refine ev_succ ?_
    simp only [spec_IsKey.l0, bt_mid h]
    refine ev_pos hm (ev_pos (by omega) ?_)
    by_cases c1 : (c.toNat : Int) < 33
    · exact ev_pos c1 (ev_some (by simp [byteOk]; omega))
    · refine ev_neg c1 ?_
      by_cases c2 : (c.toNat : Int) > 125
      · exact ev_pos c2 (ev_some (by simp [byteOk]; omega))
      · refine ev_neg c2 ?_
        rw [winc (by omega)]
        have := ih (pre ++ [c]) (by rw [h]; simp)
        rw [len_one] at this
        have hb : byteOk c = true := by simp [byteOk]; omega
        simpa [hb] using this
theorem spec_IsKey_f (s : ByteArray) (hz : (s.size : Int) ≤ 9223372036854775806) : Ev (fun k => spec_IsKey.f k s) (isKeyB s) := by
  unfold spec_IsKey.f
  exact spec_IsKey_l0 s hz s.data.toList [] rfl
theorem impl_IsKey_l0 (x0 : ByteArray) (hz : (x0.size : Int) ≤ 9223372036854775806) : ∀ (t pre : List UInt8), x0.data.toList = pre ++ t →
    Ev (fun k => impl_IsKey.l0 k x0 (x0.size : Int) (pre.length : Int)) (t.all byteOk && decide (1 ≤ (x0.size : Int) ∧ (x0.size : Int) ≤ 12)) := by
  intro t
  induction t with
  | nil =>
    intro pre h
    refine ev_succ ?_
    simp only [impl_IsKey.l0, impl_in, Option.bind_some]
    exact ev_neg (not_lt_size h) (ev_some (by simp))
  | cons c t ih =>
    intro pre h
    have hm := lt_size h
    refine ev_succ ?_
    simp only [impl_IsKey.l0, bt_mid h]
    refine ev_pos hm (ev_pos (by omega) (ev_pos hm ?_))
    by_cases c1 : (c.toNat : Int) < 33
    · exact ev_pos c1 (ev_some (by simp [byteOk]; omega))
    · refine ev_neg c1 ?_
      by_cases c2 : (c.toNat : Int) > 125
      · exact ev_pos c2 (ev_some (by simp [byteOk]; omega))
      · refine ev_neg c2 ?_
        rw [winc (by omega)]
        have := ih (pre ++ [c]) (by rw [h]; simp)
        rw [len_one] at this
        have hb : byteOk c = true := by simp [byteOk]; omega
        simpa [hb] using this
theorem impl_IsKey_f (s : ByteArray) (hz : (s.size : Int) ≤ 9223372036854775806) : Ev (fun k => impl_IsKey.f k s) (isKeyB s) := by
  unfold impl_IsKey.f
  exact impl_IsKey_l0 s hz s.data.toList [] rfl
theorem isKeyB_size {s : ByteArray} (h : isKeyB s = true) : 1 ≤ s.size ∧ s.size ≤ 12 := by
  simp [isKeyB] at h
  omega

def keysFrom : Option ByteArray → List ByteArray → Bool
  | _, [] => true
  | p, s :: t => isKeyB s && (match p with | none => true | some q => lessS q s) && keysFrom (some s) t
def areKeysB (l : List ByteArray) : Bool := keysFrom none l && decide ((l.length : Int) ≤ 40)
def lastOf (pre : List ByteArray) : Option ByteArray := pre.getLast?
theorem lastOf_one (pre : List ByteArray) (s : ByteArray) : lastOf (pre ++ [s]) = some s := by simp [lastOf]
theorem lastOf_nil : lastOf [] = none := rfl
theorem last_split {pre : List ByteArray} (h : 0 < pre.length) : ∃ q p, pre = q ++ [p] := by
  obtain ⟨x, hx⟩ : ∃ x, pre.getLast? = some x := by
    cases hp : pre.getLast? with
    | none => rw [List.getLast?_eq_none_iff] at hp; subst hp; simp at h
    | some x => exact ⟨x, rfl⟩
  obtain ⟨q, hq⟩ := List.getLast?_eq_some_iff.1 hx
  exact ⟨q, x, hq⟩

theorem spec_biKeys_l0 (x0 : List ByteArray) (hl : (x0.length : Int) ≤ 9223372036854775806) : ∀ (t pre : List ByteArray), x0 = pre ++ t → (∀ s ∈ t, (s.size : Int) ≤ 9223372036854775806) →
    Ev (fun k => spec_biKeys.l0 k x0 x0 (x0.length : Int) (pre.length : Int)) (keysFrom (lastOf pre) t && decide ((x0.length : Int) ≤ 40)) := by
  intro t
  induction t with
  | nil =>
    intro pre h hs
    refine ev_succ ?_
    simp only [spec_biKeys.l0]
    exact ev_neg (by rw [h]; exact not_lt_end) (ev_some (by simp [keysFrom]))
  | cons s t ih =>
    intro pre h hs
    have hm : ((pre.length : Nat) : Int) < (x0.length : Int) := by rw [h]; exact lt_mid
    have hg : rdOf ByteArray.empty x0 (pre.length : Int) = s := by rw [h]; exact rdOf_mid
    have next := ih (pre ++ [s]) (by rw [h]; simp) (fun x hx => hs x (by simp [hx]))
    rw [len_one, lastOf_one] at next
    refine ev_succ ?_
    simp only [spec_biKeys.l0, hg]
    refine ev_pos hm (ev_pos (by omega) (ev_pos hm (ev_bind _ (spec_IsKey_f s (hs s (by simp))) ?_)))
    cases hk : isKeyB s with
    | false => exact ev_neg (by simp) (ev_some (by simp [keysFrom, hk]))
    | true =>
      refine ev_pos rfl ?_
      by_cases c : 0 < pre.length
      · obtain ⟨q, p, rfl⟩ := last_split c
        have hp : rdOf ByteArray.empty x0 ((q.length : Nat) : Int) = p := by rw [h]; exact rdOf_last
        have hw : wrap64 (((q ++ [p]).length : Int) - 1) = (q.length : Int) := by rw [len_one]; exact wdec (by simp at hm; omega)
        simp only [hw, hp, lastOf_one, keysFrom, hk, Bool.true_and]
        refine ev_pos (by omega) (ev_pos (by omega) (ev_pos (by simp at hm; omega) ?_))
        by_cases c2 : lessS p s = true
        · refine ev_pos c2 ?_
          rw [winc (by omega), c2, Bool.true_and]
          exact next
        · refine ev_neg c2 (ev_some ?_)
          simp only [Bool.not_eq_true] at c2
          simp [c2]
      · obtain rfl := List.length_eq_zero_iff.1 (show pre.length = 0 by omega)
        refine ev_neg (by simp) ?_
        rw [winc (by omega)]
        simp only [lastOf_nil, keysFrom, hk, Bool.true_and]
        exact next
theorem spec_biKeys_f (l : List ByteArray) (hl : (l.length : Int) ≤ 9223372036854775806) (hs : ∀ s ∈ l, (s.size : Int) ≤ 9223372036854775806) : Ev (fun k => spec_biKeys.f k l) (areKeysB l) := by
  unfold spec_biKeys.f
  exact spec_biKeys_l0 l hl l [] rfl hs
theorem impl_AreKeys_l0 (x0 : List ByteArray) (hl : (x0.length : Int) ≤ 9223372036854775806) : ∀ (t pre : List ByteArray), x0 = pre ++ t → (∀ s ∈ t, (s.size : Int) ≤ 9223372036854775806) →
    Ev (fun k => impl_AreKeys.l0 k x0 x0 (x0.length : Int) (pre.length : Int)) (keysFrom (lastOf pre) t && decide ((x0.length : Int) ≤ 40)) := by
  intro t
  induction t with
  | nil =>
    intro pre h hs
    refine ev_succ ?_
    simp only [impl_AreKeys.l0]
    exact ev_neg (by rw [h]; exact not_lt_end) (ev_some (by simp [keysFrom]))
  | cons s t ih =>
    intro pre h hs
    have hm : ((pre.length : Nat) : Int) < (x0.length : Int) := by rw [h]; exact lt_mid
    have hg : rdOf ByteArray.empty x0 (pre.length : Int) = s := by rw [h]; exact rdOf_mid
    have next := ih (pre ++ [s]) (by rw [h]; simp) (fun x hx => hs x (by simp [hx]))
    rw [len_one, lastOf_one] at next
    refine ev_succ ?_
    simp only [impl_AreKeys.l0, hg]
    refine ev_pos hm (ev_pos (by omega) (ev_pos hm (ev_bind _ (impl_IsKey_f s (hs s (by simp))) ?_)))
    cases hk : isKeyB s with
    | false => exact ev_neg (by simp) (ev_some (by simp [keysFrom, hk]))
    | true =>
      refine ev_pos rfl ?_
      by_cases c : 0 < pre.length
      · obtain ⟨q, p, rfl⟩ := last_split c
        have hp : rdOf ByteArray.empty x0 ((q.length : Nat) : Int) = p := by rw [h]; exact rdOf_last
        have hw : wrap64 (((q ++ [p]).length : Int) - 1) = (q.length : Int) := by rw [len_one]; exact wdec (by simp at hm; omega)
        simp only [hw, hp, lastOf_one, keysFrom, hk, Bool.true_and]
        refine ev_pos (by omega) (ev_pos (by omega) (ev_pos (by simp at hm; omega) ?_))
        by_cases c2 : lessS p s = true
        · refine ev_pos c2 ?_
          rw [winc (by omega), c2, Bool.true_and]
          exact next
        · refine ev_neg c2 (ev_some ?_)
          simp only [Bool.not_eq_true] at c2
          simp [c2]
      · obtain rfl := List.length_eq_zero_iff.1 (show pre.length = 0 by omega)
        refine ev_neg (by simp) ?_
        rw [winc (by omega)]
        simp only [lastOf_nil, keysFrom, hk, Bool.true_and]
        exact next
theorem impl_AreKeys_f (l : List ByteArray) (hl : (l.length : Int) ≤ 9223372036854775806) (hs : ∀ s ∈ l, (s.size : Int) ≤ 9223372036854775806) : Ev (fun k => impl_AreKeys.f k l) (areKeysB l) := by
  unfold impl_AreKeys.f
  exact impl_AreKeys_l0 l hl l [] rfl hs
theorem areKeysB_len {l : List ByteArray} (h : areKeysB l = true) : l.length ≤ 40 := by
  simp [areKeysB] at h
  omega
theorem keysFrom_all : ∀ (p : Option ByteArray) (l : List ByteArray), keysFrom p l = true → ∀ s ∈ l, isKeyB s = true
  | _, [], _, s, h => by simp at h
  | p, x :: t, hk, s, h => by
    simp only [keysFrom, Bool.and_eq_true] at hk
    rcases List.mem_cons.1 h with rfl | h
    · exact hk.1.1
    · exact keysFrom_all _ t hk.2 s h
theorem areKeysB_all {l : List ByteArray} (h : areKeysB l = true) : ∀ s ∈ l, isKeyB s = true := by
  simp only [areKeysB, Bool.and_eq_true] at h
  exact keysFrom_all _ _ h.1
end Go.Proofs.YtephjmmkggcmeaaQ
namespace Go.Proofs.YtephjmmkggcmeaaQ
open Go Go.RowKit Go.Proofs.YtephjmmkggcmeaaW.PrintWords Go.Proofs.YtephjmmkggcmeaaGp Go.Proofs.Ytephjmmkggcmeaa.PL

def mm (x y : Int) : Int := Int.tmod (wrap64 (x * y)) 65521
theorem mul_range {x y : Int} (hx : 0 ≤ x) (hx1 : x ≤ 65520) (hy : 0 ≤ y) (hy1 : y ≤ 65520) : 0 ≤ x * y ∧ x * y ≤ 4292870400 :=
  ⟨Int.mul_nonneg hx hy, by have := Int.mul_le_mul hx1 hy1 hy (by omega); omega⟩
theorem emod_range (x : Int) : 0 ≤ x % 65521 ∧ x % 65521 ≤ 65520 := by omega
theorem mm_eq {x y : Int} (hx : 0 ≤ x) (hx1 : x ≤ 65520) (hy : 0 ≤ y) (hy1 : y ≤ 65520) : mm x y = x * y % 65521 := by
  obtain ⟨h0, h1⟩ := mul_range hx hx1 hy hy1
  unfold mm
  rw [w64 (by omega) (by omega)]
  exact Int.tmod_eq_emod_of_nonneg h0
theorem mm_mod (a b : Int) : mm (a % 65521) (b % 65521) = a * b % 65521 := by
  rw [mm_eq (emod_range a).1 (emod_range a).2 (emod_range b).1 (emod_range b).2]
  exact (Int.mul_emod a b 65521).symm
def pw (h : Int) : Nat → Int
  | 0 => 1
  | n + 1 => pw h n * h
theorem self_mod {h : Int} (h0 : 0 ≤ h) (h1 : h ≤ 65520) : h = h % 65521 := by omega
theorem mm11 {h : Int} (h0 : 0 ≤ h) (h1 : h ≤ 65520) : mm (mm (mm (mm (mm h h) (mm h h)) h) (mm (mm (mm h h) (mm h h)) h)) h = pw h 11 % 65521 := by
  have e := self_mod h0 h1
  have a2 : mm h h = h * h % 65521 := mm_eq h0 h1 h0 h1
  have a4 : mm (mm h h) (mm h h) = (h * h) * (h * h) % 65521 := by rw [a2, mm_mod]
  have a5 : mm (mm (mm h h) (mm h h)) h = (h * h) * (h * h) * h % 65521 := by
    rw [a4]; conv => lhs; arg 2; rw [e]
    rw [mm_mod]
  rw [a5, mm_mod]
  conv => lhs; arg 2; rw [e]
  rw [mm_mod]
  congr 1
  simp only [pw, Int.one_mul, Int.mul_assoc]
theorem mm_pw {h : Int} (h0 : 0 ≤ h) (h1 : h ≤ 65520) (n : Nat) : mm (pw h n % 65521) h = pw h (n + 1) % 65521 := by
  conv => lhs; arg 2; rw [self_mod h0 h1]
  rw [mm_mod]
  rfl

def hstep (h : Int) (c : UInt8) : Int := Int.tmod (wrap64 ((wrap64 (263 * h)) + (wrap64 (c.toNat : Int)))) 65521
def hfold (h : Int) (l : List UInt8) : Int := l.foldl hstep h
theorem hstep_range {h : Int} {c : UInt8} (h0 : 0 ≤ h) (h1 : h ≤ 65520) : 0 ≤ hstep h c ∧ hstep h c ≤ 65520 := by
  have hc : c.toNat < 256 := c.toNat_lt
  unfold hstep
  rw [w64 (x := 263 * h) (by omega) (by omega), w64 (x := (c.toNat : Int)) (by omega) (by omega), w64 (by omega) (by omega), Int.tmod_eq_emod_of_nonneg (by omega)]
  omega
def hstart (a0 a1 : Int) : Int := Int.tmod (wrap64 ((wrap64 ((wrap64 (31 * a0)) + (wrap64 (977 * a1)))) + 7)) 65521
theorem hstart_range {a0 a1 : Int} (h0 : 0 ≤ a0) (h0' : a0 ≤ 1000000) (h1 : 0 ≤ a1) (h1' : a1 ≤ 1000000) : 0 ≤ hstart a0 a1 ∧ hstart a0 a1 ≤ 65520 := by
  unfold hstart
  rw [w64 (x := 31 * a0) (by omega) (by omega), w64 (x := 977 * a1) (by omega) (by omega), w64 (x := 31 * a0 + 977 * a1) (by omega) (by omega), w64 (by omega) (by omega), Int.tmod_eq_emod_of_nonneg (by omega)]
  omega
def hashV (a0 a1 : Int) (s : ByteArray) : Int := pw (hfold (hstart a0 a1) s.data.toList) 11 % 65521
theorem hashV_range (a0 a1 : Int) (s : ByteArray) : 0 ≤ hashV a0 a1 s ∧ hashV a0 a1 s ≤ 65520 := emod_range _
theorem spec_biHash_l0 (x2 : ByteArray) (hz : (x2.size : Int) ≤ 9223372036854775806) : ∀ (t pre : List UInt8) (h : Int), x2.data.toList = pre ++ t → 0 ≤ h → h ≤ 65520 →
    Ev (fun k => spec_biHash.l0 k x2 h (pre.length : Int)) (pw (hfold h t) 11 % 65521) := by
  intro t
  induction t with
  | nil =>
    intro pre h e h0 h1
    refine ev_succ ?_
    simp only [spec_biHash.l0]
    refine ev_neg (not_lt_size e) (ev_some ?_)
    exact mm11 h0 h1
  | cons c t ih =>
    intro pre h e h0 h1
    have hm := lt_size e
    refine ev_succ ?_
    simp only [spec_biHash.l0, bt_mid e]
    refine ev_pos hm (ev_pos (by omega) ?_)
    rw [winc (by omega)]
    have := ih (pre ++ [c]) (hstep h c) (by rw [e]; simp) (hstep_range h0 h1).1 (hstep_range h0 h1).2
    rw [len_one] at this
    exact this
theorem spec_biHash_f (a0 a1 : Int) (s : ByteArray) (hz : (s.size : Int) ≤ 9223372036854775806) (h0 : 0 ≤ a0) (h0' : a0 ≤ 1000000) (h1 : 0 ≤ a1) (h1' : a1 ≤ 1000000) :
    Ev (fun k => spec_biHash.f k a0 a1 s) (hashV a0 a1 s) := by
  unfold spec_biHash.f
  exact spec_biHash_l0 s hz s.data.toList [] _ rfl (hstart_range h0 h0' h1 h1').1 (hstart_range h0 h0' h1 h1').2
theorem impl_hash_l1 {h : Int} (h0 : 0 ≤ h) (h1 : h ≤ 65520) : ∀ (m i : Nat), i + m = 11 → Ev (fun k => impl_hash.l1 k h (pw h i % 65521) (i : Int)) (pw h 11 % 65521) := by
  intro m
  induction m with
  | zero =>
    intro i e
    obtain rfl : i = 11 := by omega
    refine ev_succ ?_
    simp only [impl_hash.l1]
    exact ev_neg (by omega) (ev_some rfl)
  | succ m ih =>
    intro i e
    refine ev_succ ?_
    simp only [impl_hash.l1]
    refine ev_pos (by omega) ?_
    rw [winc (by omega)]
    have := ih (i + 1) (by omega)
    rw [← mm_pw h0 h1 i] at this
    exact this
theorem impl_hash_l0 (x2 : ByteArray) (hz : (x2.size : Int) ≤ 9223372036854775806) : ∀ (t pre : List UInt8) (h : Int), x2.data.toList = pre ++ t → 0 ≤ h → h ≤ 65520 →
    Ev (fun k => impl_hash.l0 k x2 h (x2.size : Int) (pre.length : Int)) (pw (hfold h t) 11 % 65521) := by
  intro t
  induction t with
  | nil =>
    intro pre h e h0 h1
    refine ev_succ ?_
    simp only [impl_hash.l0]
    exact ev_neg (not_lt_size e) (impl_hash_l1 h0 h1 11 0 rfl)
  | cons c t ih =>
    intro pre h e h0 h1
    have hm := lt_size e
    refine ev_succ ?_
    simp only [impl_hash.l0, bt_mid e]
    refine ev_pos hm (ev_pos (by omega) (ev_pos hm ?_))
    rw [winc (by omega)]
    have := ih (pre ++ [c]) (hstep h c) (by rw [e]; simp) (hstep_range h0 h1).1 (hstep_range h0 h1).2
    rw [len_one] at this
    exact this
theorem impl_hash_f (a0 a1 : Int) (s : ByteArray) (hz : (s.size : Int) ≤ 9223372036854775806) (h0 : 0 ≤ a0) (h0' : a0 ≤ 1000000) (h1 : 0 ≤ a1) (h1' : a1 ≤ 1000000) :
    Ev (fun k => impl_hash.f k a0 a1 s) (hashV a0 a1 s) := by
  unfold impl_hash.f
  exact impl_hash_l0 s hz s.data.toList [] _ rfl (hstart_range h0 h0' h1 h1').1 (hstart_range h0 h0' h1 h1').2

def placeV (a0 a1 : Int) (s : ByteArray) (n : Int) : Int := wrap64 (Int.tdiv (wrap64 (hashV a0 a1 s * n)) 65521)
theorem placeV_range (a0 a1 : Int) (s : ByteArray) {n : Int} (h0 : 1 ≤ n) (h1 : n ≤ 1000000) : 0 ≤ placeV a0 a1 s n ∧ placeV a0 a1 s n < n := by
  obtain ⟨a, b⟩ := hashV_range a0 a1 s
  have c := Int.mul_nonneg a (show (0 : Int) ≤ n by omega)
  have d := Int.mul_le_mul_of_nonneg_right b (show (0 : Int) ≤ n by omega)
  unfold placeV
  generalize hashV a0 a1 s * n = y at *
  rw [w64 (x := y) (by omega) (by omega), Int.tdiv_eq_ediv_of_nonneg (by omega), w64 (by omega) (by omega)]
  omega
theorem spec_biPlace_f (a0 a1 : Int) (s : ByteArray) (n : Int) (hz : (s.size : Int) ≤ 9223372036854775806) (h0 : 0 ≤ a0) (h0' : a0 ≤ 1000000) (h1 : 0 ≤ a1) (h1' : a1 ≤ 1000000) :
    Ev (fun k => spec_biPlace.f k a0 a1 s n) (placeV a0 a1 s n) := by
  unfold spec_biPlace.f
  exact ev_bind _ (spec_biHash_f a0 a1 s hz h0 h0' h1 h1') (Ev.now _)
theorem impl_place_f (a0 a1 : Int) (s : ByteArray) (n : Int) (hz : (s.size : Int) ≤ 9223372036854775806) (h0 : 0 ≤ a0) (h0' : a0 ≤ 1000000) (h1 : 0 ≤ a1) (h1' : a1 ≤ 1000000) :
    Ev (fun k => impl_place.f k a0 a1 s n) (placeV a0 a1 s n) := by
  unfold impl_place.f
  exact ev_bind _ (impl_hash_f a0 a1 s hz h0 h0' h1 h1') (Ev.now _)
end Go.Proofs.YtephjmmkggcmeaaQ
namespace Go.Proofs.YtephjmmkggcmeaaQ
open Go Go.RowKit Go.Proofs.YtephjmmkggcmeaaW.PrintWords Go.Proofs.YtephjmmkggcmeaaGp Go.Proofs.Ytephjmmkggcmeaa.PL

structure Bys (s : List Int) : Prop where
  len : (s.length : Int) ≤ 1048576
  all : ∀ x ∈ s, 0 ≤ x ∧ x ≤ 255
theorem and255 (x : Int) : 0 ≤ Go.bits .and .u64 x 255 ∧ Go.bits .and .u64 x 255 ≤ 255 := by
  have e : Go.bits .and .u64 x 255 = IntKind.u64.wrap (((BitVec.ofInt 64 x &&& BitVec.ofInt 64 255 : BitVec 64)).toNat : Int) := by unfold Go.bits; rfl
  have h : ((BitVec.ofInt 64 x &&& BitVec.ofInt 64 255 : BitVec 64)).toNat ≤ 255 := by
    rw [BitVec.toNat_and]
    exact Nat.and_le_right
  rw [e]
  unfold IntKind.wrap
  simp only [IntKind.bits, IntKind.signed]
  generalize (BitVec.ofInt 64 x &&& BitVec.ofInt 64 255 : BitVec 64).toNat = m at h
  simp
  omega
theorem rd_by {s : List Int} (hs : Bys s) (i : Int) : 0 ≤ rd s i ∧ rd s i ≤ 255 := by
  unfold rd
  by_cases c : i.toNat < s.length
  · rw [List.getD_eq_getElem?_getD, List.getElem?_eq_getElem c]
    exact hs.all _ (List.getElem_mem c)
  · rw [List.getD_eq_getElem?_getD, List.getElem?_eq_none (by omega)]
    simp
theorem next_ok {s : List Int} (hs : Bys s) {p : Int} (sd : Int) (h0 : 0 ≤ p) (h1 : p ≤ 4000000000000000000) :
    ∃ v p' sd', spec_l1Cur_next.f s p sd = some (v, p', sd') ∧ (0 ≤ v ∧ v ≤ 255) ∧ 0 ≤ p' ∧ p' ≤ p + 1 := by
  have hb := rd_by hs p
  have w1 : wrap64 (p + 1) = p + 1 := w64 (by omega) (by omega)
  have w2 : wrap64 (rd s p) = rd s p := w64 (by omega) (by omega)
  unfold spec_l1Cur_next.f
  rw [w1, w2]
  by_cases c : p < (s.length : Int)
  · rw [if_pos c, if_pos h0]
    split
    · exact ⟨_, _, _, rfl, hb, by omega, by omega⟩
    · omega
  · rw [if_neg c, if_neg (by omega)]
    refine ⟨_, _, _, rfl, ?_, by omega, by omega⟩
    have := and255 ((IntKind.u64.wrap ((IntKind.u64.wrap (IntKind.u64.wrap (sd * 6364136223846793005))) + 1442695040888963407)) / 1099511627776)
    rw [w64 (by omega) (by omega)]
    exact this
theorem pick_ok {s : List Int} (hs : Bys s) {p : Int} (sd : Int) {n : Int} (h0 : 0 ≤ p) (h1 : p ≤ 3000000000000000000) :
    ∃ v p' sd', spec_l1Cur_pick.f s p sd n = some (v, p', sd') ∧ (0 ≤ v ∧ (v < n ∨ v = 0)) ∧ 0 ≤ p' ∧ p' ≤ p + 2 := by
  unfold spec_l1Cur_pick.f
  by_cases c : n ≤ 1
  · rw [if_pos c]; exact ⟨_, _, _, rfl, ⟨by omega, .inr rfl⟩, h0, by omega⟩
  obtain ⟨v, p', sd', e, hv, q0, q1⟩ := next_ok hs sd h0 (by omega)
  have hn : ¬ n = 0 := by omega
  rw [if_neg c, e]
  simp only [Option.bind_some, if_neg hn]
  by_cases d : n > 200
  · obtain ⟨u, p2, sd2, e2, hu, r0, r1⟩ := next_ok hs sd' q0 (by omega)
    rw [if_pos d, e2]
    simp only [Option.bind_some]
    refine ⟨_, _, _, rfl, ?_, r0, by omega⟩
    rw [w64 (x := v * 256) (by omega) (by omega), w64 (x := v * 256 + u) (by omega) (by omega), Int.tmod_eq_emod_of_nonneg (by omega)]
    exact ⟨Int.emod_nonneg _ hn, .inl (Int.emod_lt_of_pos _ (by omega))⟩
  · rw [if_neg d]
    refine ⟨_, _, _, rfl, ?_, q0, by omega⟩
    rw [Int.tmod_eq_emod_of_nonneg hv.1]
    exact ⟨Int.emod_nonneg _ hn, .inl (Int.emod_lt_of_pos _ (by omega))⟩
theorem one_ok {s : List Int} (hs : Bys s) {p : Int} (sd : Int) (n : Int) (h0 : 0 ≤ p) (h1 : p ≤ 3000000000000000000) :
    ∃ v p' sd', spec_l1Cur_one.f s p sd n = some (v, p', sd') ∧ 0 ≤ p' ∧ p' ≤ p + 2 := by
  obtain ⟨v, p', sd', e, _, q0, q1⟩ := pick_ok hs sd (n := n) h0 h1
  unfold spec_l1Cur_one.f
  rw [e]
  exact ⟨_, _, _, rfl, q0, q1⟩
theorem among_ok {s : List Int} (hs : Bys s) {p : Int} (sd : Int) {l : List Int} (hl : 0 < l.length) (h0 : 0 ≤ p) (h1 : p ≤ 3000000000000000000) :
    ∃ v p' sd', spec_l1Cur_among.f s p sd l = some (v, p', sd') ∧ v ∈ l ∧ 0 ≤ p' ∧ p' ≤ p + 2 := by
  obtain ⟨v, p', sd', e, hv, q0, q1⟩ := pick_ok hs sd (n := (l.length : Int)) h0 h1
  have hm : rd l v ∈ l := by
    unfold rd
    have : v.toNat < l.length := by omega
    rw [List.getD_eq_getElem?_getD, List.getElem?_eq_getElem this]
    exact List.getElem_mem this
  unfold spec_l1Cur_among.f
  rw [e]
  simp only [Option.bind_some]
  rw [if_pos (by omega), if_pos (by omega)]
  exact ⟨_, _, _, rfl, hm, q0, q1⟩
theorem strOf_size (l : List Int) : (strOfNums l).size = l.length := by simp [strOfNums, ByteArray.size]

def Dr {α : Type} (g : Nat → Option (α × Int × Int)) (p c : Int) (P : α → Prop) : Prop := ∃ v p' sd', Ev g (v, p', sd') ∧ P v ∧ 0 ≤ p' ∧ p' ≤ p + c
theorem key_l1 (s : List Int) (p sd : Int) : ∀ (d : Nat) (x : List Int), 12 - x.length ≤ d → x.length ≤ 12 →
    ∃ v, Ev (fun k => spec_l1Cur_key.l1 k x s p sd) (v, p, sd) ∧ v.size ≤ 12 := by
  intro d
  induction d with
  | zero =>
    intro x h1 h2
    refine ⟨strOfNums x, ev_succ ?_, by rw [strOf_size]; omega⟩
    simp only [spec_l1Cur_key.l1]
    exact ev_neg (by omega) (Ev.now _)
  | succ d ih =>
    intro x h1 h2
    by_cases c : (x.length : Int) < 12
    · obtain ⟨v, e, hv⟩ := ih (x ++ [97]) (by simp; omega) (by simp; omega)
      refine ⟨v, ev_succ ?_, hv⟩
      simp only [spec_l1Cur_key.l1]
      exact ev_pos c (ev_pos (by omega) e)
    · refine ⟨strOfNums x, ev_succ ?_, by rw [strOf_size]; omega⟩
      simp only [spec_l1Cur_key.l1]
      exact ev_neg c (Ev.now _)
theorem key_l0 {s : List Int} (hs : Bys s) : ∀ (n : Nat) (x : List Int) (p sd : Int), x.length + n ≤ 12 → 0 ≤ p → p + 2 * (n : Int) ≤ 2000000000000000000 →
    Dr (fun k => spec_l1Cur_key.l0 k x (n : Int) s p sd) p (2 * (n : Int) + 2) (fun v => v.size ≤ 12) := by
  intro n
  induction n with
  | zero =>
    intro x p sd hx h0 h1
    obtain ⟨v, p', sd', e, q0, q1⟩ := one_ok hs sd 12 h0 (by omega)
    by_cases c : v = true
    · obtain ⟨u, eu, hu⟩ := key_l1 s p' sd' 12 x (by omega) (by omega)
      refine ⟨u, p', sd', ev_succ ?_, hu, q0, by omega⟩
      simp only [spec_l1Cur_key.l0, e]
      exact ev_neg (by omega) (ev_bind _ (Ev.now _) (ev_pos c eu))
    · refine ⟨strOfNums x, p', sd', ev_succ ?_, (by rw [strOf_size]; omega : (strOfNums x).size ≤ 12), q0, by omega⟩
      simp only [spec_l1Cur_key.l0, e]
      exact ev_neg (by omega) (ev_bind _ (Ev.now _) (ev_neg c (Ev.now _)))
  | succ n ih =>
    intro x p sd hx h0 h1
    obtain ⟨v, p', sd', e, hv, q0, q1⟩ := pick_ok hs sd (n := 11) h0 (by omega)
    obtain ⟨u, p2, sd2, eu, hu, r0, r1⟩ := ih (x ++ [bt (⟨#[97, 97, 98, 98, 99, 120, 121, 122, 33, 125, 48]⟩ : ByteArray) v]) p' sd' (by simp; omega) q0 (by omega)
    refine ⟨u, p2, sd2, ev_succ ?_, hu, r0, by omega⟩
    simp only [spec_l1Cur_key.l0, e]
    refine ev_pos (by omega) (ev_bind _ (Ev.now _) (ev_pos hv.1 (ev_pos (by omega) (ev_pos (by omega) ?_))))
    rw [wdec (by omega)]
    exact eu
theorem key_ok {s : List Int} (hs : Bys s) {p : Int} (sd : Int) (h0 : 0 ≤ p) (h1 : p ≤ 1000000000000000000) : Dr (fun k => spec_l1Cur_key.f k s p sd) p 12 (fun v => v.size ≤ 12) := by
  obtain ⟨v, p', sd', e, hv, q0, q1⟩ := pick_ok hs sd (n := 4) h0 (by omega)
  obtain ⟨u, p2, sd2, eu, hu, r0, r1⟩ := key_l0 hs (v.toNat + 1) [] p' sd' (by simp; omega) q0 (by omega)
  refine ⟨u, p2, sd2, ?_, hu, r0, by omega⟩
  unfold spec_l1Cur_key.f
  rw [e]
  refine ev_bind _ (Ev.now _) ?_
  rw [w64 (by omega) (by omega), show 1 + v = ((v.toNat + 1 : Nat) : Int) from by omega]
  exact eu
def insK (s : ByteArray) : List ByteArray → List ByteArray
  | [] => [s]
  | q :: t => if lessS q s = true then q :: insK s t else if q = s then q :: t else s :: q :: t
theorem insK_len (s : ByteArray) : ∀ l, (insK s l).length ≤ l.length + 1
  | [] => by simp [insK]
  | q :: t => by
    have := insK_len s t
    unfold insK
    split
    · simp; omega
    · split <;> simp
theorem insK_mem (s : ByteArray) : ∀ l, ∀ x ∈ insK s l, x = s ∨ x ∈ l
  | [], x, h => by simp [insK] at h; exact .inl h
  | q :: t, x, h => by
    unfold insK at h
    split at h
    · rcases List.mem_cons.1 h with e | e
      · exact .inr (by simp [e])
      · rcases insK_mem s t x e with e | e
        · exact .inl e
        · exact .inr (by simp [e])
    · split at h
      · exact .inr h
      · rcases List.mem_cons.1 h with e | e
        · exact .inl e
        · exact .inr e
theorem putS_l0 (x0 : List ByteArray) (s : ByteArray) (hx : x0.length ≤ 1000000) : ∀ (t pre : List ByteArray), x0 = pre ++ t →
    Ev (fun k => spec_l1PutS.l0 k x0 s (pre.length : Int)) (pre ++ insK s t) := by
  intro t
  induction t with
  | nil =>
    intro pre h
    have hp : x0 = pre := by rw [h, List.append_nil]
    subst hp
    refine ev_succ ?_
    simp only [spec_l1PutS.l0]
    refine ev_neg (by omega) (ev_bind _ (Ev.now _) (ev_pos (by omega) (ev_pos (by omega) (ev_bind _ (Ev.now _) ?_))))
    rw [Int.toNat_natCast, List.take_length, List.nil_append]
    refine ev_pos (by simp; omega) (ev_bind _ (Ev.now _) (ev_pos (by omega) (ev_bind _ (Ev.now _) (ev_bind _ (Ev.now _) (ev_pos (by simp; omega) (ev_some ?_))))))
    simp [insK]
  | cons q t ih =>
    intro pre h
    have hm : ((pre.length : Nat) : Int) < (x0.length : Int) := by rw [h]; exact lt_mid
    have hg : rdOf ByteArray.empty x0 (pre.length : Int) = q := by rw [h]; exact rdOf_mid
    refine ev_succ ?_
    simp only [spec_l1PutS.l0, hg]
    refine ev_pos hm (ev_pos (by omega) ?_)
    unfold insK
    by_cases c : lessS q s = true
    · refine ev_pos c ?_
      rw [winc (by omega), if_pos c]
      have := ih (pre ++ [q]) (by rw [h]; simp)
      rw [len_one] at this
      simpa using this
    · refine ev_neg c ?_
      rw [if_neg c]
      by_cases d : q = s
      · refine ev_pos (tl_inj.2 d) (ev_some ?_)
        rw [if_pos d, h]
      · refine ev_neg (fun e => d (tl_inj.1 e)) (ev_bind _ (Ev.now _) (ev_pos (by omega) (ev_bind _ (Ev.now _) ?_)))
        have et : x0.take pre.length = pre := by rw [h]; simp
        have ed : x0.drop pre.length = q :: t := by rw [h]; simp
        have hl : x0.length = pre.length + (t.length + 1) := by rw [h]; simp
        rw [Int.toNat_natCast, et, ed, List.nil_append, if_neg d]
        refine ev_pos (by simp; omega) (ev_bind _ (Ev.now _) (ev_pos (by omega) (ev_bind _ (Ev.now _) (ev_bind _ (Ev.now _) (ev_pos (by simp; omega) (ev_some ?_))))))
        simp
theorem putS_f (l : List ByteArray) (s : ByteArray) (h : l.length ≤ 1000000) : Ev (fun k => spec_l1PutS.f k l s) (insK s l) := putS_l0 l s h l [] rfl
def Kys (m : Nat) (l : List ByteArray) : Prop := l.length ≤ m ∧ ∀ s ∈ l, s.size ≤ 13
theorem Kys.ins {m : Nat} {l : List ByteArray} (h : Kys m l) {s : ByteArray} (hs : s.size ≤ 13) : Kys (m + 1) (insK s l) :=
  ⟨by have := insK_len s l; have := h.1; omega, fun x hx => by exact (insK_mem s l x hx).elim (fun e => e ▸ hs) (h.2 x)⟩
theorem Kys.one {m : Nat} {l : List ByteArray} (h : Kys m l) {s : ByteArray} (hs : s.size ≤ 13) : Kys (m + 1) (l ++ [s]) :=
  ⟨by have := h.1; simp; omega, fun x hx => by exact (List.mem_append.1 hx).elim (h.2 x) (fun e => List.mem_singleton.1 e ▸ hs)⟩
theorem Kys.mono {m m' : Nat} {l : List ByteArray} (h : Kys m l) (hm : m ≤ m') : Kys m' l := ⟨Nat.le_trans h.1 hm, h.2⟩
theorem keys_l0 {s : List Int} (hs : Bys s) : ∀ (n m : Nat) (x : List ByteArray) (p sd : Int), Kys m x → m + n ≤ 1000 → 0 ≤ p → p + 12 * (n : Int) ≤ 500000000000000000 →
    Dr (fun k => spec_l1Cur_keys.l0 k x (n : Int) s p sd) p (12 * (n : Int)) (Kys (m + n)) := by
  intro n
  induction n with
  | zero =>
    intro m x p sd hx hm h0 h1
    refine ⟨x, p, sd, ev_succ ?_, hx, h0, by omega⟩
    simp only [spec_l1Cur_keys.l0]
    exact ev_neg (by omega) (Ev.now _)
  | succ n ih =>
    intro m x p sd hx hm h0 h1
    obtain ⟨v, p', sd', e, hv, q0, q1⟩ := key_ok hs sd h0 (by omega)
    have hl := hx.1
    obtain ⟨u, p2, sd2, eu, hu, r0, r1⟩ := ih (m + 1) (insK v x) p' sd' (hx.ins (by omega)) (by omega) q0 (by omega)
    refine ⟨u, p2, sd2, ev_succ ?_, hu.mono (by omega), r0, by omega⟩
    simp only [spec_l1Cur_keys.l0]
    refine ev_pos (by omega) (ev_bind _ e (ev_bind _ (putS_f x v (by omega)) ?_))
    rw [wdec (by omega)]
    exact eu
theorem keys_ok {s : List Int} (hs : Bys s) {p : Int} (sd : Int) {n : Nat} (hn : n ≤ 100) (h0 : 0 ≤ p) (h1 : p ≤ 400000000000000000) : Dr (fun k => spec_l1Cur_keys.f k s p sd (n : Int)) p (12 * (n : Int) + 2) (Kys n) := by
  obtain ⟨v, p', sd', e, hv, q0, q1⟩ := pick_ok hs sd (n := (n : Int) + 1) h0 (by omega)
  obtain ⟨u, p2, sd2, eu, hu, r0, r1⟩ := keys_l0 hs v.toNat 0 [] p' sd' ⟨by simp, by simp⟩ (by omega) q0 (by omega)
  refine ⟨u, p2, sd2, ?_, hu.mono (by omega), r0, by omega⟩
  unfold spec_l1Cur_keys.f
  rw [w64 (x := (n : Int) + 1) (by omega) (by omega), e]
  refine ev_bind _ (Ev.now _) ?_
  rw [show ((v.toNat : Nat) : Int) = v from by omega] at eu
  exact eu
end Go.Proofs.YtephjmmkggcmeaaQ
namespace Go.Proofs.YtephjmmkggcmeaaQ
open Go Go.RowKit Go.Proofs.YtephjmmkggcmeaaW.PrintWords Go.Proofs.YtephjmmkggcmeaaGp Go.Proofs.Ytephjmmkggcmeaa.PL

theorem Dr.mono {α : Type} {g : Nat → Option (α × Int × Int)} {p c c' : Int} {P P' : α → Prop} (h : Dr g p c P) (hc : c ≤ c') (hP : ∀ x, P x → P' x) : Dr g p c' P' := by
  obtain ⟨v, p', sd', e, hv, q0, q1⟩ := h
  exact ⟨v, p', sd', e, hP v hv, q0, by omega⟩
theorem seed9_ok {s : List Int} (hs : Bys s) {p : Int} (sd : Int) (h0 : 0 ≤ p) (h1 : p ≤ 1000000000000000000) :
    ∃ v p' sd', spec_l1Cur_seed9.f s p sd = some (v, p', sd') ∧ (-1 ≤ v ∧ v ≤ 10000) ∧ 0 ≤ p' ∧ p' ≤ p + 4 := by
  obtain ⟨v, p', sd', e, hv, q0, q1⟩ := pick_ok hs sd (n := 12) h0 (by omega)
  unfold spec_l1Cur_seed9.f
  rw [e]
  simp only [Option.bind_some]
  by_cases c : v = 0
  · obtain ⟨u, p2, sd2, eu, hu, r0, r1⟩ := among_ok hs sd' (l := [(-1), 9999, 10000]) (by simp) q0 (by omega)
    rw [if_pos c, eu]
    refine ⟨u, p2, sd2, rfl, ?_, r0, by omega⟩
    simp only [List.mem_cons, List.not_mem_nil, or_false] at hu
    omega
  · rw [if_neg c]
    by_cases d : v = 1
    · obtain ⟨u, p2, sd2, eu, hu, r0, r1⟩ := pick_ok hs sd' (n := 10000) q0 (by omega)
      rw [if_pos d, eu]
      exact ⟨u, p2, sd2, rfl, by omega, r0, by omega⟩
    · obtain ⟨u, p2, sd2, eu, hu, r0, r1⟩ := pick_ok hs sd' (n := 20) q0 (by omega)
      rw [if_neg d, eu]
      exact ⟨u, p2, sd2, rfl, by omega, r0, by omega⟩
theorem of_ok {s : List Int} (hs : Bys s) {p : Int} (sd : Int) {l : List ByteArray} (hl : 0 < l.length) (h0 : 0 ≤ p) (h1 : p ≤ 3000000000000000000) :
    ∃ v p' sd', spec_l1Cur_of.f s p sd l = some (v, p', sd') ∧ v ∈ l ∧ 0 ≤ p' ∧ p' ≤ p + 2 := by
  obtain ⟨v, p', sd', e, hv, q0, q1⟩ := pick_ok hs sd (n := (l.length : Int)) h0 h1
  have hm : rdOf ByteArray.empty l v ∈ l := by
    unfold rdOf
    have : v.toNat < l.length := by omega
    rw [List.getD_eq_getElem?_getD, List.getElem?_eq_getElem this]
    exact List.getElem_mem this
  unfold spec_l1Cur_of.f
  rw [e]
  simp only [Option.bind_some]
  rw [if_pos (by omega), if_pos (by omega)]
  exact ⟨_, _, _, rfl, hm, q0, q1⟩
theorem text_ok {s : List Int} (hs : Bys s) {p : Int} (sd : Int) (h0 : 0 ≤ p) (h1 : p ≤ 500000000000000000) : Dr (fun k => spec_l1Cur_text.f k s p sd) p 14 (fun v => v.size ≤ 13) := by
  obtain ⟨v, p', sd', e, hv, q0, q1⟩ := pick_ok hs sd (n := 16) h0 (by omega)
  obtain ⟨u, p2, sd2, eu, hu, r0, r1⟩ := key_ok hs sd' q0 (by omega)
  unfold spec_l1Cur_text.f
  rw [e]
  simp only [Option.bind_some]
  by_cases c0 : v = 0
  · exact ⟨_, p', sd', ev_pos c0 (Ev.now _), by decide, q0, by omega⟩
  · by_cases c1 : v = 1
    · have h1 : (⟨#[32]⟩ : ByteArray).size = 1 := rfl
      refine ⟨u ++ ⟨#[32]⟩, p2, sd2, ev_neg c0 (ev_pos c1 (ev_bind _ eu (ev_pos (by simp only []; omega) (Ev.now _)))), ?_, r0, by omega⟩
      show (u ++ ⟨#[32]⟩ : ByteArray).size ≤ 13
      rw [ByteArray.size_append]
      omega
    · by_cases c2 : v = 2
      · exact ⟨_, p', sd', ev_neg c0 (ev_neg c1 (ev_pos c2 (Ev.now _))), by decide, q0, by omega⟩
      · by_cases c3 : v = 3
        · obtain ⟨x, p3, sd3, ex, hx, t0, t1⟩ := of_ok hs sd' (l := [(⟨#[126]⟩ : ByteArray), (⟨#[125]⟩ : ByteArray), (⟨#[97, 126]⟩ : ByteArray), (⟨#[127]⟩ : ByteArray)]) (by simp) q0 (by omega)
          refine ⟨x, p3, sd3, ev_neg c0 (ev_neg c1 (ev_neg c2 (ev_pos c3 ?_))), ?_, t0, by omega⟩
          · rw [ex]; exact ev_bind _ (Ev.now _) (Ev.now _)
          · simp only [List.mem_cons, List.not_mem_nil, or_false] at hx
            rcases hx with rfl | rfl | rfl | rfl <;> decide
        · exact ⟨u, p2, sd2, ev_neg c0 (ev_neg c1 (ev_neg c2 (ev_neg c3 (ev_bind _ eu (Ev.now _))))), by omega, r0, by omega⟩
theorem many_l0 (s : List Int) (p sd : Int) : ∀ (d i m : Nat) (x : List ByteArray), Kys m x → m + d ≤ 1000 → i + d ≤ 1000 →
    ∃ v, Ev (fun k => spec_l1Cur_many.l0 k ((i + d : Nat) : Int) x (i : Int) s p sd) (v, p, sd) ∧ Kys (m + d) v := by
  intro d
  induction d with
  | zero =>
    intro i m x hx hm hi
    refine ⟨x, ev_succ ?_, hx⟩
    simp only [spec_l1Cur_many.l0]
    exact ev_neg (by omega) (Ev.now _)
  | succ d ih =>
    intro i m x hx hm hi
    have hl := hx.1
    have hz : (strOfNums [(wrap64 (97 + (wrap64 (Int.tdiv (i : Int) 10)))) % 256, (wrap64 (48 + (Int.tmod (i : Int) 10))) % 256]).size ≤ 13 := by rw [strOf_size]; simp
    obtain ⟨v, e, hv⟩ := ih (i + 1) (m + 1) (insK (strOfNums [(wrap64 (97 + (wrap64 (Int.tdiv (i : Int) 10)))) % 256, (wrap64 (48 + (Int.tmod (i : Int) 10))) % 256]) x) (hx.ins hz) (by omega) (by omega)
    refine ⟨v, ev_succ ?_, hv.mono (by omega)⟩
    simp only [spec_l1Cur_many.l0]
    refine ev_pos (by omega) (ev_bind _ (putS_f x _ (by omega)) ?_)
    rw [winc (by omega), show i + (d + 1) = i + 1 + d from by omega]
    exact e
theorem anyKeys_ok {s : List Int} (hs : Bys s) {p : Int} (sd : Int) {n : Nat} (hn : n ≤ 40) (h0 : 0 ≤ p) (h1 : p ≤ 100000000000000000) : Dr (fun k => spec_l1Cur_anyKeys.f k s p sd (n : Int)) p 600 (Kys 42) := by
  obtain ⟨ks, p', sd', e, hv, q0, q1⟩ := keys_ok hs sd (by omega : n ≤ 100) h0 (by omega)
  obtain ⟨v, p2, sd2, e2, hv2, r0, r1⟩ := pick_ok hs sd' (n := 14) q0 (by omega)
  have hl := hv.1
  unfold spec_l1Cur_anyKeys.f
  by_cases c0 : v = 0
  · obtain ⟨u, p3, sd3, eu, hu, t0, t1⟩ := text_ok hs sd2 r0 (by omega)
    refine ⟨ks ++ [u], p3, sd3, ev_bind _ e ?_, (hv.one hu).mono (by omega), t0, by omega⟩
    simp only [e2]
    exact ev_bind _ (Ev.now _) (ev_pos c0 (ev_bind _ eu (ev_pos (by omega) (Ev.now _))))
  · by_cases c1 : v = 1
    · by_cases c : (ks.length : Int) > 0
      · obtain ⟨u, p3, sd3, eu, hu, t0, t1⟩ := pick_ok hs sd2 (n := (ks.length : Int)) r0 (by omega)
        have hm : rdOf ByteArray.empty ks u ∈ ks := by
          unfold rdOf
          have : u.toNat < ks.length := by omega
          rw [List.getD_eq_getElem?_getD, List.getElem?_eq_getElem this]
          exact List.getElem_mem this
        refine ⟨ks ++ [rdOf ByteArray.empty ks u], p3, sd3, ev_bind _ e ?_, (hv.one (hv.2 _ hm)).mono (by omega), t0, by omega⟩
        simp only [e2]
        refine ev_bind _ (Ev.now _) (ev_neg c0 (ev_pos c1 (ev_pos c ?_)))
        simp only [eu]
        exact ev_bind _ (Ev.now _) (ev_pos (by omega) (ev_pos (by omega) (ev_pos (by omega) (Ev.now _))))
      · refine ⟨ks, p2, sd2, ev_bind _ e ?_, hv.mono (by omega), r0, by omega⟩
        simp only [e2]
        exact ev_bind _ (Ev.now _) (ev_neg c0 (ev_pos c1 (ev_neg c (Ev.now _))))
    · by_cases c2 : v = 2
      · obtain ⟨u, p3, sd3, eu, hu, t0, t1⟩ := pick_ok hs sd2 (n := 2) r0 (by omega)
        obtain ⟨y, ey, hy⟩ := many_l0 s p3 sd3 (40 + u.toNat) 0 0 [] ⟨by simp, by simp⟩ (by omega) (by omega)
        refine ⟨y, p3, sd3, ev_bind _ e ?_, hy.mono (by omega), t0, by omega⟩
        simp only [e2]
        refine ev_bind _ (Ev.now _) (ev_neg c0 (ev_neg c1 (ev_pos c2 ?_)))
        simp only [eu]
        refine ev_bind _ (Ev.now _) (ev_bind (y, p3, sd3) ?_ (Ev.now _))
        unfold spec_l1Cur_many.f
        simp only []
        rw [w64 (by omega) (by omega), show 40 + u = ((0 + (40 + u.toNat) : Nat) : Int) from by omega]
        exact ey
      · refine ⟨ks, p2, sd2, ev_bind _ e ?_, hv.mono (by omega), r0, by omega⟩
        simp only [e2]
        exact ev_bind _ (Ev.now _) (ev_neg c0 (ev_neg c1 (ev_neg c2 (Ev.now _))))
theorem big_f {l0 l1 : List Int} (h0 : l0.length ≤ maxLen) (h1 : l1.length ≤ maxLen) : ∃ b, laws_big.f l0 l1 = some b ∧ (b = false → (l0.length : Int) ≤ 1048576 ∧ (l1.length : Int) ≤ 1048576) := by
  rw [maxLen_eq] at h0 h1
  unfold laws_big.f
  by_cases c : (l0.length : Int) > 1048576
  · exact ⟨true, if_pos c, by simp⟩
  · refine ⟨_, if_neg c, fun h => ?_⟩
    rw [decide_eq_false_iff_not, w64 (by omega) (by omega)] at h
    omega
theorem bys {l : List Int} (h : (l.length : Int) ≤ 1048576) (hw : ∀ x ∈ l, (Lit.int .u8 x).wf = true) : Bys l := by
  refine ⟨h, fun x hx => ?_⟩
  have := hw x hx
  simp only [Lit.wf, Bool.and_eq_true, decide_eq_true_eq] at this
  exact this
end Go.Proofs.YtephjmmkggcmeaaQ
namespace Go.Proofs.YtephjmmkggcmeaaQ
open Go Go.RowKit Go.Proofs.YtephjmmkggcmeaaW.PrintWords Go.Proofs.YtephjmmkggcmeaaGp Go.Proofs.Ytephjmmkggcmeaa.PL

theorem spec_l1Has_l0 (x0 : List Int) (a : Int) (hl : (x0.length : Int) ≤ 9223372036854775806) : ∀ (t pre : List Int), x0 = pre ++ t →
    Ev (fun k => spec_l1Has.l0 k a x0 (x0.length : Int) (pre.length : Int)) (t.contains a) := by
  intro t
  induction t with
  | nil =>
    intro pre h
    refine ev_succ ?_
    simp only [spec_l1Has.l0]
    exact ev_neg (by rw [h]; exact not_lt_end) (ev_some (by simp))
  | cons x t ih =>
    intro pre h
    have hm : ((pre.length : Nat) : Int) < (x0.length : Int) := by rw [h]; exact lt_mid
    have hg : rd x0 (pre.length : Int) = x := by rw [h]; exact rd_mid
    refine ev_succ ?_
    simp only [spec_l1Has.l0, hg]
    refine ev_pos hm (ev_pos (by omega) (ev_pos hm ?_))
    by_cases c : x = a
    · exact ev_pos c (ev_some (by simp [c]))
    · refine ev_neg c ?_
      rw [winc (by omega)]
      have := ih (pre ++ [x]) (by rw [h]; simp)
      rw [len_one] at this
      have e : (x :: t).contains a = t.contains a := by simp [Ne.symm c]
      rw [e]
      exact this
theorem spec_l1Has_f (l : List Int) (a : Int) (hl : (l.length : Int) ≤ 9223372036854775806) : Ev (fun k => spec_l1Has.f k l a) (l.contains a) := by
  unfold spec_l1Has.f
  exact spec_l1Has_l0 l a hl l [] rfl
end Go.Proofs.YtephjmmkggcmeaaQ
namespace Go.Proofs.YtephjmmkggcmeaaQ.CK
open Classical

def el (ls : List (List Int)) (i : Nat) : List Int := ls.getD i []
def Adj (ls : List (List Int)) (i j : Nat) : Prop := ∃ x, x ∈ el ls i ∧ x ∈ el ls j
inductive Reach (ls : List (List Int)) : Nat → Nat → Prop
  | refl (i : Nat) : Reach ls i i
  | step {i j k : Nat} : Reach ls i j → k < ls.length → Adj ls j k → Reach ls i k
theorem Adj.symm {ls : List (List Int)} {i j : Nat} (h : Adj ls i j) : Adj ls j i := by
  obtain ⟨x, h1, h2⟩ := h
  exact ⟨x, h2, h1⟩
theorem Reach.trans {ls : List (List Int)} {i j k : Nat} (h : Reach ls i j) (h' : Reach ls j k) : Reach ls i k := by
  induction h' with
  | refl => exact h
  | step _ hk ha ih => exact .step ih hk ha
theorem Reach.lt {ls : List (List Int)} {i j : Nat} (h : Reach ls i j) (hi : i < ls.length) : j < ls.length := by
  cases h with
  | refl => exact hi
  | step _ hk _ => exact hk
theorem Reach.symm {ls : List (List Int)} {i j : Nat} (h : Reach ls i j) (hi : i < ls.length) : Reach ls j i := by
  induction h with
  | refl => exact .refl _
  | step h1 hk ha ih => exact (Reach.step (.refl _) (h1.lt hi) ha.symm).trans ih
def Cell (ls : List (List Int)) (i : Nat) (x : Int) : Prop := ∃ j, Reach ls i j ∧ x ∈ el ls j
noncomputable def comp (ls : List (List Int)) (i : Nat) : List Nat := (List.range ls.length).filter (fun j => decide (Reach ls i j))
def Fits (ls : List (List Int)) : Prop := ∀ i, i < ls.length → ∀ V : List Int, V.Nodup → (∀ x, x ∈ V ↔ Cell ls i x) → (comp ls i).length ≤ V.length
def Own (ls : List (List Int)) (m : Nat) (f : Nat → Int) : Prop := (∀ i, i < m → f i ∈ el ls i) ∧ ∀ i j, i < m → j < m → f i = f j → i = j
def Pairs (ls : List (List Int)) : Prop := ∀ i, i < ls.length → ∃ a b, el ls i = [a, b]

theorem countP_lt {α : Type} {p q : α → Bool} : ∀ {l : List α}, (∀ x ∈ l, p x = true → q x = true) → (∃ x ∈ l, q x = true ∧ p x = false) → l.countP p + 1 ≤ l.countP q
  | [], _, h => by obtain ⟨x, hx, _⟩ := h; simp at hx
  | y :: l, hm, h => by
    have hle : l.countP p ≤ l.countP q := List.countP_mono_left (fun x hx => hm x (by simp [hx]))
    rw [List.countP_cons, List.countP_cons]
    obtain ⟨x, hx, h1, h2⟩ := h
    rcases List.mem_cons.1 hx with rfl | hx
    · simp [h1, h2]; omega
    · have ih := countP_lt (fun x hx => hm x (by simp [hx])) ⟨x, hx, h1, h2⟩
      have hy := hm y (by simp)
      by_cases c : p y = true
      · simp [c, hy c]; omega
      · simp [c]; omega
noncomputable def cnt (n : Nat) (o : Nat → Int) (v : Int) : Nat := (List.range n).countP (fun i => decide (o i = v))
theorem countP_update {n : Nat} (p q : Nat → Bool) {d : Nat} (h : ∀ i, i ≠ d → p i = q i) (hd : d < n) : (List.range n).countP p + (if q d then 1 else 0) = (List.range n).countP q + (if p d then 1 else 0) := by
  induction n with
  | zero => omega
  | succ n ih =>
    rw [List.range_succ, List.countP_append, List.countP_append, List.countP_singleton, List.countP_singleton]
    by_cases c : d = n
    · subst c
      have e : (List.range d).countP p = (List.range d).countP q := List.countP_congr (fun i hi => by
        rw [List.mem_range] at hi
        rw [h i (by omega)])
      rw [e]; omega
    · have := ih (by omega)
      rw [h n (fun e => c e.symm)]
      omega
section
variable {ls : List (List Int)} {n : Nat}
def Path (ls : List (List Int)) (n : Nat) (o : Nat → Int) : Nat → Int → Int → Prop
  | 0, v, w => w = v
  | k + 1, v, w => ∃ d v', d < n ∧ o d = v ∧ v' ∈ el ls d ∧ Path ls n o k v' w
theorem Path.snoc {o : Nat → Int} : ∀ {k : Nat} {v w : Int}, Path ls n o k v w → ∀ {d : Nat} {x : Int}, d < n → o d = w → x ∈ el ls d → Path ls n o (k + 1) v x
  | 0, _, _, h, d, x, hd, ho, hx => ⟨d, x, hd, ho.trans h, hx, rfl⟩
  | _ + 1, _, _, ⟨e, v', he, ho', hv, hp⟩, _, _, hd, ho, hx => ⟨e, v', he, ho', hv, hp.snoc hd ho hx⟩
end

section
variable {ls : List (List Int)}
theorem nodup_le : ∀ {S V : List Int}, S.Nodup → (∀ x ∈ S, x ∈ V) → S.length ≤ V.length
  | [], _, _, _ => by simp
  | x :: S, V, hn, h => by
    rw [List.nodup_cons] at hn
    have hx := h x (by simp)
    have := nodup_le (S := S) (V := V.erase x) hn.2 (fun y hy => (List.mem_erase_of_ne (fun e => hn.1 (by rw [← e]; exact hy))).2 (h y (by simp [hy])))
    rw [List.length_erase_of_mem hx] at this
    have := List.length_pos_of_mem hx
    simp; omega
end
end Go.Proofs.YtephjmmkggcmeaaQ.CK
namespace Go.Proofs.YtephjmmkggcmeaaQ.CK
open Classical
section
variable {ls : List (List Int)}
noncomputable def heads (ls : List (List Int)) : List Nat := (List.range ls.length).filter (fun i => decide (∀ j, Reach ls i j → i ≤ j))
noncomputable def groupsC (ls : List (List Int)) : List (List Nat) := (heads ls).map (comp ls)
theorem mem_comp {i j : Nat} : j ∈ comp ls i ↔ j < ls.length ∧ Reach ls i j := by
  unfold comp
  rw [List.mem_filter, List.mem_range, decide_eq_true_eq]
theorem mem_heads {i : Nat} : i ∈ heads ls ↔ i < ls.length ∧ ∀ j, Reach ls i j → i ≤ j := by
  unfold heads
  rw [List.mem_filter, List.mem_range, decide_eq_true_eq]
theorem comp_eq {i j : Nat} (hi : i < ls.length) (h : Reach ls i j) : comp ls i = comp ls j := by
  unfold comp
  apply List.filter_congr
  intro k _
  rw [decide_eq_decide]
  exact ⟨fun h' => (h.symm hi).trans h', fun h' => h.trans h'⟩
theorem comp_nodup (i : Nat) : (comp ls i).Nodup := List.nodup_range.filter _
theorem comp_self {i : Nat} (hi : i < ls.length) : i ∈ comp ls i := mem_comp.2 ⟨hi, .refl _⟩
theorem head_of : ∀ (n j : Nat), j ≤ n → j < ls.length → ∃ i, i ∈ heads ls ∧ Reach ls i j := by
  intro n
  induction n with
  | zero =>
    intro j hj hl
    exact ⟨j, mem_heads.2 ⟨hl, fun k _ => by omega⟩, .refl _⟩
  | succ n ih =>
    intro j hj hl
    by_cases c : ∀ k, Reach ls j k → j ≤ k
    · exact ⟨j, mem_heads.2 ⟨hl, c⟩, .refl _⟩
    · simp only [Classical.not_forall] at c
      obtain ⟨k, hk, hlt⟩ := c
      obtain ⟨i, h1, h2⟩ := ih k (by omega) (hk.lt hl)
      exact ⟨i, h1, h2.trans (hk.symm hl)⟩
theorem head_uniq {i i' j : Nat} (h : i ∈ heads ls) (h' : i' ∈ heads ls) (hj : Reach ls i j) (hj' : Reach ls i' j) : i = i' := by
  obtain ⟨a1, a2⟩ := mem_heads.1 h
  obtain ⟨b1, b2⟩ := mem_heads.1 h'
  have := a2 i' (hj.trans (hj'.symm b1))
  have := b2 i (hj'.trans (hj.symm a1))
  omega
theorem heads_nodup : (heads ls).Nodup := List.nodup_range.filter _
theorem flat_mem {j : Nat} : j ∈ (groupsC ls).flatten ↔ j < ls.length := by
  rw [List.mem_flatten]
  constructor
  · rintro ⟨g, hg, hj⟩
    obtain ⟨i, _, rfl⟩ := List.mem_map.1 hg
    exact (mem_comp.1 hj).1
  · intro hj
    obtain ⟨i, h1, h2⟩ := head_of j j (Nat.le_refl _) hj
    exact ⟨comp ls i, List.mem_map.2 ⟨i, h1, rfl⟩, mem_comp.2 ⟨hj, h2⟩⟩
theorem flat_nodup : (groupsC ls).flatten.Nodup := by
  unfold List.Nodup
  rw [List.pairwise_flatten]
  refine ⟨fun g hg => ?_, ?_⟩
  · obtain ⟨i, _, rfl⟩ := List.mem_map.1 hg
    exact comp_nodup i
  · unfold groupsC
    rw [List.pairwise_map]
    refine List.Pairwise.imp_of_mem (fun {i i'} hi hi' hne x hx y hy e => ?_) heads_nodup
    subst e
    exact hne (head_uniq hi hi' (mem_comp.1 hx).2 (mem_comp.1 hy).2)
theorem nodup_leN : ∀ {S V : List Nat}, S.Nodup → (∀ x ∈ S, x ∈ V) → S.length ≤ V.length
  | [], _, _, _ => by simp
  | x :: S, V, hn, h => by
    rw [List.nodup_cons] at hn
    have hx := h x (by simp)
    have := nodup_leN (S := S) (V := V.erase x) hn.2 (fun y hy => (List.mem_erase_of_ne (fun e => hn.1 (by rw [← e]; exact hy))).2 (h y (by simp [hy])))
    rw [List.length_erase_of_mem hx] at this
    have := List.length_pos_of_mem hx
    simp; omega
theorem flat_len : (groupsC ls).flatten.length = ls.length := by
  have h1 := nodup_leN (flat_nodup (ls := ls)) (V := List.range ls.length) (fun x hx => List.mem_range.2 (flat_mem.1 hx))
  have h2 := nodup_leN (List.nodup_range (n := ls.length)) (V := (groupsC ls).flatten) (fun x hx => flat_mem.2 (List.mem_range.1 hx))
  rw [List.length_range] at h1 h2
  omega
theorem sum_len : ((groupsC ls).map List.length).sum = ls.length := by rw [← List.length_flatten, flat_len]
theorem heads_len : (groupsC ls).length ≤ ls.length := by
  unfold groupsC heads
  rw [List.length_map]
  exact Nat.le_trans (List.length_filter_le _ _) (by rw [List.length_range]; exact Nat.le_refl _)

structure Found (ls : List (List Int)) (i : Nat) (F : Nat → Prop) (todo : List Nat) : Prop where
  here : F i
  sound : ∀ j, F j → Reach ls i j ∧ j < ls.length
  sub : ∀ j ∈ todo, F j
  shut : ∀ j k, F j → j ∉ todo → k < ls.length → Adj ls j k → F k
theorem Found.all {i : Nat} {F : Nat → Prop} (h : Found ls i F []) : ∀ j, F j ↔ Reach ls i j := by
  intro j
  refine ⟨fun hj => (h.sound j hj).1, fun hj => ?_⟩
  induction hj with
  | refl => exact h.here
  | step h1 hk ha ih => exact h.shut _ _ ih (by simp) hk ha
end
end Go.Proofs.YtephjmmkggcmeaaQ.CK
