import Derived.Test.YtmehagedoaopeaaCR1
import Derived.Test.YtmehagedoaopeaaCR2
namespace Go.Proofs.Ytmehagedoaopeaa.PR
open Go.RowKit Go.Proofs.YtmehagedoaopeaaW.PrintWords Go.Proofs.YtmehagedoaopeaaW.PrintLast Go.Proofs.YtmehagedoaopeaaW.PrintMore Go.Proofs.YtmehagedoaopeaaSq
attribute [local go_sem] max2_int min2_int max_two min_two max_three min_three max_four min_four   -- for this text's walks alone
attribute [local go_sem] Go.Proofs.YtmehagedoaopeaaGp.str_geq Go.Proofs.YtmehagedoaopeaaGp.str_gtr Go.Proofs.YtmehagedoaopeaaGp.str_leq
set_option linter.unusedVariables false
set_option linter.unusedSimpArgs false

set_option maxHeartbeats 8000000
set_option maxRecDepth 100000
def impl_Hyper_edgeAt.l0 : Nat → List Bool → Int → Int → Int → List (List Int) → Option (Int)
 | 0, _, _, _, _, _ => none
 | k + 1, x1, x2, x7, x1000, x1001 => if 0 ≤ x7 then (if x7 < (x1.length : Int) then (if rdOf false x1 x7 = true then (impl_Hyper_edgeAt.l0 k x1 x2 (wrap64 (x7 + 1)) x1000 x1001) else (if x7 < (x1001.length : Int) then ((slices_Contains_int_int.f k (rd_L3 x1001 x7) x2).bind fun t431 => (if t431 = true then (some x7) else (impl_Hyper_edgeAt.l0 k x1 x2 (wrap64 (x7 + 1)) x1000 x1001))) else (none))) else (none)) else (none)
def impl_Hyper_edgeAt.f (k : Nat) (a0_0 : Int) (l0_1 : List (List Int)) (l1 : List Bool) (a2 : Int) : Option (Int) := impl_Hyper_edgeAt.l0 k l1 a2 0 a0_0 l0_1
theorem impl_Hyper_edgeAt.calls (k : Nat) (g0 : Nat) (a0_0 : Int) (A0_1 : Option Addr) (c0_1 : Nat) (l0_1 : List (List Int)) (A1 : Option Addr) (c1 : Nat) (l1 : List Bool) (a2 : Int) (r : Int) (w : World) (hb0 : w.heap[g0]? = some (.cells #[.int .i64 a0_0, .slice A0_1 l0_1.length c0_1] 33 (0, 0))) (hr0_1 : Kd.C (Kd.slice 3 (Kd.int .i64)) w A0_1 l0_1.length l0_1) (hc0_1 : l0_1.length ≤ c0_1) (hr1 : Kd.C Kd.bool w A1 l1.length l1) (hc1 : l1.length ≤ c1) (h : impl_Hyper_edgeAt.f k a0_0 l0_1 l1 a2 = some r) :
  Calls Try.prog 181 #[.pointer (some ⟨g0, 0, none⟩), .slice A1 l1.length c1, .int .i64 a2] w fun e w' => e = .returned (.int .i64 r) ∧ Drawn0 w w' := by
 have HR0_1 := am hr0_1; have HC0_1 := am hc0_1; clear hr0_1 hc0_1; have HR1 := am hr1; have HC1 := am hc1; clear hr1 hc1; have BK0 := am hb0; clear hb0; have H : (impl_Hyper_edgeAt.l0 k l1 a2 0 a0_0 l0_1) = some r := h; clear h; have H' := am H; clear H
 go_enter Try.func181, Try.ntmps181
 go_wp2
 go_loopg [7] k (fun kq v7 w' => ∃ (x7_1 : Int), v7 = .int .i64 x7_1 ∧ Aside0 (impl_Hyper_edgeAt.l0 kq l1 a2 x7_1 a0_0 l0_1 = some r) ∧ Aside0 (kq ≤ k) ∧ Aside0 (w'.heap[g0]? = some (.cells #[.int .i64 a0_0, (.slice A0_1 l0_1.length c0_1)] 33 (0, 0))) ∧ Drawn0 w w')
 case atStart => exact ⟨(0), wZ, H', ⟨Nat.le_refl _⟩, ⟨Kz BK0.out⟩, by repeat (first | exact Drawn0.refl _ | apply Drawn0.step)⟩
 case round =>
  clear H'
  try clear c1
  try clear p2
  obtain ⟨x7_1, rfl, HA, HK1, BK0, ⟨m1, rfl⟩⟩ := hrel; cases gk with
  | zero => exact absurd HA.out (by simp [impl_Hyper_edgeAt.l0])
  | succ k1 =>
   have H := HA.out; clear HA
   simp only [impl_Hyper_edgeAt.l0] at H
   by_cases c4 : 0 ≤ x7_1
   ·rw [if_pos c4] at H
    have c4b0 : decide (0 ≤ x7_1) = true := decide_eq_true c4; clear c4
    by_cases c5 : x7_1 < (l1.length : Int)
    ·rw [if_pos c5] at H
     have c5b0 : decide (x7_1 < (l1.length : Int)) = true := decide_eq_true c5; clear c5; obtain ⟨bq6, hbq6⟩ : ∃ b_ : Bool, b_ = (rdOf false l1 x7_1) := ⟨_, rfl⟩
     replace H : (if bq6 = true then (impl_Hyper_edgeAt.l0 k1 l1 a2 (wrap64 (x7_1 + 1)) a0_0 l0_1) else (if x7_1 < (l0_1.length : Int) then ((slices_Contains_int_int.f k1 (rd_L3 l0_1 x7_1) a2).bind fun t431 => (if t431 = true then (some x7_1) else (impl_Hyper_edgeAt.l0 k1 l1 a2 (wrap64 (x7_1 + 1)) a0_0 l0_1))) else (none))) = some r := by rw [← hbq6] at H; exact H
     have Nbq6 := am hbq6; clear hbq6
     by_cases c7 : bq6 = true
     ·subst c7
      rw [if_pos rfl] at H; have H' := am H; clear H; have p429 : 0 ≤ (x7_1 : Int) := dT; have q429 : x7_1 < (l1.length : Int) := dT; obtain ⟨ad429, e429, hx429_0⟩ := Kd.at_bool HR1.out x7_1 p429 q429
      (try rw [← Nbq6.out] at hx429_0)
      cases e429; replace p429 := eq_true p429; replace q429 := eq_true q429
      go_wp2
      go_roundg k1
      case measure => have := HK1.out; omega
      case rel => exact ⟨(wrap64 (x7_1 + 1)), wZ, H', ⟨by have := HK1.out; omega⟩, ⟨Kz BK0.out⟩, by repeat (first | exact Drawn0.refl _ | apply Drawn0.step)⟩
     ·replace c7 := Bool.eq_false_iff.mpr c7
      subst c7
      rw [if_neg Bool.false_ne_true] at H
      by_cases c8 : x7_1 < (l0_1.length : Int)
      ·rw [if_pos c8] at H
       have c8b0 : decide (x7_1 < (l0_1.length : Int)) = true := decide_eq_true c8; clear c8; obtain ⟨t431, A9, H⟩ := ob H; (try dsimp -simprocs only at H)
       by_cases c10 : t431 = true
       ·subst c10
        rw [if_pos rfl] at H; obtain rfl := Option.some.inj H; have p429 : 0 ≤ (x7_1 : Int) := dT; have q429 : x7_1 < (l1.length : Int) := dT; obtain ⟨ad429, e429, hx429_0⟩ := Kd.at_bool HR1.out x7_1 p429 q429
        (try rw [← Nbq6.out] at hx429_0)
        cases e429; replace p429 := eq_true p429; replace q429 := eq_true q429; have hcz11_0 : (_ : World).cell? ⟨g0, 0, none⟩ = some (.int .i64 a0_0) := cz BK0 0; have hcz11_1 : (_ : World).cell? ⟨g0, 1, none⟩ = some (.slice A0_1 l0_1.length c0_1) := cz BK0 1; have hfz11_0 := blk_frozen BK0.out 0; have hfz11_1 := blk_frozen BK0.out 1; have p430 : 0 ≤ (x7_1 : Int) := dT; have q430 : x7_1 < (l0_1.length : Int) := dT; obtain ⟨ad430, A430_0, c430_0, e430, hx430_0, hl430_0, hi430_0⟩ := at_L3 HR0_1.out x7_1 p430 q430; cases e430; have HR430_0 := am hi430_0; have HC430_0 := am hl430_0; clear hi430_0 hl430_0; replace p430 := eq_true p430; replace q430 := eq_true q430
        go_wp2_with (first | (go_at_call 103; (with_reducible refine (slices_Contains_int_int.calls k1 _ _ (rd_L3 l0_1 x7_1) a2 true _ ?side1 ?side2 A9.out).mono ?_); (case side1 => exact Cz HR430_0.out); (case side2 => exact HC430_0.out); rintro e w' ⟨rfl, ⟨nd, rfl⟩⟩))
        go_ret
        exact ⟨by first | rfl | (simp; done) | (simp [*]; done), by repeat (first | exact Drawn0.refl _ | apply Drawn0.step)⟩
       ·replace c10 := Bool.eq_false_iff.mpr c10
        subst c10
        rw [if_neg Bool.false_ne_true] at H; have H' := am H; clear H; have p429 : 0 ≤ (x7_1 : Int) := dT; have q429 : x7_1 < (l1.length : Int) := dT; obtain ⟨ad429, e429, hx429_0⟩ := Kd.at_bool HR1.out x7_1 p429 q429
        (try rw [← Nbq6.out] at hx429_0)
        cases e429; replace p429 := eq_true p429; replace q429 := eq_true q429; have hcz12_0 : (_ : World).cell? ⟨g0, 0, none⟩ = some (.int .i64 a0_0) := cz BK0 0; have hcz12_1 : (_ : World).cell? ⟨g0, 1, none⟩ = some (.slice A0_1 l0_1.length c0_1) := cz BK0 1; have hfz12_0 := blk_frozen BK0.out 0; have hfz12_1 := blk_frozen BK0.out 1; have p430 : 0 ≤ (x7_1 : Int) := dT; have q430 : x7_1 < (l0_1.length : Int) := dT; obtain ⟨ad430, A430_0, c430_0, e430, hx430_0, hl430_0, hi430_0⟩ := at_L3 HR0_1.out x7_1 p430 q430; cases e430; have HR430_0 := am hi430_0; have HC430_0 := am hl430_0; clear hi430_0 hl430_0; replace p430 := eq_true p430; replace q430 := eq_true q430
        go_wp2_with (first | (go_at_call 103; (with_reducible refine (slices_Contains_int_int.calls k1 _ _ (rd_L3 l0_1 x7_1) a2 false _ ?side1 ?side2 A9.out).mono ?_); (case side1 => exact Cz HR430_0.out); (case side2 => exact HC430_0.out); rintro e w' ⟨rfl, ⟨nd, rfl⟩⟩))
        go_roundg k1
        case measure => have := HK1.out; omega
        case rel => exact ⟨(wrap64 (x7_1 + 1)), wZ, H', ⟨by have := HK1.out; omega⟩, ⟨Kz BK0.out⟩, by repeat (first | exact Drawn0.refl _ | apply Drawn0.step)⟩
      ·rw [if_neg c8] at H
       exact absurd H (by simp)
    ·rw [if_neg c5] at H
     exact absurd H (by simp)
   ·rw [if_neg c4] at H
    exact absurd H (by simp)

def impl_Hyper_peel.l0 : Nat → List (S118) → List Bool → Int → List (List Int) → Option ((List (S118)) × List Int)
 | 0, _, _, _, _ => none
 | k + 1, x4, x5, x1000, x1001 => (impl_Hyper_singles.f k x1000 x1001 x5).bind fun t438 => (if (t438.length : Int) = 0 then ((impl_left.f k x5).bind fun t441 => (some (x4, t441))) else (if 0 < (t438.length : Int) then ((impl_Hyper_edgeAt.f k x1000 x1001 x5 (rd t438 0)).bind fun t445 => (if 0 ≤ t445 then (if t445 < (x5.length : Int) then (if x4.length < 8796093022208 then (impl_Hyper_peel.l0 k (x4 ++ [(⟨t445, rd t438 0⟩ : S118)]) (x5.set (t445 : Int).toNat true) x1000 x1001) else (none)) else (none)) else (none))) else (none)))
def impl_Hyper_peel.f (k : Nat) (a0_0 : Int) (l0_1 : List (List Int)) : Option ((List (S118)) × List Int) := (impl_Hyper_none.f a0_0 l0_1).bind fun t435 => (impl_Hyper_peel.l0 k (([] : List (S118))) t435 a0_0 l0_1)
theorem impl_Hyper_peel.calls (k : Nat) (g0 : Nat) (a0_0 : Int) (A0_1 : Option Addr) (c0_1 : Nat) (l0_1 : List (List Int)) (r1 : List (S118)) (r2 : List Int) (w : World) (hb0 : w.heap[g0]? = some (.cells #[.int .i64 a0_0, .slice A0_1 l0_1.length c0_1] 33 (0, 0))) (hr0_1 : Kd.C (Kd.slice 3 (Kd.int .i64)) w A0_1 l0_1.length l0_1) (hc0_1 : l0_1.length ≤ c0_1) (h : impl_Hyper_peel.f k a0_0 l0_1 = some (r1, r2)) :
  Calls Try.prog 145 #[.pointer (some ⟨g0, 0, none⟩)] w fun e w' => ∃ v0_ v1_ : Value, e = .returned (.tuple #[v0_, v1_]) ∧ Kd.R k118 118 w' w.heap.size (fun _ => True) v0_ r1 ∧ Kd.R (Kd.int .i64) 3 w' w.heap.size (fun _ => True) v1_ r2 ∧ Below w.heap.size w w' := by
 have hu118 := Try.underlying118; have HR0_1 := am hr0_1; have HC0_1 := am hc0_1; clear hr0_1 hc0_1; have BK0 := am hb0; clear hb0; have HB := am (Below.refl w.heap.size w); have H : ((impl_Hyper_none.f a0_0 l0_1).bind fun t435 => (impl_Hyper_peel.l0 k (([] : List (S118))) t435 a0_0 l0_1)) = some (r1, r2) := h; clear h; obtain ⟨y432, hy432⟩ : ∃ y_ : List (S118), y_ = (([] : List (S118))) := ⟨_, rfl⟩
 replace H : ((impl_Hyper_none.f a0_0 l0_1).bind fun t435 => (impl_Hyper_peel.l0 k y432 t435 a0_0 l0_1)) = some (r1, r2) := by (try rw [hy432]); first | with_reducible exact H | exact (Option.bind_some _ _).symm.trans H | exact H
 have Ny432 := am hy432; clear hy432; obtain ⟨t435, A2, H⟩ := ob H; (try dsimp -simprocs only at H); have H' := am H; clear H
 go_enter Try.func145, Try.ntmps145
 go_wp2_with (first | ((with_reducible refine gate_dst (N := 8) rfl ?_); refine Kd.R_lit k118 _ 118 ?hg (N := 8) ?hd (xs := ([] : List (S118))) (inner := []) (ok := fun _ => True) (okp := fun _ => True) ?hr ?hp (fun _ hk => hk) trivial (Below.refl _ _) (Nat.le_refl _) (by simp) ?_; (case hd => rfl); (case hg => rfl); (case hr => first | (go_simp; done) | (go_simp; rfl)); (case hp => exact (Reps.none _ _)); intro v433 w3 ho4 hb hg_ hnew_; clear hg_ hnew_; (first | rw [← Ny432.out] at ho4 | (simp only [Int.reduceToNat] at ho4; rw [← Ny432.out] at ho4)); have n0_ := Rm ho4 HB; have n1_ := Kb BK0 hb; have n2_ := Bc HB hb; clear BK0 HB; revert n0_ n1_ n2_; intro HO434 BK0 HB; clear hb ho4) | ((with_reducible refine gate_callee (f := 178) rfl ?_); refine gL (some 10) Try.func178 #[.pointer (some ⟨g0, 0, none⟩)] ?_; (with_reducible refine (impl_Hyper_none.calls g0 a0_0 A0_1 c0_1 l0_1 t435 _ ?side1 ?side2 ?side3 A2.out).mono ?_); (case side1 => exact Kz BK0.out); (case side2 => exact Cz (Kd.C_below HR0_1.out HB.out)); (case side3 => exact HC0_1.out); rintro e w5 ⟨v436, rfl, ho0, hb⟩; refine ⟨_, rfl, ?_⟩; have n0_ := Rb HO434 hb; have n1_ := Rm ho0 HB; have n2_ := Kb BK0 hb; have n3_ := Bc HB hb; clear HO434 BK0 HB; revert n0_ n1_ n2_ n3_; intro HO434 HO437 BK0 HB; (try clear hb); (try clear hb2); (try clear hk); (try clear hi); (try clear ho0)))
 (try simp only [aP])
 go_loopg [4] k (fun kq v4 w' => ∃ (x4_1 : List (S118)) (x5_1 : List Bool), Aside0 (impl_Hyper_peel.l0 kq x4_1 x5_1 a0_0 l0_1 = some (r1, r2)) ∧ Aside0 (kq ≤ k) ∧ Aside0 (Kd.R k118 118 w' w.heap.size (fun _ => True) v4 x4_1) ∧ Aside0 (Kd.R Kd.bool 4 w' w.heap.size (fun _ => True) v436 x5_1) ∧ Aside0 (w'.heap[g0]? = some (.cells #[.int .i64 a0_0, (.slice A0_1 l0_1.length c0_1)] 33 (0, 0))) ∧ Aside0 (Below w.heap.size w w'))
 case atStart => exact ⟨(y432), (t435), H', ⟨Nat.le_refl _⟩, ⟨Rz HO434.out⟩, ⟨Rz HO437.out⟩, ⟨Kz BK0.out⟩, ⟨Bq⟩⟩
 case round =>
  clear H'
  try clear c1
  try clear p2
  obtain ⟨x4_1, x5_1, HA, HK1, HO_4, HO_5, BK0, HB⟩ := hrel; cases gk with
  | zero => exact absurd HA.out (by simp [impl_Hyper_peel.l0])
  | succ k1 =>
   have H := HA.out; clear HA
   simp only [impl_Hyper_peel.l0] at H
   obtain ⟨t438, A6, H⟩ := ob H; (try dsimp -simprocs only at H)
   by_cases c7 : (t438.length : Int) = 0
   ·rw [if_pos c7] at H
    have c7b0 : ((t438.length : Int) == 0) = true := beq_iff_eq.mpr c7; have c7b1 : ((t438.length : Int) != 0) = false := bne_eq_false_iff_eq.mpr c7; clear c7; obtain ⟨t441, A8, H⟩ := ob H; (try dsimp -simprocs only at H)
    simp only [Option.some.injEq, Prod.mk.injEq] at H
    obtain ⟨rfl, rfl⟩ := H; obtain ⟨Ao9, co9, eo9⟩ := Kd.R_slice HO_5.out; subst eo9
    go_wp2_with (first | ((with_reducible refine gate_callee (f := 179) rfl ?_); refine gL (some 13) Try.func179 #[.pointer (some ⟨g0, 0, none⟩), .slice Ao9 x5_1.length co9] ?_; (with_reducible refine (impl_Hyper_singles.calls k1 g0 a0_0 A0_1 c0_1 l0_1 _ _ x5_1 t438 _ ?side1 ?side2 ?side3 ?side4 ?side5 A6.out).mono ?_); (case side1 => exact Kz BK0.out); (case side2 => exact Cz (Kd.C_below HR0_1.out HB.out)); (case side3 => exact HC0_1.out); (case side4 => exact Cz ((Kd.R_reads' HO_5.out).2.2)); (case side5 => exact (Kd.R_reads' HO_5.out).2.1); rintro e w10 ⟨v439, rfl, ho0, hb⟩; refine ⟨_, rfl, ?_⟩; have n0_ := Rb HO_4 hb; have n1_ := Rb HO_5 hb; have n2_ := Rm ho0 HB; have n3_ := Kb BK0 hb; have n4_ := Bc HB hb; clear HO_4 HO_5 BK0 HB; revert n0_ n1_ n2_ n3_ n4_; intro HO_4 HO_5 HO440 BK0 HB; (try clear hb); (try clear hb2); (try clear hk); (try clear hi); (try clear ho0); obtain ⟨Ao11, co11, eo11⟩ := Kd.R_slice HO440.out; subst eo11) | ((with_reducible refine gate_callee (f := 180) rfl ?_); refine gL (some 19) Try.func180 #[.slice Ao9 x5_1.length co9] ?_; (with_reducible refine (impl_left.calls k1 _ _ x5_1 t441 _ ?side1 ?side2 A8.out).mono ?_); (case side1 => exact Cz ((Kd.R_reads' HO_5.out).2.2)); (case side2 => exact (Kd.R_reads' HO_5.out).2.1); rintro e w12 ⟨v442, rfl, ho0, hb⟩; refine ⟨_, rfl, ?_⟩; have n0_ := Rb HO_4 hb; have n1_ := Rb HO_5 hb; have n2_ := Re HO440 (Kd.R_base ho0) hb; have n3_ := Rm (Kd.R_new' ho0 (Kd.R_lt (Rz HO440.out))) HB; have n4_ := Kb BK0 hb; have n5_ := Bc HB hb; clear HO_4 HO_5 HO440 BK0 HB; revert n0_ n1_ n2_ n3_ n4_ n5_; intro HO_4 HO_5 HO440 HO443 BK0 HB; (try clear hb); (try clear hb2); (try clear hk); (try clear hi); (try clear ho0)))
    go_ret2
    exact ⟨_, _, eZ, Rz HO_4.out, Rz (Kd.R_mono HO443.out (fun _ hk => trivial)), Bq⟩
   ·rw [if_neg c7] at H
    have c7b0 : ((t438.length : Int) == 0) = false := beq_eq_false_iff_ne.mpr c7; have c7b1 : ((t438.length : Int) != 0) = true := bne_iff_ne.mpr c7
    have c7b2 : ¬ (t438 = []) := fun h_ => c7 (by rw [h_]; rfl)
    by_cases c13 : 0 < (t438.length : Int)
    ·rw [if_pos c13] at H
     have c13b0 : decide (0 < (t438.length : Int)) = true := decide_eq_true c13; have c13b1 : decide (0 < t438.length) = true := decide_eq_true (by omega); clear c13; obtain ⟨t445, A14, H⟩ := ob H; (try dsimp -simprocs only at H)
     by_cases c15 : 0 ≤ t445
     ·rw [if_pos c15] at H
      have c15b0 : decide (0 ≤ t445) = true := decide_eq_true c15; clear c15
      by_cases c16 : t445 < (x5_1.length : Int)
      ·rw [if_pos c16] at H
       have c16b0 : decide (t445 < (x5_1.length : Int)) = true := decide_eq_true c16; clear c16; obtain ⟨y446, hy446⟩ : ∃ y_ : List Bool, y_ = (x5_1.set (t445 : Int).toNat true) := ⟨_, rfl⟩
       replace H : (if x4_1.length < 8796093022208 then (impl_Hyper_peel.l0 k1 (x4_1 ++ [(⟨t445, rd t438 0⟩ : S118)]) y446 a0_0 l0_1) else (none)) = some (r1, r2) := by (try rw [hy446]); first | with_reducible exact H | exact (Option.bind_some _ _).symm.trans H | exact H
       have Ny446 := am hy446; clear hy446
       by_cases c18 : x4_1.length < 8796093022208
       ·rw [if_pos c18] at H
        have LMc18 := am c18; clear c18; obtain ⟨y448, hy448⟩ : ∃ y_ : List (S118), y_ = (x4_1 ++ [(⟨t445, rd t438 0⟩ : S118)]) := ⟨_, rfl⟩
        replace H : (impl_Hyper_peel.l0 k1 y448 y446 a0_0 l0_1) = some (r1, r2) := by (try rw [hy448]); first | with_reducible exact H | exact (Option.bind_some _ _).symm.trans H | exact H
        have Ny448 := am hy448; clear hy448; have H' := am H; clear H; obtain ⟨Ao19, co19, eo19⟩ := Kd.R_slice HO_5.out; subst eo19
        go_wp2_with (first | ((with_reducible refine gate_callee (f := 179) rfl ?_); refine gL (some 13) Try.func179 #[.pointer (some ⟨g0, 0, none⟩), .slice Ao19 x5_1.length co19] ?_; (with_reducible refine (impl_Hyper_singles.calls k1 g0 a0_0 A0_1 c0_1 l0_1 _ _ x5_1 t438 _ ?side1 ?side2 ?side3 ?side4 ?side5 A6.out).mono ?_); (case side1 => exact Kz BK0.out); (case side2 => exact Cz (Kd.C_below HR0_1.out HB.out)); (case side3 => exact HC0_1.out); (case side4 => exact Cz ((Kd.R_reads' HO_5.out).2.2)); (case side5 => exact (Kd.R_reads' HO_5.out).2.1); rintro e w20 ⟨v439, rfl, ho0, hb⟩; refine ⟨_, rfl, ?_⟩; have n0_ := Rb HO_4 hb; have n1_ := Rb HO_5 hb; have n2_ := Rm ho0 HB; have n3_ := Kb BK0 hb; have n4_ := Bc HB hb; clear HO_4 HO_5 BK0 HB; revert n0_ n1_ n2_ n3_ n4_; intro HO_4 HO_5 HO440 BK0 HB; (try clear hb); (try clear hb2); (try clear hk); (try clear hi); (try clear ho0); obtain ⟨Ao21, co21, eo21⟩ := Kd.R_slice HO440.out; subst eo21; have p444 : 0 ≤ (0 : Int) := (by omega); have q444 : 0 < (t438.length : Int) := dT; obtain ⟨ad444, e444, hx444_0⟩ := Kd.at_int (Kd.R_reads' HO440.out).2.2 0 p444 q444; cases e444; have qi444 : (0 < t438.length) = True := eq_true (by omega); (try rw [show ((0 : Int)).toNat = 0 from rfl] at hx444_0); (try rw [Addr.add_zero'] at hx444_0); replace p444 := eq_true p444; replace q444 := eq_true q444) | ((with_reducible refine gate_callee (f := 181) rfl ?_); refine gL (some 25) Try.func181 #[.pointer (some ⟨g0, 0, none⟩), .slice Ao19 x5_1.length co19, .int .i64 (rd t438 0)] ?_; (with_reducible refine (impl_Hyper_edgeAt.calls k1 g0 a0_0 A0_1 c0_1 l0_1 _ _ x5_1 (rd t438 0) t445 _ ?side1 ?side2 ?side3 ?side4 ?side5 A14.out).mono ?_); (case side1 => exact Kz BK0.out); (case side2 => exact Cz (Kd.C_below HR0_1.out HB.out)); (case side3 => exact HC0_1.out); (case side4 => exact Cz ((Kd.R_reads' HO_5.out).2.2)); (case side5 => exact (Kd.R_reads' HO_5.out).2.1); rintro e w' ⟨rfl, ⟨nd, rfl⟩⟩; refine ⟨_, rfl, ?_⟩; (try (rw [drewN_self w20]; generalize hq_ : World.drewN w20 _ = w20; have n0_ : Aside0 (Kd.R (Kd.int .i64) 3 w20 w.heap.size (fun _ => True) (.slice (some ad444) t438.length co21) t438) := ⟨by rw [← hq_]; exact (Rz HO440.out)⟩; have n1_ : Aside0 (Kd.R k118 118 w20 w.heap.size (fun _ => True) u4 x4_1) := ⟨by rw [← hq_]; exact (Rz HO_4.out)⟩; have n2_ : Aside0 (Kd.R Kd.bool 4 w20 w.heap.size (fun _ => True) (.slice Ao19 x5_1.length co19) x5_1) := ⟨by rw [← hq_]; exact (Rz HO_5.out)⟩; have n3_ : Aside0 (w20.heap[g0]? = some (.cells #[.int .i64 a0_0, .slice A0_1 l0_1.length c0_1] 33 (0, 0))) := ⟨by rw [← hq_]; exact (Kz BK0.out)⟩; have n4_ : Aside0 (Below w.heap.size w w20) := ⟨by rw [← hq_]; exact (Bq)⟩; clear HO440 HO_4 HO_5 BK0 HB hq_; revert n0_ n1_ n2_ n3_ n4_; intro HO440 HO_4 HO_5 BK0 HB)); have p17 : 0 ≤ (t445 : Int) := dT; have q17 : (t445 : Int) < ((x5_1.length : Int) : Int) := dT; obtain ⟨go17, co17, eo17, gb17, gl17, cl17, HG17⟩ := Kd.R_form HO_5.out (by omega); (first | cases eo17 | (injection eo17 with ea_ en_ ec_; (first | subst ea_ | (injection ea_ with ea_; subst ea_)); subst ec_; clear en_)); have GB17 := am gb17; have GG17 := am HG17; clear gb17 gl17 HG17; obtain ⟨hx17_0, hf17_0⟩ := Kd.R_celln false HO_5.out (t445 : Int) p17 q17; replace p17 := eq_true p17; replace q17 := eq_true q17; obtain ⟨hy22_, hz22_⟩ := Kd.R_celln false HO_5.out (t445 : Int) (dT) (dT); have HP22 := Kd.R_putg HO_5.out (t445 : Int) true) | ((with_reducible refine gate_store (t := 4) (p := 28) rfl ?_); refine store_event (t := 4) (p := 28) (v := ?vo_w23) (w1 := (w20.setCell ⟨go17, (t445 : Int).toNat, none⟩ (.bool true))) ?hg ?ho ?hn ?hr ?_; (case ho => rfl); (case hg => rfl); (case hn => rfl); (case hr => first | (go_simp; done) | (go_simp; rfl)); intro w23 hw; have hg : w20.grownBy w23 (some go17) := (by rw [hw]; exact HP22.2); have hp_ : Kd.R Kd.bool 4 w23 w.heap.size (fun _ => True) (.slice (some ⟨go17, 0, none⟩) x5_1.length co19) y446 := (by rw [hw, Ny446.out]; exact HP22.1); clear HP22; have n0_ := am (Kd.R_over' (v := (.slice (some ⟨go17, 0, none⟩) x5_1.length co19)) (Rz HO_4.out) (Kd.R_typed HO_5.out) (by decide) hg); have n1_ := am (hp_); have n2_ := am (blk_grown (g := g0) (o := .cells #[.int .i64 a0_0, .slice A0_1 l0_1.length c0_1] 33 (0, 0)) (Kz BK0.out) hg (Kd.R_ne HO_5.out BK0.out (by decide))); have n3_ := am (Kd.R_over' (v := (.slice (some ⟨go17, 0, none⟩) x5_1.length co19)) (Rz HO440.out) (Kd.R_typed HO_5.out) (by decide) hg); have n4_ := am ((by rw [hw]; exact below_set (HB.out) GB17.out : Below w.heap.size w w23)); clear HO_4 HO_5 BK0 HO440 HB; revert n0_ n1_ n2_ n3_ n4_; intro HO_4 HO_5 BK0 HO440 HB; clear hg hw hp_; have p447 : 0 ≤ (0 : Int) := (by omega); have q447 : 0 < (t438.length : Int) := dT; obtain ⟨ad447, e447, hx447_0⟩ := Kd.at_int (Kd.R_reads' HO440.out).2.2 0 p447 q447; obtain rfl : ad444 = ad447 := (by injection e447); have qi447 : (0 < t438.length) = True := eq_true (by omega); (try rw [show ((0 : Int)).toNat = 0 from rfl] at hx447_0); (try rw [Addr.add_zero'] at hx447_0); replace p447 := eq_true p447; replace q447 := eq_true q447) | ((with_reducible refine gate_builtin (b := .append) (xs := #[.tmp 29, .tmp 35]) rfl ?_); at_builtin; refine Kd.R_append k118 (w0 := w) w.heap.size rfl (.tmp 29) (.tmp 35) 111 118 (.agg #[(.int .i64 0), (.int .i64 0)]) 16 rfl Try.underlying111 info118 rfl (by decide) (by omega) u4 x4_1 (⟨t445, rd t438 0⟩ : S118) [.int .i64 t445, .int .i64 (rd t438 0)] (fun _ => True) (fun _ => False) rfl rfl ?aP (fun _ hk => hk.elim) ?aF ?aO ?aB ?aS ?aL ?_; (case aP => exact k118_mkM _ _ _ (⟨t445, rd t438 0⟩ : S118)); (case aB => exact (Bq)); (case aF => exact (fun _ _ => trivial)); (case aO => exact (Rz HO_4.out)); (case aS => exact (below_size (w := w) (Bq))); (case aL => have := LMc18.out; omega); intro v449 w24 ho hb hg hat; rw [← Ny448.out] at ho; have n0_ := am (Kd.R_over' (Rz HO_5.out) (Kd.R_typed (Rz HO_4.out)) (by decide) hg); have n1_ := am (blk_grown (g := g0) (o := .cells #[.int .i64 a0_0, .slice A0_1 l0_1.length c0_1] 33 (0, 0)) (Kz BK0.out) hg (Kd.R_ne HO_4.out BK0.out (by decide))); have n2_ := am (Kd.R_over' (Rz HO440.out) (Kd.R_typed (Rz HO_4.out)) (by decide) hg); have n3_ := am (hb); have n4_ := am (ho); clear HO_5 BK0 HO440 HB HO_4; revert n0_ n1_ n2_ n3_ n4_; intro HO_5 BK0 HO440 HB HO450; clear ho hb hg hat))
        go_roundg k1
        case measure => have := HK1.out; omega
        case rel => exact ⟨(y448), (y446), H', ⟨by have := HK1.out; omega⟩, ⟨Rz HO450.out⟩, ⟨Rz HO_5.out⟩, ⟨Kz BK0.out⟩, ⟨Bq⟩⟩
       ·rw [if_neg c18] at H
        exact absurd H (by simp)
      ·rw [if_neg c16] at H
       exact absurd H (by simp)
     ·rw [if_neg c15] at H
      exact absurd H (by simp)
    ·rw [if_neg c13] at H
     exact absurd H (by simp)

def impl_Hyper_order.f (k : Nat) (a0_0 : Int) (l0_1 : List (List Int)) : Option ((List (S118)) × Bool) := (impl_Hyper_peel.f k a0_0 l0_1).bind fun bt451 => (some (bt451.1, ((bt451.2.length : Int) == 0)))
theorem impl_Hyper_order.calls (k : Nat) (g0 : Nat) (a0_0 : Int) (A0_1 : Option Addr) (c0_1 : Nat) (l0_1 : List (List Int)) (r1 : List (S118)) (r2 : Bool) (w : World) (hb0 : w.heap[g0]? = some (.cells #[.int .i64 a0_0, .slice A0_1 l0_1.length c0_1] 33 (0, 0))) (hr0_1 : Kd.C (Kd.slice 3 (Kd.int .i64)) w A0_1 l0_1.length l0_1) (hc0_1 : l0_1.length ≤ c0_1) (h : impl_Hyper_order.f k a0_0 l0_1 = some (r1, r2)) :
  Calls Try.prog 76 #[.pointer (some ⟨g0, 0, none⟩)] w fun e w' => ∃ v0_ : Value, e = .returned (.tuple #[v0_, .bool r2]) ∧ Kd.R k118 118 w' w.heap.size (fun _ => True) v0_ r1 ∧ Below w.heap.size w w' := by
 have HR0_1 := am hr0_1; have HC0_1 := am hc0_1; clear hr0_1 hc0_1; have BK0 := am hb0; clear hb0; have HB := am (Below.refl w.heap.size w); have H : ((impl_Hyper_peel.f k a0_0 l0_1).bind fun bt451 => (some (bt451.1, ((bt451.2.length : Int) == 0)))) = some (r1, r2) := h; clear h; obtain ⟨⟨t451, t452⟩, A2, H⟩ := ob H; (try dsimp -simprocs only at H)
 simp only [Option.some.injEq, Prod.mk.injEq] at H
 obtain ⟨rfl, rfl⟩ := H
 go_enter Try.func76, Try.ntmps76
 go_wp2_with (first | ((with_reducible refine gate_callee (f := 145) rfl ?_); refine gL (some 8) Try.func145 #[.pointer (some ⟨g0, 0, none⟩)] ?_; (with_reducible refine (impl_Hyper_peel.calls k g0 a0_0 A0_1 c0_1 l0_1 t451 t452 _ ?side1 ?side2 ?side3 A2.out).mono ?_); (case side1 => exact Kz BK0.out); (case side2 => exact Cz HR0_1.out); (case side3 => exact HC0_1.out); rintro e w3 ⟨v453, v455, rfl, ho0, ho1, hb⟩; refine ⟨_, rfl, ?_⟩; have n0_ := Rm ho0 HB; have n1_ := Rm ho1 HB; have n2_ := Kb BK0 hb; have n3_ := Bc HB hb; clear BK0 HB; revert n0_ n1_ n2_ n3_; intro HO454 HO456 BK0 HB; (try clear hb); (try clear hb2); (try clear hk); (try clear hi); (try clear ho0); (try clear ho1); obtain ⟨Ao4, co4, eo4⟩ := Kd.R_slice HO456.out; subst eo4))
 go_ret2
 exact ⟨_, eZ, Rz HO454.out, Bq⟩




def impl_valuesOk_1.f (a0 : Int) (a1_0 : Int) : Option (Bool) := if 0 ≤ a1_0 then ((impl_in.f a0 0 (wrap64 ((shl .i64 1 a1_0) - 1))).bind fun t463 => (some (!t463))) else (none)
theorem impl_valuesOk_1.calls (a0 : Int) (g1 : Nat) (a1_0 : Int) (r : Bool) (w : World) (hb1 : w.heap[g1]? = some (.cells #[.int .i64 a1_0] 3 (0, 0))) (h : impl_valuesOk_1.f a0 a1_0 = some r) :
  Calls Try.prog 192 #[.int .i64 a0, .pointer (some ⟨g1, 0, none⟩)] w fun e w' => e = .returned (.bool r) ∧ Drawn0 w w' := by
 have BK1 := am hb1; clear hb1; have H : (if 0 ≤ a1_0 then ((impl_in.f a0 0 (wrap64 ((shl .i64 1 a1_0) - 1))).bind fun t463 => (some (!t463))) else (none)) = some r := h; clear h
 by_cases c3 : 0 ≤ a1_0
 ·rw [if_pos c3] at H
  have c3b0 := eq_true c3; have c3b1 : decide (0 ≤ a1_0) = true := decide_eq_true c3; clear c3; obtain ⟨ji4, hji4⟩ : ∃ j_ : Int, (shl .i64 1 a1_0) = j_ := ⟨_, rfl⟩
  replace H : ((impl_in.f a0 0 (wrap64 ((ji4) - 1))).bind fun t463 => (some (!t463))) = some r := by first | (rw [hji4] at H; exact H) | (simp only [hji4] at H ⊢; exact H)
  have hji4_ : (IntKind.i64.wrap (1 * 2 ^ min a1_0.toNat 64)) = ji4 := hji4; have hji4z : a1_0 ≤ 64 → (IntKind.i64.wrap (1 * 2 ^ a1_0.toNat)) = ji4 := shl_small hji4
  have hji4u : (IntKind.i64.wrap (2 ^ min a1_0.toNat 64)) = ji4 := by have h_ := hji4_; rw [Int.one_mul] at h_; exact h_
  have hji4v : a1_0 ≤ 64 → (IntKind.i64.wrap (2 ^ a1_0.toNat)) = ji4 := fun hle_ => by have h_ := hji4z hle_; rw [Int.one_mul] at h_; exact h_
  have hji4y : (wrap64 (1 * 2 ^ min a1_0.toNat 64)) = ji4 := (i64_w _).symm.trans hji4_
  have hji4x : a1_0 ≤ 64 → (wrap64 (1 * 2 ^ a1_0.toNat)) = ji4 := fun h_ => (i64_w _).symm.trans (hji4z h_)
  obtain ⟨t463, A5, H⟩ := ob H; (try dsimp -simprocs only at H); obtain rfl := Option.some.inj H; obtain ⟨hcz6_0, hfz6_0⟩ := cf1 (w := w) BK1
  go_enter Try.func192, Try.ntmps192
  go_wp2_with (first | ((with_reducible refine gate_callee (f := 66) rfl ?_); refine goesL_ (some 8) rfl rfl Try.func66 (by kernel_rfl) rfl #[.int .i64 a0, .int .i64 0, .int .i64 (wrap64 ((ji4) - 1))] rfl (by (try simp only [List.map_toArray, List.map_cons, List.map_nil]); first | done | (simp only [hji4]; rfl) | rfl | (simp only [List.length_drop, List.length_take]; rfl)) ?_; (with_reducible refine (impl_in.calls a0 0 (wrap64 ((ji4) - 1)) t463 _ A5.out).mono ?_); rintro e w' ⟨rfl, ⟨nd, rfl⟩⟩; refine ⟨_, rfl, ?_⟩))
  go_ret
  exact ⟨by first | rfl | (simp; done) | (simp only [← hji4] <;> (first | rfl | simp)) | (simp [*]; done), by repeat (first | exact Drawn0.refl _ | apply Drawn0.step)⟩
 ·rw [if_neg c3] at H
  exact absurd H (by simp)

def slices_IndexFunc_int_int_at_impl_valuesOk_1.l0 : Nat → List Int → Int → Int → Int → Option (Int)
 | 0, _, _, _, _ => none
 | k + 1, x0, x7, x8, x3000 => if x8 < x7 then (if 0 ≤ x8 then (if x8 < (x0.length : Int) then ((impl_valuesOk_1.f (rd x0 x8) x3000).bind fun t465 => (if t465 = true then (some x8) else (slices_IndexFunc_int_int_at_impl_valuesOk_1.l0 k x0 x7 (wrap64 (x8 + 1)) x3000))) else (none)) else (none)) else (some (-1))
def slices_IndexFunc_int_int_at_impl_valuesOk_1.f (k : Nat) (l0 : List Int)  (a2_0 : Int) : Option (Int) := slices_IndexFunc_int_int_at_impl_valuesOk_1.l0 k l0 (l0.length : Int) 0 a2_0
theorem slices_IndexFunc_int_int_at_impl_valuesOk_1.calls (k : Nat) (A0 : Option Addr) (c0 : Nat) (l0 : List Int)  (g2 : Nat) (a2_0 : Int) (r : Int) (w : World) (hr0 : Kd.C (Kd.int .i64) w A0 l0.length l0) (hc0 : l0.length ≤ c0) (hb2 : w.heap[g2]? = some (.cells #[.int .i64 a2_0] 3 (0, 0))) (h : slices_IndexFunc_int_int_at_impl_valuesOk_1.f k l0 a2_0 = some r) :
  Calls Try.prog 168 #[.slice A0 l0.length c0, .func (.func 192) #[] #[.pointer (some ⟨g2, 0, none⟩)]] w fun e w' => e = .returned (.int .i64 r) ∧ Drawn0 w w' := by
 have HR0 := am hr0; have HC0 := am hc0; clear hr0 hc0; have BK2 := am hb2; clear hb2; have H : (slices_IndexFunc_int_int_at_impl_valuesOk_1.l0 k l0 (l0.length : Int) 0 a2_0) = some r := h; clear h; have H' := am H; clear H
 go_enter Try.func168, Try.ntmps168
 go_wp2
 go_loopg [8] k (fun kq v8 w' => ∃ (x8_1 : Int), v8 = .int .i64 x8_1 ∧ Aside0 (slices_IndexFunc_int_int_at_impl_valuesOk_1.l0 kq l0 (l0.length : Int) x8_1 a2_0 = some r) ∧ Aside0 (kq ≤ k) ∧ Aside0 (w'.heap[g2]? = some (.cells #[.int .i64 a2_0] 3 (0, 0))) ∧ Drawn0 w w')
 case atStart => exact ⟨(0), wZ, H', ⟨Nat.le_refl _⟩, ⟨Kz BK2.out⟩, by repeat (first | exact Drawn0.refl _ | apply Drawn0.step)⟩
 case round =>
  clear H'
  try clear c1
  try clear p2
  obtain ⟨x8_1, rfl, HA, HK1, BK2, ⟨m1, rfl⟩⟩ := hrel; cases gk with
  | zero => exact absurd HA.out (by simp [slices_IndexFunc_int_int_at_impl_valuesOk_1.l0])
  | succ k1 =>
   have H := HA.out; clear HA
   simp only [slices_IndexFunc_int_int_at_impl_valuesOk_1.l0] at H
   by_cases c4 : x8_1 < (l0.length : Int)
   ·rw [if_pos c4] at H
    have c4b0 : decide (x8_1 < (l0.length : Int)) = true := decide_eq_true c4; clear c4
    by_cases c5 : 0 ≤ x8_1
    ·rw [if_pos c5] at H
     have c5b0 : decide (0 ≤ x8_1) = true := decide_eq_true c5; clear c5
     by_cases c6 : x8_1 < (l0.length : Int)
     ·rw [if_pos c6] at H
      have c6b0 : decide (x8_1 < (l0.length : Int)) = true := decide_eq_true c6; clear c6; obtain ⟨t465, A7, H⟩ := ob H; (try dsimp -simprocs only at H)
      by_cases c8 : t465 = true
      ·subst c8
       rw [if_pos rfl] at H; obtain rfl := Option.some.inj H; obtain ⟨ad464, e464, hx464_0⟩ := Kd.at_int HR0.out x8_1 dT dT; cases e464; have p464 := eT (0 ≤ (x8_1 : Int)); have q464 := eT (x8_1 < (l0.length : Int))
       go_wp2_with (first | (go_at_call 192; (with_reducible refine (impl_valuesOk_1.calls (rd l0 x8_1) g2 a2_0 true _ ?side1 A7.out).mono ?_); (case side1 => exact Kz BK2.out); rintro e w' ⟨rfl, ⟨nd, rfl⟩⟩))
       go_ret
       exact ⟨by first | rfl | (simp; done) | (simp [*]; done), by repeat (first | exact Drawn0.refl _ | apply Drawn0.step)⟩
      ·replace c8 := Bool.eq_false_iff.mpr c8
       subst c8
       rw [if_neg Bool.false_ne_true] at H; have H' := am H; clear H; obtain ⟨ad464, e464, hx464_0⟩ := Kd.at_int HR0.out x8_1 dT dT; cases e464; have p464 := eT (0 ≤ (x8_1 : Int)); have q464 := eT (x8_1 < (l0.length : Int))
       go_wp2_with (first | (go_at_call 192; (with_reducible refine (impl_valuesOk_1.calls (rd l0 x8_1) g2 a2_0 false _ ?side1 A7.out).mono ?_); (case side1 => exact Kz BK2.out); rintro e w' ⟨rfl, ⟨nd, rfl⟩⟩))
       go_roundg k1
       case measure => have := HK1.out; omega
       case rel => exact ⟨(wrap64 (x8_1 + 1)), wZ, H', ⟨by have := HK1.out; omega⟩, ⟨Kz BK2.out⟩, by repeat (first | exact Drawn0.refl _ | apply Drawn0.step)⟩
     ·rw [if_neg c6] at H
      exact absurd H (by simp)
    ·rw [if_neg c5] at H
     exact absurd H (by simp)
   ·rw [if_neg c4] at H
    have c4b0 : decide (x8_1 < (l0.length : Int)) = false := decide_eq_false c4; clear c4; obtain rfl := Option.some.inj H
    go_wp2
    go_ret
    exact ⟨by first | rfl | (simp; done) | (simp [*]; done), by repeat (first | exact Drawn0.refl _ | apply Drawn0.step)⟩

def slices_ContainsFunc_int_int_at_impl_valuesOk_1.f (k : Nat) (l0 : List Int)  (a2_0 : Int) : Option (Bool) := (slices_IndexFunc_int_int_at_impl_valuesOk_1.f k l0 a2_0).bind fun t466 => (some (decide (t466 ≥ 0)))
theorem slices_ContainsFunc_int_int_at_impl_valuesOk_1.calls (k : Nat) (A0 : Option Addr) (c0 : Nat) (l0 : List Int)  (g2 : Nat) (a2_0 : Int) (r : Bool) (w : World) (hr0 : Kd.C (Kd.int .i64) w A0 l0.length l0) (hc0 : l0.length ≤ c0) (hb2 : w.heap[g2]? = some (.cells #[.int .i64 a2_0] 3 (0, 0))) (h : slices_ContainsFunc_int_int_at_impl_valuesOk_1.f k l0 a2_0 = some r) :
  Calls Try.prog 114 #[.slice A0 l0.length c0, .func (.func 192) #[] #[.pointer (some ⟨g2, 0, none⟩)]] w fun e w' => e = .returned (.bool r) ∧ Drawn0 w w' := by
 have HR0 := am hr0; have HC0 := am hc0; clear hr0 hc0; have BK2 := am hb2; clear hb2; have H : ((slices_IndexFunc_int_int_at_impl_valuesOk_1.f k l0 a2_0).bind fun t466 => (some (decide (t466 ≥ 0)))) = some r := h; clear h; obtain ⟨t466, A4, H⟩ := ob H; (try dsimp -simprocs only at H); obtain rfl := Option.some.inj H
 go_enter Try.func114, Try.ntmps114
 go_wp2_with (first | ((with_reducible refine gate_callee (f := 168) rfl ?_); refine gL (some 7) Try.func168 #[.slice A0 l0.length c0, .func (.func 192) #[] #[.pointer (some ⟨g2, 0, none⟩)]] ?_; (with_reducible refine (slices_IndexFunc_int_int_at_impl_valuesOk_1.calls k _ _ l0  g2 a2_0 t466 _ ?side1 ?side2 ?side3 A4.out).mono ?_); (case side1 => exact Cz HR0.out); (case side2 => exact HC0.out); (case side3 => exact Kz BK2.out); rintro e w' ⟨rfl, ⟨nd, rfl⟩⟩; refine ⟨_, rfl, ?_⟩))
 go_ret
 exact ⟨by first | rfl | (simp; done) | (simp [*]; done), by repeat (first | exact Drawn0.refl _ | apply Drawn0.step)⟩

def impl_valuesOk.f (k : Nat) (a0 : Int) (l1 : List ByteArray) (l2 : List Int) (a3 : Int) (a4 : Int) : Option (Bool) := (impl_isSeed.f a0).bind fun t468 => (if t468 = true then ((impl_AreKeys.f k l1).bind fun t469 => (if t469 = true then ((impl_segmentOk.f a3).bind fun t470 => (if t470 = true then ((impl_widthOk.f a4).bind fun t471 => (if t471 = true then (if (l2.length : Int) = (l1.length : Int) then ((slices_ContainsFunc_int_int_at_impl_valuesOk_1.f k l2 a4).bind fun t472 => (some (!t472))) else (some false)) else (some false))) else (some false))) else (some false))) else (some false))
theorem impl_valuesOk.calls (k : Nat) (a0 : Int) (A1 : Option Addr) (c1 : Nat) (l1 : List ByteArray) (A2 : Option Addr) (c2 : Nat) (l2 : List Int) (a3 : Int) (a4 : Int) (r : Bool) (w : World) (hr1 : Kd.C Kd.string w A1 l1.length l1) (hc1 : l1.length ≤ c1) (hr2 : Kd.C (Kd.int .i64) w A2 l2.length l2) (hc2 : l2.length ≤ c2) (h : impl_valuesOk.f k a0 l1 l2 a3 a4 = some r) :
  Calls Try.prog 170 #[.int .i64 a0, .slice A1 l1.length c1, .slice A2 l2.length c2, .int .i64 a3, .int .i64 a4] w fun e w' => e = .returned (.bool r) ∧ Below w.heap.size w w' := by
 have HR1 := am hr1; have HC1 := am hc1; clear hr1 hc1; have HR2 := am hr2; have HC2 := am hc2; clear hr2 hc2; have HB := am (Below.refl w.heap.size w); have H : ((impl_isSeed.f a0).bind fun t468 => (if t468 = true then ((impl_AreKeys.f k l1).bind fun t469 => (if t469 = true then ((impl_segmentOk.f a3).bind fun t470 => (if t470 = true then ((impl_widthOk.f a4).bind fun t471 => (if t471 = true then (if (l2.length : Int) = (l1.length : Int) then ((slices_ContainsFunc_int_int_at_impl_valuesOk_1.f k l2 a4).bind fun t472 => (some (!t472))) else (some false)) else (some false))) else (some false))) else (some false))) else (some false))) = some r := h; clear h; obtain ⟨t468, A6, H⟩ := ob H; (try dsimp -simprocs only at H)
 by_cases c7 : t468 = true
 ·subst c7
  rw [if_pos rfl] at H; obtain ⟨t469, A8, H⟩ := ob H; (try dsimp -simprocs only at H)
  by_cases c9 : t469 = true
  ·subst c9
   rw [if_pos rfl] at H; obtain ⟨t470, A10, H⟩ := ob H; (try dsimp -simprocs only at H)
   by_cases c11 : t470 = true
   ·subst c11
    rw [if_pos rfl] at H; obtain ⟨t471, A12, H⟩ := ob H; (try dsimp -simprocs only at H)
    by_cases c13 : t471 = true
    ·subst c13
     rw [if_pos rfl] at H
     by_cases c14 : (l2.length : Int) = (l1.length : Int)
     ·rw [if_pos c14] at H
      have c14b0 : ((l2.length : Int) == (l1.length : Int)) = true := beq_iff_eq.mpr c14; have c14b1 : ((l2.length : Int) != (l1.length : Int)) = false := bne_eq_false_iff_eq.mpr c14
      have c14b2 : (l2.length == l1.length) = true := by first | simpa using c14 | (simp at c14 ⊢; omega)
      clear c14; obtain ⟨t472, A15, H⟩ := ob H; (try dsimp -simprocs only at H); obtain rfl := Option.some.inj H
      go_enter Try.func170, Try.ntmps170
      go_wp2_with (first | ((with_reducible refine gate_dst (N := 9) rfl ?_); (try (refine gate_guard (by rfl) ?_; dsimp only)); refine bE 9 #[.int .i64 a4] 3 ?_; intro gb467 hg w16 hbox hb; have n0_ := Bb HB hb; have n1_ := am (hbox); have n2_ := Gl HB hg; have n3_ := Gl HB hg; clear HB; revert n0_ n1_ n2_ n3_; intro HB BK467 GW467 GE467; clear hb hbox hg) | ((with_reducible refine gate_callee (f := 59) rfl ?_); refine gL (some 12) Try.func59 #[.int .i64 a0] ?_; (with_reducible refine (impl_isSeed.calls a0 true _ A6.out).mono ?_); rintro e w' ⟨rfl, ⟨nd, rfl⟩⟩; refine ⟨_, rfl, ?_⟩) | (go_at_call 37; (with_reducible refine (impl_AreKeys.calls k _ _ l1 true _ ?side1 ?side2 A8.out).mono ?_); (case side1 => exact Cz (Kd.C_below HR1.out (Bq))); (case side2 => exact HC1.out); rintro e w' ⟨rfl, ⟨nd, rfl⟩⟩) | (go_at_call 60; (with_reducible refine (impl_segmentOk.calls a3 true _ A10.out).mono ?_); rintro e w' ⟨rfl, ⟨nd, rfl⟩⟩; obtain ⟨hcz17_0, hfz17_0⟩ := cf1 (w := w16) BK467) | (go_at_call 113; (with_reducible refine (impl_widthOk.calls a4 true _ A12.out).mono ?_); rintro e w' ⟨rfl, ⟨nd, rfl⟩⟩) | ((with_reducible refine gate_callee (f := 114) rfl ?_); refine gL (some 38) Try.func114 #[.slice A2 l2.length c2, .func (.func 192) #[] #[.pointer (some ⟨gb467, 0, none⟩)]] ?_; (with_reducible refine (slices_ContainsFunc_int_int_at_impl_valuesOk_1.calls k _ _ l2  gb467 a4 t472 _ ?side1 ?side2 ?side3 A15.out).mono ?_); (case side1 => exact Cz (Kd.C_below HR2.out (Bq))); (case side2 => exact HC2.out); (case side3 => exact Kz BK467.out); rintro e w' ⟨rfl, ⟨nd, rfl⟩⟩; refine ⟨_, rfl, ?_⟩))
      go_ret
      exact ⟨eZ, Bq⟩
     ·rw [if_neg c14] at H
      have c14b0 : ((l2.length : Int) == (l1.length : Int)) = false := beq_eq_false_iff_ne.mpr c14; have c14b1 : ((l2.length : Int) != (l1.length : Int)) = true := bne_iff_ne.mpr c14
      have c14b2 : (l2.length == l1.length) = false := by first | simpa using c14 | (simp at c14 ⊢; omega)
      obtain rfl := Option.some.inj H
      go_enter Try.func170, Try.ntmps170
      go_wp2_with (first | ((with_reducible refine gate_dst (N := 9) rfl ?_); (try (refine gate_guard (by rfl) ?_; dsimp only)); refine bE 9 #[.int .i64 a4] 3 ?_; intro gb467 hg w18 hbox hb; have n0_ := Bb HB hb; have n1_ := am (hbox); have n2_ := Gl HB hg; have n3_ := Gl HB hg; clear HB; revert n0_ n1_ n2_ n3_; intro HB BK467 GW467 GE467; clear hb hbox hg) | ((with_reducible refine gate_callee (f := 59) rfl ?_); refine gL (some 12) Try.func59 #[.int .i64 a0] ?_; (with_reducible refine (impl_isSeed.calls a0 true _ A6.out).mono ?_); rintro e w' ⟨rfl, ⟨nd, rfl⟩⟩; refine ⟨_, rfl, ?_⟩) | (go_at_call 37; (with_reducible refine (impl_AreKeys.calls k _ _ l1 true _ ?side1 ?side2 A8.out).mono ?_); (case side1 => exact Cz (Kd.C_below HR1.out (Bq))); (case side2 => exact HC1.out); rintro e w' ⟨rfl, ⟨nd, rfl⟩⟩) | (go_at_call 60; (with_reducible refine (impl_segmentOk.calls a3 true _ A10.out).mono ?_); rintro e w' ⟨rfl, ⟨nd, rfl⟩⟩; obtain ⟨hcz19_0, hfz19_0⟩ := cf1 (w := w18) BK467) | (go_at_call 113; (with_reducible refine (impl_widthOk.calls a4 true _ A12.out).mono ?_); rintro e w' ⟨rfl, ⟨nd, rfl⟩⟩))
      go_ret
      exact ⟨eZ, Bq⟩
    ·replace c13 := Bool.eq_false_iff.mpr c13
     subst c13
     rw [if_neg Bool.false_ne_true] at H; obtain rfl := Option.some.inj H
     go_enter Try.func170, Try.ntmps170
     go_wp2_with (first | ((with_reducible refine gate_dst (N := 9) rfl ?_); (try (refine gate_guard (by rfl) ?_; dsimp only)); refine bE 9 #[.int .i64 a4] 3 ?_; intro gb467 hg w20 hbox hb; have n0_ := Bb HB hb; have n1_ := am (hbox); have n2_ := Gl HB hg; have n3_ := Gl HB hg; clear HB; revert n0_ n1_ n2_ n3_; intro HB BK467 GW467 GE467; clear hb hbox hg) | ((with_reducible refine gate_callee (f := 59) rfl ?_); refine gL (some 12) Try.func59 #[.int .i64 a0] ?_; (with_reducible refine (impl_isSeed.calls a0 true _ A6.out).mono ?_); rintro e w' ⟨rfl, ⟨nd, rfl⟩⟩; refine ⟨_, rfl, ?_⟩) | (go_at_call 37; (with_reducible refine (impl_AreKeys.calls k _ _ l1 true _ ?side1 ?side2 A8.out).mono ?_); (case side1 => exact Cz (Kd.C_below HR1.out (Bq))); (case side2 => exact HC1.out); rintro e w' ⟨rfl, ⟨nd, rfl⟩⟩) | (go_at_call 60; (with_reducible refine (impl_segmentOk.calls a3 true _ A10.out).mono ?_); rintro e w' ⟨rfl, ⟨nd, rfl⟩⟩; obtain ⟨hcz21_0, hfz21_0⟩ := cf1 (w := w20) BK467) | (go_at_call 113; (with_reducible refine (impl_widthOk.calls a4 false _ A12.out).mono ?_); rintro e w' ⟨rfl, ⟨nd, rfl⟩⟩))
     go_ret
     exact ⟨eZ, Bq⟩
   ·replace c11 := Bool.eq_false_iff.mpr c11
    subst c11
    rw [if_neg Bool.false_ne_true] at H; obtain rfl := Option.some.inj H
    go_enter Try.func170, Try.ntmps170
    go_wp2_with (first | ((with_reducible refine gate_dst (N := 9) rfl ?_); (try (refine gate_guard (by rfl) ?_; dsimp only)); refine bE 9 #[.int .i64 a4] 3 ?_; intro gb467 hg w22 hbox hb; have n0_ := Bb HB hb; have n1_ := am (hbox); have n2_ := Gl HB hg; have n3_ := Gl HB hg; clear HB; revert n0_ n1_ n2_ n3_; intro HB BK467 GW467 GE467; clear hb hbox hg) | ((with_reducible refine gate_callee (f := 59) rfl ?_); refine gL (some 12) Try.func59 #[.int .i64 a0] ?_; (with_reducible refine (impl_isSeed.calls a0 true _ A6.out).mono ?_); rintro e w' ⟨rfl, ⟨nd, rfl⟩⟩; refine ⟨_, rfl, ?_⟩) | (go_at_call 37; (with_reducible refine (impl_AreKeys.calls k _ _ l1 true _ ?side1 ?side2 A8.out).mono ?_); (case side1 => exact Cz (Kd.C_below HR1.out (Bq))); (case side2 => exact HC1.out); rintro e w' ⟨rfl, ⟨nd, rfl⟩⟩) | (go_at_call 60; (with_reducible refine (impl_segmentOk.calls a3 false _ A10.out).mono ?_); rintro e w' ⟨rfl, ⟨nd, rfl⟩⟩))
    go_ret
    exact ⟨eZ, Bq⟩
  ·replace c9 := Bool.eq_false_iff.mpr c9
   subst c9
   rw [if_neg Bool.false_ne_true] at H; obtain rfl := Option.some.inj H
   go_enter Try.func170, Try.ntmps170
   go_wp2_with (first | ((with_reducible refine gate_dst (N := 9) rfl ?_); (try (refine gate_guard (by rfl) ?_; dsimp only)); refine bE 9 #[.int .i64 a4] 3 ?_; intro gb467 hg w23 hbox hb; have n0_ := Bb HB hb; have n1_ := am (hbox); have n2_ := Gl HB hg; have n3_ := Gl HB hg; clear HB; revert n0_ n1_ n2_ n3_; intro HB BK467 GW467 GE467; clear hb hbox hg) | ((with_reducible refine gate_callee (f := 59) rfl ?_); refine gL (some 12) Try.func59 #[.int .i64 a0] ?_; (with_reducible refine (impl_isSeed.calls a0 true _ A6.out).mono ?_); rintro e w' ⟨rfl, ⟨nd, rfl⟩⟩; refine ⟨_, rfl, ?_⟩) | (go_at_call 37; (with_reducible refine (impl_AreKeys.calls k _ _ l1 false _ ?side1 ?side2 A8.out).mono ?_); (case side1 => exact Cz (Kd.C_below HR1.out (Bq))); (case side2 => exact HC1.out); rintro e w' ⟨rfl, ⟨nd, rfl⟩⟩))
   go_ret
   exact ⟨eZ, Bq⟩
 ·replace c7 := Bool.eq_false_iff.mpr c7
  subst c7
  rw [if_neg Bool.false_ne_true] at H; obtain rfl := Option.some.inj H
  go_enter Try.func170, Try.ntmps170
  go_wp2_with (first | ((with_reducible refine gate_dst (N := 9) rfl ?_); (try (refine gate_guard (by rfl) ?_; dsimp only)); refine bE 9 #[.int .i64 a4] 3 ?_; intro gb467 hg w24 hbox hb; have n0_ := Bb HB hb; have n1_ := am (hbox); have n2_ := Gl HB hg; have n3_ := Gl HB hg; clear HB; revert n0_ n1_ n2_ n3_; intro HB BK467 GW467 GE467; clear hb hbox hg) | ((with_reducible refine gate_callee (f := 59) rfl ?_); refine gL (some 12) Try.func59 #[.int .i64 a0] ?_; (with_reducible refine (impl_isSeed.calls a0 false _ A6.out).mono ?_); rintro e w' ⟨rfl, ⟨nd, rfl⟩⟩; refine ⟨_, rfl, ?_⟩))
  go_ret
  exact ⟨eZ, Bq⟩

open Go Go.Shelf Go.Proofs.YtmehagedoaopeaaGp
def impl_TableByPeeling.in3 (e : List Int) (n : Nat) : Bool := decide (2 < e.length) && (decide (0 ≤ rd e 0) && (decide (rd e 0 < (n : Int)) && (decide (0 ≤ rd e 1) && (decide (rd e 1 < (n : Int)) && (decide (0 ≤ rd e 2) && decide (rd e 2 < (n : Int)))))))
theorem impl_TableByPeeling.in3E {e : List Int} {n : Nat} (h : impl_TableByPeeling.in3 e n = true) : 2 < e.length ∧ 0 ≤ rd e 0 ∧ rd e 0 < (n : Int) ∧ 0 ≤ rd e 1 ∧ rd e 1 < (n : Int) ∧ 0 ≤ rd e 2 ∧ rd e 2 < (n : Int) := by
  simp only [impl_TableByPeeling.in3, Bool.and_eq_true, decide_eq_true_eq] at h
  exact ⟨h.1, h.2.1, h.2.2.1, h.2.2.2.1, h.2.2.2.2.1, h.2.2.2.2.2.1, h.2.2.2.2.2.2⟩
def impl_TableByPeeling.ok (E : List (List Int)) (V : List Int) (n : Nat) (s : S118) : Bool := decide (0 ≤ s.f1) && (decide (s.f1 < (n : Int)) && (decide (0 ≤ s.f0) && (decide (s.f0 < (E.length : Int)) && (impl_TableByPeeling.in3 (rd_L3 E s.f0) n && decide (s.f0 < (V.length : Int))))))
def impl_TableByPeeling.sum (m e : List Int) : Int := Go.bits .xor .i64 (Go.bits .xor .i64 (rd m (rd e 0)) (rd m (rd e 1))) (rd m (rd e 2))
def impl_TableByPeeling.step (E : List (List Int)) (V : List Int) (m : List Int) (s : S118) : List Int := (m.set ((s.f1) : Int).toNat 0).set ((s.f1) : Int).toNat (Go.bits .xor .i64 (rd V (s.f0)) (impl_TableByPeeling.sum (m.set ((s.f1) : Int).toNat 0) (rd_L3 E (s.f0))))
theorem impl_TableByPeeling.ord {o0 o1 o2 : Int} {e : List Int} (m : List Int) (h : impl_TableByPeeling.in3 e m.length = true) : impl_Table_value.f o0 o1 o2 m e = some (impl_TableByPeeling.sum m e) := by
  obtain ⟨h2, a0, b0, a1, b1, a2, b2⟩ := impl_TableByPeeling.in3E h
  unfold impl_Table_value.f impl_TableByPeeling.sum
  rw [if_pos (by omega), if_pos a0, if_pos b0, if_pos (by omega), if_pos a1, if_pos b1, if_pos (by omega), if_pos a2, if_pos b2]
theorem impl_TableByPeeling.okE {E : List (List Int)} {V : List Int} {n : Nat} {s : S118} (h : impl_TableByPeeling.ok E V n s = true) : 0 ≤ s.f1 ∧ s.f1 < (n : Int) ∧ 0 ≤ s.f0 ∧ s.f0 < (E.length : Int) ∧ impl_TableByPeeling.in3 (rd_L3 E s.f0) n = true ∧ s.f0 < (V.length : Int) := by
  simp only [impl_TableByPeeling.ok, Bool.and_eq_true, decide_eq_true_eq] at h
  exact ⟨h.1, h.2.1, h.2.2.1, h.2.2.2.1, h.2.2.2.2.1, h.2.2.2.2.2⟩
def impl_TableByPeeling.l0 (xs : List S118) (_ : Int) (V : List Int) (_ : Int) (E : List (List Int)) (o0 o1 o2 : Int) (m : List Int) : Option (Int × Int × Int × List Int × Bool) := if (xs.all (impl_TableByPeeling.ok E V m.length) = true ∧ 0 < m.length ∧ xs.length ≤ 17592186044416) then (some (o0, o1, o2, xs.foldr (fun s m => impl_TableByPeeling.step E V m s) m, true)) else (none)
def impl_TableByPeeling.f (k : Nat) (a0 : Int) (l1 : List ByteArray) (l2 : List Int) (a3 : Int) (a4 : Int) : Option (Int × Int × Int × List Int × Bool) := (impl_valuesOk.f k a0 l1 l2 a3 a4).bind fun t475 => (if t475 = true then ((impl_hyper.f k a0 l1 a3).bind fun bt476 => ((impl_Hyper_order.f k bt476.1 bt476.2).bind fun bt481 => (if bt481.2 = true then (if 0 ≤ bt476.1 then (if (bt476.1 : Int).toNat ≤ 35184372088832 then (impl_TableByPeeling.l0 bt481.1 (wrap64 ((bt481.1.length : Int) - 1)) l2 bt476.1 bt476.2 a0 a3 a4 (List.replicate (bt476.1 : Int).toNat 0)) else (none)) else (none)) else (some (0, 0, 0, ([] : List Int), false))))) else (some (0, 0, 0, ([] : List Int), false)))
def impl_TableByPeeling.T11 : Bool × List (List Nat × List Nat) := (true, [([], []), ([0], [0]), ([], []), ([2], [2]), ([], []), ([], []), ([5], [5]), ([4, 6], [4, 6]), ([7], [7]), ([], []), ([9], [9]), ([], []), ([11], [11]), ([10, 12], [10, 12]), ([13], [13]), ([14], [14]), ([8, 15], [8, 15]), ([1, 3, 0, 1, 2, 3, 4, 5, 6, 7, 8, 9, 10, 11, 12, 13, 14, 15, 16], [1, 3]), ([17, 16, 15, 0, 1, 2, 3, 4, 5, 6, 7, 8, 9, 10, 11, 12, 13, 14, 15, 16], [16, 17])])
def impl_TableByPeeling.B11 : List Nat := [0, 1, 0, 4, 0, 0, 32, 112, 240, 0, 512, 0, 2048, 7680, 15872, 32256, 65520, 131071, 262143]
theorem impl_TableByPeeling.tab11 : rtab .any (opsOf Try.f117 11) = impl_TableByPeeling.T11 := by kernel_rfl
theorem impl_TableByPeeling.bits11 : waitsOk impl_TableByPeeling.T11.2 impl_TableByPeeling.B11 = true := by kernel_rfl
theorem impl_TableByPeeling.calls (k : Nat) (a0 : Int) (A1 : Option Addr) (c1 : Nat) (l1 : List ByteArray) (A2 : Option Addr) (c2 : Nat) (l2 : List Int) (a3 : Int) (a4 : Int) (r1 : Int) (r2 : Int) (r3 : Int) (r4 : List Int) (r5 : Bool) (w : World) (hr1 : Kd.C Kd.string w A1 l1.length l1) (hc1 : l1.length ≤ c1) (hr2 : Kd.C (Kd.int .i64) w A2 l2.length l2) (hc2 : l2.length ≤ c2) (h : impl_TableByPeeling.f k a0 l1 l2 a3 a4 = some (r1, r2, r3, r4, r5)) :
  Calls Try.prog 117 #[.int .i64 a0, .slice A1 l1.length c1, .slice A2 l2.length c2, .int .i64 a3, .int .i64 a4] w fun e w' => ∃ v3_ : Value, e = .returned (.tuple #[.agg #[.int .i64 r1, .int .i64 r2, .int .i64 r3, v3_], .bool r5]) ∧ Kd.R (Kd.int .i64) 3 w' w.heap.size (fun _ => True) v3_ r4 ∧ Below w.heap.size w w' := by
 have hu71 := Try.underlying71; have hu33 := Try.underlying33; have hu118 := Try.underlying118; have HR1 := am hr1; have HC1 := am hc1; clear hr1 hc1; have HR2 := am hr2; have HC2 := am hc2; clear hr2 hc2; have HB := am (Below.refl w.heap.size w); have H : ((impl_valuesOk.f k a0 l1 l2 a3 a4).bind fun t475 => (if t475 = true then ((impl_hyper.f k a0 l1 a3).bind fun bt476 => ((impl_Hyper_order.f k bt476.1 bt476.2).bind fun bt481 => (if bt481.2 = true then (if 0 ≤ bt476.1 then (if (bt476.1 : Int).toNat ≤ 35184372088832 then (impl_TableByPeeling.l0 bt481.1 (wrap64 ((bt481.1.length : Int) - 1)) l2 bt476.1 bt476.2 a0 a3 a4 (List.replicate (bt476.1 : Int).toNat 0)) else (none)) else (none)) else (some (0, 0, 0, ([] : List Int), false))))) else (some (0, 0, 0, ([] : List Int), false)))) = some (r1, r2, r3, r4, r5) := h; clear h; obtain ⟨t475, A6, H⟩ := ob H; (try dsimp -simprocs only at H)
 by_cases c7 : t475 = true
 ·subst c7
  rw [if_pos rfl] at H; obtain ⟨⟨t476, t477⟩, A8, H⟩ := ob H; (try dsimp -simprocs only at H); obtain ⟨⟨t481, t482⟩, A9, H⟩ := ob H; (try dsimp -simprocs only at H)
  by_cases c10 : t482 = true
  ·subst c10
   rw [if_pos rfl] at H
   by_cases c11 : 0 ≤ t476
   ·rw [if_pos c11] at H
    have c11b0 := eq_true c11; have c11b1 : decide (0 ≤ t476) = true := decide_eq_true c11; clear c11
    by_cases c12 : (t476 : Int).toNat ≤ 35184372088832
    ·rw [if_pos c12] at H
     have c12b0 := eq_true c12; have c12b1 : decide ((t476 : Int).toNat ≤ 35184372088832) = true := decide_eq_true c12; clear c12; obtain ⟨y485, hy485⟩ : ∃ y_ : List Int, y_ = (List.replicate (t476 : Int).toNat 0) := ⟨_, rfl⟩
     replace H : (impl_TableByPeeling.l0 t481 (wrap64 ((t481.length : Int) - 1)) l2 t476 t477 a0 a3 a4 y485) = some (r1, r2, r3, r4, r5) := by (try rw [hy485]); first | with_reducible exact H | exact (Option.bind_some _ _).symm.trans H | exact H
     have Ny485 := am hy485; clear hy485; have H' := am H; clear H
     let bp_ : Exit → Act → World → Prop := bodyPost Try.prog Try.f117 (fun _ _ => True); refine calls_marks Try.func117 rfl ?_; simp only [Try.ntmps117, List.size_toArray, List.length_cons, List.length_nil, Nat.reduceAdd, Nat.reduceSub, Array.replicate_succ, Array.replicate_zero, List.push_toArray, List.append_toArray, List.nil_append, List.cons_append]
     go_wp2_with (first | ((with_reducible refine gate_dst (N := 7) rfl ?_); refine bE 7 #[.slice A2 l2.length c2] 24 ?_; intro gb473 hg w13 hbox hb; have n0_ := Bb HB hb; have n1_ := am (hbox); have n2_ := Gl HB hg; have n3_ := Gl HB hg; clear HB; revert n0_ n1_ n2_ n3_; intro HB BK473 GW473 GE473; clear hb hbox hg) | ((with_reducible refine gate_dst (N := 10) rfl ?_); refine bE 10 #[.int .i64 0, .int .i64 0, .int .i64 0, .slice none 0 0] 71 ?_; intro gb474 hg w14 hbox hb; have n0_ := Kb BK473 hb; have n1_ := Bc HB hb; have n2_ := am (hbox); have n3_ := Gm HB hg; have n4_ := Gm HB hg; have n5_ := Nl BK473 hg; have n6_ := Ng BK473 hg; clear BK473 HB; revert n0_ n1_ n2_ n3_ n4_ n5_ n6_; intro BK473 HB BK474 GW474 GE474 NB473_474 NB474_473; clear hb hbox hg; have hnb15 := NB473_474.out; have hnc15 := NB474_473.out; obtain ⟨hcz16_0, hfz16_0⟩ := cf1 (w := w14) BK473) | ((with_reducible refine gate_callee (f := 170) rfl ?_); refine gL (some 23) Try.func170 #[.int .i64 a0, .slice A1 l1.length c1, .slice A2 l2.length c2, .int .i64 a3, .int .i64 a4] ?_; (with_reducible refine (impl_valuesOk.calls k a0 _ _ l1 _ _ l2 a3 a4 true _ ?side1 ?side2 ?side3 ?side4 A6.out).mono ?_); (case side1 => exact Cz (Kd.C_below HR1.out HB.out)); (case side2 => exact HC1.out); (case side3 => exact Cz (Kd.C_below HR2.out HB.out)); (case side4 => exact HC2.out); rintro e w17 ⟨rfl, hb⟩; refine ⟨_, rfl, ?_⟩; have n0_ := Kb BK473 hb; have n1_ := Kb BK474 hb; have n2_ := Bc HB hb; clear BK473 BK474 HB; revert n0_ n1_ n2_; intro BK473 BK474 HB; (try clear hb); (try clear hb2); (try clear hk); (try clear hi)) | ((with_reducible refine gate_callee (f := 61) rfl ?_); refine gL (some 29) Try.func61 #[.int .i64 a0, .slice A1 l1.length c1, .int .i64 a3] ?_; (with_reducible refine (impl_hyper.calls k a0 _ _ l1 a3 t476 t477 _ ?side1 ?side2 A8.out).mono ?_); (case side1 => exact Cz (Kd.C_below HR1.out HB.out)); (case side2 => exact HC1.out); rintro e w18 ⟨v478, rfl, ho0, hb⟩; refine ⟨_, rfl, ?_⟩; have n0_ := am (Kd.S_lower (Kd.S_newB ho0 (g := gb473) (o := .cells #[.slice A2 l2.length c2] 24 (0, 0)) (Kz BK473.out)) (below_size (w := w) (Bq))); have n1_ := Kb BK473 hb; have n2_ := Kb BK474 hb; have n3_ := Bc HB hb; clear BK473 BK474 HB; revert n0_ n1_ n2_ n3_; intro HO479 BK473 BK474 HB; (try clear hb); (try clear hb2); (try clear hk); (try clear hi); (try clear ho0)) | ((with_reducible refine gate_dst (N := 12) rfl ?_); refine bE 12 #[.int .i64 0, .slice none 0 0] 33 ?_; intro gb480 hg w19 hbox hb; have n0_ := am (Kd.S_below (by (with_reducible repeat (first | apply Kd.S_alloc | apply Kd.S_drewN | apply Kd.S_drew)); exact HO479.out) hb); have n1_ := Kb BK473 hb; have n2_ := Kb BK474 hb; have n3_ := Bc HB hb; have n4_ := am (hbox); have n5_ := Gm HB hg; have n6_ := Gm HB hg; have n7_ := Nl BK473 hg; have n8_ := Ng BK473 hg; have n9_ := Nl BK474 hg; have n10_ := Ng BK474 hg; clear HO479 BK473 BK474 HB; revert n0_ n1_ n2_ n3_ n4_ n5_ n6_ n7_ n8_ n9_ n10_; intro HO479 BK473 BK474 HB BK480 GW480 GE480 NB473_480 NB480_473 NB474_480 NB480_474; clear hb hbox hg; have hnb20 := NB480_473.out; have hnc20 := NB473_480.out; have hnb21 := NB480_474.out; have hnc21 := NB474_480.out; obtain ⟨hcz22_0, hcz22_1, hfz22_0, hfz22_1⟩ := cf2 (w := w19) BK480; obtain ⟨Ao23, co23, eo23⟩ := Kd.S_slice HO479.out; subst eo23) | ((with_reducible refine gate_callee (f := 76) rfl ?_); refine gL (some 31) Try.func76 #[.pointer (some ⟨gb480, 0, none⟩)] ?_; (with_reducible refine (impl_Hyper_order.calls k gb480 t476 Ao23 co23 t477 t481 true _ ?side1 ?side2 ?side3 A9.out).mono ?_); (case side1 => refine bp ?_; refine blk_put (cs := #[.int .i64 t476, .slice none 0 0]) ?_ 1 _ rfl; refine bp ?_; refine blk_put (cs := #[.int .i64 0, .slice none 0 0]) ?_ 0 _ rfl; exact Kz BK480.out); (case side2 => refine (Kd.S_reads' (e := 24) (base := w.heap.size) (ok := fun k_ => (True ∧ k_ ≠ gb473)) (n := t477.length) (c := co23) ?_).2.2; exact (by (with_reducible repeat (first | apply Kd.S_alloc | apply Kd.S_drewN | apply Kd.S_drew)); exact (Kd.S_mono (Kd.S_far (p := ⟨gb480, 1, none⟩) (Kd.S_far (p := ⟨gb480, 0, none⟩) (Kd.S_types HO479.out BK480.out (by decide)) (fun _ hk => hk.2) (.int .i64 t476)) (fun _ hk => hk.2) (.slice Ao23 t477.length co23)) (fun _ h_ => h_.1)))); (case side3 => exact (Kd.S_reads' HO479.out).2.1); rintro e w24 ⟨v483, rfl, ho0, hb⟩; refine ⟨_, rfl, ?_⟩; have n0_ := am (Kd.S_below (by (with_reducible repeat (first | apply Kd.S_alloc | apply Kd.S_drewN | apply Kd.S_drew)); exact (Kd.S_mono (Kd.S_far (p := ⟨gb480, 1, none⟩) (Kd.S_far (p := ⟨gb480, 0, none⟩) (Kd.S_types HO479.out BK480.out (by decide)) (fun _ hk => hk.2) (.int .i64 t476)) (fun _ hk => hk.2) (.slice Ao23 t477.length co23)) (fun _ h_ => h_.1))) hb); have n1_ := Rm ho0 HB; have n2_ := am (blk_below (g := gb473) (o := .cells #[.slice A2 l2.length c2] 24 (0, 0)) (by refine bp ?_; refine blk_far ?_ NB473_480.out _; refine bp ?_; refine blk_far ?_ NB473_480.out _; exact Kz BK473.out) hb); have n3_ := am (blk_below (g := gb474) (o := .cells #[.int .i64 0, .int .i64 0, .int .i64 0, .slice none 0 0] 71 (0, 0)) (by refine bp ?_; refine blk_far ?_ NB474_480.out _; refine bp ?_; refine blk_far ?_ NB474_480.out _; exact Kz BK474.out) hb); have n4_ := am (blk_below (g := gb480) (o := .cells #[.int .i64 t476, .slice Ao23 t477.length co23] 33 (0, 0)) (by refine bp ?_; refine blk_put (cs := #[.int .i64 t476, .slice none 0 0]) ?_ 1 _ rfl; refine bp ?_; refine blk_put (cs := #[.int .i64 0, .slice none 0 0]) ?_ 0 _ rfl; exact Kz BK480.out) hb); have n5_ := Bc HB hb; clear HO479 BK473 BK474 BK480 HB; revert n0_ n1_ n2_ n3_ n4_ n5_; intro HO479 HO484 BK473 BK474 BK480 HB; (try clear hb); (try clear hb2); (try clear hk); (try clear hi); (try clear ho0); obtain ⟨hcz25_0, hcz25_1, hfz25_0, hfz25_1⟩ := cf2 (w := w24) BK480) | ((with_reducible refine gate_dst (N := 42) rfl ?_); refine Kd.R_make (Kd.int .i64) _ 3 rfl (N := 42) rfl 24 _ _ rfl t476 rfl rfl Try.underlying24 (.int .i64 0) 8 info3 rfl (by decide) (by omega) 0 (ok := fun _ => True) (okp := fun _ => True) rfl (fun _ hk => hk) trivial (dT) (Nat.le_trans (Nat.mul_le_mul_right _ (dT : t476.toNat ≤ 35184372088832)) (by omega)) (Below.refl _ _) (Nat.le_refl _) ?_; intro v486 w26 ho27 hb hg_ hnew_; clear hg_ hnew_; (first | rw [← Ny485.out] at ho27 | (simp only [Int.reduceToNat] at ho27; rw [← Ny485.out] at ho27)); have n0_ := am (Kd.S_elder' (by (with_reducible repeat (first | apply Kd.S_alloc | apply Kd.S_drewN | apply Kd.S_drew)); exact HO479.out) (Kd.R_base ho27) hb); have n1_ := Rb HO484 hb; have n2_ := Rm ho27 HB; have n3_ := Kb BK473 hb; have n4_ := Kb BK474 hb; have n5_ := Kb BK480 hb; have n6_ := Bc HB hb; clear HO479 HO484 BK473 BK474 BK480 HB; revert n0_ n1_ n2_ n3_ n4_ n5_ n6_; intro HO479 HO484 HO487 BK473 BK474 BK480 HB; clear hb ho27; obtain ⟨Ao28, co28, eo28⟩ := Kd.R_slice HO487.out; subst eo28) | ((with_reducible refine gate_dst (N := 15) rfl ?_); refine bE 15 #[.int .i64 0, .int .i64 0, .int .i64 0, .slice none 0 0] 71 ?_; intro gb488 hg w29 hbox hb; have n0_ := am (Kd.S_below (by (with_reducible repeat (first | apply Kd.S_alloc | apply Kd.S_drewN | apply Kd.S_drew)); exact HO479.out) hb); have n1_ := Rb HO484 hb; have n2_ := Rb HO487 hb; have n3_ := Kb BK473 hb; have n4_ := Kb BK474 hb; have n5_ := Kb BK480 hb; have n6_ := Bc HB hb; have n7_ := am (hbox); have n8_ := Gm HB hg; have n9_ := Gm HB hg; have n10_ := Nl BK473 hg; have n11_ := Ng BK473 hg; have n12_ := Nl BK474 hg; have n13_ := Ng BK474 hg; have n14_ := Nl BK480 hg; have n15_ := Ng BK480 hg; clear HO479 HO484 HO487 BK473 BK474 BK480 HB; revert n0_ n1_ n2_ n3_ n4_ n5_ n6_ n7_ n8_ n9_ n10_ n11_ n12_ n13_ n14_ n15_; intro HO479 HO484 HO487 BK473 BK474 BK480 HB BK488 GW488 GE488 NB473_488 NB488_473 NB474_488 NB488_474 NB480_488 NB488_480; clear hb hbox hg; have hnb30 := NB488_473.out; have hnc30 := NB473_488.out; have hnb31 := NB488_474.out; have hnc31 := NB474_488.out; have hnb32 := NB488_480.out; have hnc32 := NB480_488.out; obtain ⟨hcz33_0, hcz33_1, hcz33_2, hcz33_3, hfz33_0, hfz33_1, hfz33_2, hfz33_3⟩ := cf4 (w := w29) BK488; obtain ⟨Ao34, co34, eo34⟩ := Kd.R_slice HO484.out; subst eo34) | ((with_reducible refine gate_callee (f := 77) rfl ?_); refine gL (some 45) Try.func77 #[.slice Ao34 t481.length co34] ?_; (with_reducible refine (Backward.calls Ao34 t481.length co34 _).mono ?_); rintro e wB ⟨gbB, hgB, rfl, hbox, hb⟩; refine ⟨_, rfl, ?_⟩; have n0_ : Aside0 (Kd.R k118 118 wB w.heap.size (fun _ => True) (.slice Ao34 t481.length co34) t481) := Rbl hb ⟨Rz (Kd.R_mono (Kd.R_far (p := ⟨gb488, 3, none⟩) (Kd.R_far (p := ⟨gb488, 2, none⟩) (Kd.R_far (p := ⟨gb488, 1, none⟩) (Kd.R_far (p := ⟨gb488, 0, none⟩) (Kd.R_types HO484.out BK488.out (by decide)) (fun _ hk => hk.2) (.int .i64 a0)) (fun _ hk => hk.2) (.int .i64 a3)) (fun _ hk => hk.2) (.int .i64 a4)) (fun _ hk => hk.2) (.slice Ao28 y485.length co28)) (fun _ hk => trivial))⟩; have n1_ : Aside0 (Kd.S (Kd.slice 3 (Kd.int .i64)) 24 wB w.heap.size (fun k_ => some k_ ≠ ((.slice Ao28 y485.length co28) : Value).ownBlock ∧ k_ ≠ gb473) (.slice Ao23 t477.length co23) t477) := Sbl hb ⟨by (with_reducible repeat (first | apply Kd.S_alloc | apply Kd.S_drewN | apply Kd.S_drew)); exact Kd.S_mono (Kd.S_far (p := ⟨gb488, 3, none⟩) (Kd.S_far (p := ⟨gb488, 2, none⟩) (Kd.S_far (p := ⟨gb488, 1, none⟩) (Kd.S_far (p := ⟨gb488, 0, none⟩) (Kd.S_types HO479.out BK488.out (by decide)) (fun _ hk => hk.2) (.int .i64 a0)) (fun _ hk => hk.2) (.int .i64 a3)) (fun _ hk => hk.2) (.int .i64 a4)) (fun _ hk => hk.2) (.slice Ao28 y485.length co28)) (fun _ hk => ⟨hk.1.2, hk.1.1.2⟩)⟩; have n2_ : Aside0 (Kd.R (Kd.int .i64) 3 wB w.heap.size (fun _ => True) (.slice Ao28 y485.length co28) y485) := Rbl hb ⟨Rz (Kd.R_mono (Kd.R_far (p := ⟨gb488, 3, none⟩) (Kd.R_far (p := ⟨gb488, 2, none⟩) (Kd.R_far (p := ⟨gb488, 1, none⟩) (Kd.R_far (p := ⟨gb488, 0, none⟩) (Kd.R_types HO487.out BK488.out (by decide)) (fun _ hk => hk.2) (.int .i64 a0)) (fun _ hk => hk.2) (.int .i64 a3)) (fun _ hk => hk.2) (.int .i64 a4)) (fun _ hk => hk.2) (.slice Ao28 y485.length co28)) (fun _ hk => trivial))⟩; have n3_ : Aside0 (wB.heap[gb473]? = some (.cells #[(.slice A2 l2.length c2)] 24 (0, 0))) := Kbl hb ⟨by refine bp ?_; refine blk_far ?_ NB473_488.out _; refine bp ?_; refine blk_far ?_ NB473_488.out _; refine bp ?_; refine blk_far ?_ NB473_488.out _; refine bp ?_; refine blk_far ?_ NB473_488.out _; refine bp ?_; exact BK473.out⟩; have n4_ : Aside0 (wB.heap[gb474]? = some (.cells #[.int .i64 0, .int .i64 0, .int .i64 0, (.slice none 0 0)] 71 (0, 0))) := Kbl hb ⟨by refine bp ?_; refine blk_far ?_ NB474_488.out _; refine bp ?_; refine blk_far ?_ NB474_488.out _; refine bp ?_; refine blk_far ?_ NB474_488.out _; refine bp ?_; refine blk_far ?_ NB474_488.out _; refine bp ?_; exact BK474.out⟩; have n5_ : Aside0 (wB.heap[gb480]? = some (.cells #[.int .i64 t476, (.slice Ao23 t477.length co23)] 33 (0, 0))) := Kbl hb ⟨by refine bp ?_; refine blk_far ?_ NB480_488.out _; refine bp ?_; refine blk_far ?_ NB480_488.out _; refine bp ?_; refine blk_far ?_ NB480_488.out _; refine bp ?_; refine blk_far ?_ NB480_488.out _; refine bp ?_; exact BK480.out⟩; have n6_ : Aside0 (wB.heap[gb488]? = some (.cells #[.int .i64 a0, .int .i64 a3, .int .i64 a4, (.slice Ao28 y485.length co28)] 71 (0, 0))) := Kbl hb ⟨by refine bp ?_; refine blk_put (cs := #[.int .i64 a0, .int .i64 a3, .int .i64 a4, .slice none 0 0]) ?_ 3 _ rfl; refine bp ?_; refine blk_put (cs := #[.int .i64 a0, .int .i64 a3, .int .i64 0, .slice none 0 0]) ?_ 2 _ rfl; refine bp ?_; refine blk_put (cs := #[.int .i64 a0, .int .i64 0, .int .i64 0, .slice none 0 0]) ?_ 1 _ rfl; refine bp ?_; refine blk_put (cs := #[.int .i64 0, .int .i64 0, .int .i64 0, .slice none 0 0]) ?_ 0 _ rfl; refine bp ?_; exact BK488.out⟩; have n7_ : Aside0 (Below w.heap.size w wB) := Bbl hb ⟨Bq⟩; have nb_ := am hbox; clear hbox hb hgB; clear HO479 HO484 HO487 BK473 BK474 BK480 HB BK488; revert n0_ n1_ n2_ n3_ n4_ n5_ n6_ n7_ nb_; intro HO_44 HO_481001 HO_489003 BK473 BK474 BK480 BK488 HB BKB))
     (try simp only [aP])
     have hq_ := H'.out; unfold impl_TableByPeeling.l0 at hq_; split at hq_
     case isFalse => cases hq_
     case isTrue hc_ =>
      obtain ⟨hall, hpos, hreach⟩ := hc_; have HE_ := Option.some.inj hq_; simp only [Prod.mk.injEq] at HE_; obtain ⟨er0, er1, er2, er3, er4⟩ := HE_; subst er0; subst er1; subst er2; subst er4; clear hq_
      obtain ⟨go40, co40, eo40, gb40, gl40, cl40, HG40⟩ := Kd.R_form HO_489003.out (by omega); (first | cases eo40 | (injection eo40 with ea_ en_ ec_; (first | subst ea_ | (injection ea_ with ea_; subst ea_)); subst ec_; clear en_))
      have hneB : gbB ≠ go40 := fun e_ => Kd.R_ne HO_489003.out BKB.out (by decide) (by rw [e_]; rfl)
      refine range_back t481 gbB Ao34 co34 go40 co28 w.heap.size y485 rfl (by omega) BKB.out (Kd.R_mono (Kd.R_types HO_44.out HG40 (by decide)) (fun _ hk => hk.2)) gl40 hneB (R_int_ok HO_489003.out) (fun m s => impl_TableByPeeling.step t477 l2 m s) 17 ?assign ?body ?done
      case assign =>
       intro l j s W K hK
       have hQ_ : ¬ LetsOut (Exit.then K (fun _ _ _ => False)) := by rintro ⟨a_, w_, h_⟩; simp [Exit.then] at h_
       refine regionIn (by rfl) hQ_ ?_
       (try simp only [aP])
       go_wp2_with (first | ((with_reducible refine gate_dst (N := 17) rfl ?_); refine bE 17 #[.int .i64 0, .int .i64 0] 118 ?_; intro gb490 hg w_ hbox hb; have BX_ := am hbox; have HG_ := am hg; have HB_ := am hb; clear hbox hg hb; obtain ⟨hc0_, hc1_, hf0_, hf1_⟩ := cf2 (w := w_) BX_))
       obtain ⟨h1_, h2_⟩ := box_two HG_.out HB_.out BX_.out; exact hK gb490 _ HG_.out h1_ h2_
      case body =>
       intro l m j s gb490 W hmem hlen hG hgb hbox hR
       obtain ⟨c1_, c2_, c3_, c4_, c5_, c6_⟩ := impl_TableByPeeling.okE (List.all_eq_true.1 hall s hmem); rw [← hlen] at c2_ c5_
       have hord := impl_TableByPeeling.ord (o0 := a0) (o1 := a3) (o2 := a4) (e := rd_L3 t477 s.f0) (m.set ((s.f1) : Int).toNat 0) (by rw [List.length_set]; exact c5_)
       obtain ⟨y491, hy1_⟩ : ∃ y_ : List Int, y_ = (m.set ((s.f1) : Int).toNat 0) := ⟨_, rfl⟩; rw [← hy1_] at hord; obtain ⟨t494, ht_⟩ : ∃ t_ : Int, t_ = impl_TableByPeeling.sum y491 (rd_L3 t477 s.f0) := ⟨_, rfl⟩; rw [← ht_] at hord; have A44 := am hord; obtain ⟨y495, hy2_⟩ : ∃ y_ : List Int, y_ = (y491.set ((s.f1) : Int).toNat (Go.bits .xor .i64 (rd l2 (s.f0)) t494)) := ⟨_, rfl⟩
       have hst_ : impl_TableByPeeling.step t477 l2 m s = y495 := by rw [hy2_, ht_, hy1_]; rfl
       have hyl_ : y495.length = m.length := by rw [hy2_, hy1_, List.length_set, List.length_set]
       have Ny491 := am hy1_; have Ny495 := am hy2_; clear hy1_ hy2_ ht_ hord
       have c38b0 : decide (0 ≤ (s.f1)) = true := by first | exact decide_eq_true (by omega) | exact beq_eq_false_iff_ne.mpr c6_ | exact bne_iff_ne.mpr c6_ | exact fun h_ => c6_ (by rw [h_]; rfl)
       have c39b0 : decide ((s.f1) < (m.length : Int)) = true := by first | exact decide_eq_true (by omega) | exact beq_eq_false_iff_ne.mpr c6_ | exact bne_iff_ne.mpr c6_ | exact fun h_ => c6_ (by rw [h_]; rfl)
       have c41b0 : decide (0 ≤ (s.f0)) = true := by first | exact decide_eq_true (by omega) | exact beq_eq_false_iff_ne.mpr c6_ | exact bne_iff_ne.mpr c6_ | exact fun h_ => c6_ (by rw [h_]; rfl)
       have c42b0 : decide ((s.f0) < (l2.length : Int)) = true := by first | exact decide_eq_true (by omega) | exact beq_eq_false_iff_ne.mpr c6_ | exact bne_iff_ne.mpr c6_ | exact fun h_ => c6_ (by rw [h_]; rfl)
       have c43b0 : decide ((s.f0) < (t477.length : Int)) = true := by first | exact decide_eq_true (by omega) | exact beq_eq_false_iff_ne.mpr c6_ | exact bne_iff_ne.mpr c6_ | exact fun h_ => c6_ (by rw [h_]; rfl)
       have n0_ := am (Kd.R_grown (Kd.R_mono (Kd.R_bound (Kd.R_types HO_44.out HG40 (by decide))) (fun k_ hk => (⟨by have := hk.2.2.1; omega, hk.1.2⟩ : k_ ≠ gb490 ∧ k_ ≠ go40))) hG (fun k_ hk e_ => hk.2 (Option.some.inj e_)))
       have n1_ : Aside0 (Kd.S (Kd.slice 3 (Kd.int .i64)) 24 W w.heap.size (fun k_ => some k_ ≠ (.slice (some ⟨go40, 0, none⟩) m.length co28 : Value).ownBlock ∧ k_ ≠ gb473) (.slice Ao23 t477.length co23) t477) := ⟨Kd.S_mono (Kd.S_grown HO_481001.out hG (fun k_ hk => by first | exact hk | exact hk.1)) (fun k_ hk => by first | exact hk | exact ⟨hk.1, hk.2⟩)⟩
       have n2_ : Aside0 (Kd.R (Kd.int .i64) 3 W w.heap.size (fun _ => True) (.slice (some ⟨go40, 0, none⟩) m.length co28) m) := ⟨Kd.R_mono hR (fun _ _ => trivial)⟩
       have n3_ : Aside0 (W.heap[gb473]? = some (.cells #[(.slice A2 l2.length c2)] 24 (0, 0))) := ⟨by first | exact blk_grown BK473.out hG (Kd.R_ne HO_489003.out BK473.out (by decide)) | (rw [hlen]; exact blk_grown BK473.out hG (Kd.R_ne HO_489003.out BK473.out (by decide)))⟩
       have n4_ : Aside0 (W.heap[gb474]? = some (.cells #[.int .i64 0, .int .i64 0, .int .i64 0, (.slice none 0 0)] 71 (0, 0))) := ⟨by first | exact blk_grown BK474.out hG (Kd.R_ne HO_489003.out BK474.out (by decide)) | (rw [hlen]; exact blk_grown BK474.out hG (Kd.R_ne HO_489003.out BK474.out (by decide)))⟩
       have n5_ : Aside0 (W.heap[gb480]? = some (.cells #[.int .i64 t476, (.slice Ao23 t477.length co23)] 33 (0, 0))) := ⟨by first | exact blk_grown BK480.out hG (Kd.R_ne HO_489003.out BK480.out (by decide)) | (rw [hlen]; exact blk_grown BK480.out hG (Kd.R_ne HO_489003.out BK480.out (by decide)))⟩
       have n6_ : Aside0 (W.heap[gb488]? = some (.cells #[.int .i64 a0, .int .i64 a3, .int .i64 a4, (.slice (some ⟨go40, 0, none⟩) m.length co28)] 71 (0, 0))) := ⟨by first | exact blk_grown BK488.out hG (Kd.R_ne HO_489003.out BK488.out (by decide)) | (rw [hlen]; exact blk_grown BK488.out hG (Kd.R_ne HO_489003.out BK488.out (by decide)))⟩
       have n7_ : Aside0 (Below w.heap.size w W) := ⟨HB.out.grown hG (below_size (w := w) HB.out) (fun k_ e_ => by cases e_; exact gb40)⟩
       have NB473_490 := am (show gb473 ≠ gb490 by have := blk_lt BK473.out; omega)
       have NB490_473 := am (show gb490 ≠ gb473 by have := blk_lt BK473.out; omega)
       have NB474_490 := am (show gb474 ≠ gb490 by have := blk_lt BK474.out; omega)
       have NB490_474 := am (show gb490 ≠ gb474 by have := blk_lt BK474.out; omega)
       have NB480_490 := am (show gb480 ≠ gb490 by have := blk_lt BK480.out; omega)
       have NB490_480 := am (show gb490 ≠ gb480 by have := blk_lt BK480.out; omega)
       have NB488_490 := am (show gb488 ≠ gb490 by have := blk_lt BK488.out; omega)
       have NB490_488 := am (show gb490 ≠ gb488 by have := blk_lt BK488.out; omega)
       obtain ⟨cl_, HGW_⟩ := Kd.R_typed hR go40 rfl
       have GB40 := am gb40; have GG40 := am HGW_; have nx_ := am hbox; clear hbox HGW_ BKB HO_44 HO_481001 HO_489003 BK473 BK474 BK480 BK488 HB; revert n0_ n1_ n2_ n3_ n4_ n5_ n6_ n7_ nx_; intro HO_44 HO_481001 HO_489003 BK473 BK474 BK480 BK488 HB BK490
       have HLN := am hlen; have HYL := am hyl_; have HST := am hst_; have HALL := am hall; clear hlen hyl_ hst_ hall hG hR c5_
       (try simp only [aP, List.setIfInBounds_toArray, List.set_cons_zero, List.set_cons_succ])
       refine wpIn_block ?_; refine wpIn_seq ?_; refine regionIn (by rfl) (by rintro ⟨a_, w_, h_⟩; simp [Exit.then, Exit.inBlock] at h_) ?_
       have hnb53 := NB488_473.out
       have hnc53 := NB473_488.out
       have hnb54 := NB488_474.out
       have hnc54 := NB474_488.out
       have hnb55 := NB488_480.out
       have hnc55 := NB480_488.out
       obtain ⟨hcz56_0, hcz56_1, hcz56_2, hcz56_3, hfz56_0, hfz56_1, hfz56_2, hfz56_3⟩ := cf4 (w := W) BK488
       obtain ⟨hcz57_0, hcz57_1, hfz57_0, hfz57_1⟩ := cf2 (w := W) BK490
       have p40 : 0 ≤ ((s.f1) : Int) := dT
       have q40 : ((s.f1) : Int) < ((m.length : Int) : Int) := dT
       obtain ⟨hx40_0, hf40_0⟩ := Kd.R_celln 0 HO_489003.out ((s.f1) : Int) p40 q40
       replace p40 := eq_true p40
       replace q40 := eq_true q40
       obtain ⟨hy58_, hz58_⟩ := Kd.R_celln 0 HO_489003.out ((s.f1) : Int) (dT) (dT)
       have HP58 := Kd.R_putg HO_489003.out ((s.f1) : Int) 0
       go_wp2_with (first | ((with_reducible refine gate_store (t := 3) (p := 52) rfl ?_); refine store_event (t := 3) (p := 52) (v := ?vo_w59) (w1 := (W.setCell ⟨go40, ((s.f1) : Int).toNat, none⟩ (.int .i64 0))) ?hg ?ho ?hn ?hr ?_; (case ho => rfl); (case hg => rfl); (case hn => rfl); (case hr => first | (go_simp; done) | (go_simp; rfl)); intro w59 hw; have hg : W.grownBy w59 (some go40) := (by rw [hw]; exact HP58.2); have hp_ : Kd.R (Kd.int .i64) 3 w59 w.heap.size (fun _ => True) (.slice (some ⟨go40, 0, none⟩) m.length co28) y491 := (by rw [hw, Ny491.out]; exact HP58.1); clear HP58; have n0_ := am (Kd.R_over' (v := (.slice (some ⟨go40, 0, none⟩) m.length co28)) (Rz HO_44.out) (Kd.R_typed HO_489003.out) (by decide) hg); have n1_ := am (Kd.S_after (v := (.slice (some ⟨go40, 0, none⟩) m.length co28)) (v1 := (.slice (some ⟨go40, 0, none⟩) m.length co28)) (ok := (fun k_ => k_ ≠ gb473)) (by (with_reducible repeat (first | apply Kd.S_alloc | apply Kd.S_drewN | apply Kd.S_drew)); exact Kd.S_mono HO_481001.out (fun _ hk => ⟨hk.2, hk.1⟩)) hg (.inl rfl)); have n2_ := am (hp_); have n3_ := am (blk_grown (g := gb473) (o := .cells #[.slice A2 l2.length c2] 24 (0, 0)) (Kz BK473.out) hg (Kd.R_ne HO_489003.out BK473.out (by decide))); have n4_ := am (blk_grown (g := gb474) (o := .cells #[.int .i64 0, .int .i64 0, .int .i64 0, .slice none 0 0] 71 (0, 0)) (Kz BK474.out) hg (Kd.R_ne HO_489003.out BK474.out (by decide))); have n5_ := am (blk_grown (g := gb480) (o := .cells #[.int .i64 t476, .slice Ao23 t477.length co23] 33 (0, 0)) (Kz BK480.out) hg (Kd.R_ne HO_489003.out BK480.out (by decide))); have n6_ := am (blk_grown (g := gb488) (o := .cells #[.int .i64 a0, .int .i64 a3, .int .i64 a4, .slice (some ⟨go40, 0, none⟩) m.length co28] 71 (0, 0)) (Kz BK488.out) hg (Kd.R_ne HO_489003.out BK488.out (by decide))); have n7_ := am (blk_grown (g := gb490) (o := .cells #[.int .i64 (s.f0), .int .i64 (s.f1)] 118 (0, 0)) (Kz BK490.out) hg (Kd.R_ne HO_489003.out BK490.out (by decide))); have n8_ := am ((by rw [hw]; exact below_set (HB.out) GB40.out : Below w.heap.size w w59)); clear HO_44 HO_481001 HO_489003 BK473 BK474 BK480 BK488 BK490 HB; revert n0_ n1_ n2_ n3_ n4_ n5_ n6_ n7_ n8_; intro HO_44 HO_481001 HO_489003 BK473 BK474 BK480 BK488 BK490 HB; have HGW := am hg; clear hg hw hp_))
       have n0_ := am (Kd.R_drew HO_44.out); have n1_ := am (Kd.S_drew HO_481001.out); have n2_ := am (Kd.R_drew HO_489003.out); have n3_ := am (blk_drew BK473.out); have n4_ := am (blk_drew BK474.out); have n5_ := am (blk_drew BK480.out); have n6_ := am (blk_drew BK488.out); have n7_ := am (blk_drew BK490.out); have n8_ := am (below_drew1 HB.out); clear HO_44 HO_481001 HO_489003 BK473 BK474 BK480 BK488 BK490 HB; revert n0_ n1_ n2_ n3_ n4_ n5_ n6_ n7_ n8_; intro HO_44 HO_481001 HO_489003 BK473 BK474 BK480 BK488 BK490 HB; have p492 : 0 ≤ ((s.f0) : Int) := dT; have q492 : (s.f0) < (l2.length : Int) := dT; obtain ⟨ad492, e492, hx492_0⟩ := Kd.at_int HR2.out (s.f0) p492 q492; have hw492_0 := hx492_0; cases e492; replace hx492_0 := (HB.out.cell (World.block_lt_of_cell? w _ hx492_0)).trans hx492_0; replace p492 := eq_true p492; replace q492 := eq_true q492; have p493 : 0 ≤ ((s.f0) : Int) := dT; have q493 : (s.f0) < (t477.length : Int) := dT; obtain ⟨ad493, A493_0, c493_0, e493, hx493_0, hl493_0, hi493_0⟩ := at_L3 (Kd.S_reads' HO_481001.out).2.2 (s.f0) p493 q493; cases e493; obtain ⟨ce493, hce493, hMe493, hcc493⟩ := Kd.S_get HO_481001.out [] (s.f0) p493 (by first | exact q493 | exact dT | (have e_ := (Kd.S_reads' HO_481001.out).1; omega)); obtain ⟨ve493_0, rfl, ge493_0⟩ := hMe493; have hv493_0 := hcc493 0 _ rfl; rw [Nat.add_zero, show ((Kd.slice 3 (Kd.int .i64))).sz = 1 from rfl, Nat.mul_one] at hv493_0; replace hv493_0 := Option.some.inj (hv493_0.symm.trans hx493_0); rw [hv493_0] at ge493_0; have HL493_0 := am (show Kd.R (Kd.int .i64) 3 _ _ _ _ (rd_L3 t477 (s.f0)) from ge493_0); clear hv493_0 ge493_0; clear hcc493 hce493; have HR493_0 := am hi493_0; have HC493_0 := am hl493_0; clear hi493_0 hl493_0; replace p493 := eq_true p493; replace q493 := eq_true q493; replace HGW := am (grown_drew HGW.out); refine startIn (m := 19) (S := fun w' => w'.cell? ⟨gb488, 0, none⟩ = some (.int .i64 a0) ∧ w'.cell? ⟨gb488, 1, none⟩ = some (.int .i64 a3) ∧ w'.cell? ⟨gb488, 2, none⟩ = some (.int .i64 a4) ∧ w'.cell? ⟨gb488, 3, none⟩ = some (.slice (some ⟨go40, 0, none⟩) m.length co28) ∧ w'.cell? ⟨gb490, 0, none⟩ = some (.int .i64 (s.f0)) ∧ w'.cell? ⟨gb490, 1, none⟩ = some (.int .i64 (s.f1)) ∧ w'.cell? ⟨gb473, 0, none⟩ = some (.slice (some ad492) l2.length c2) ∧ w'.cell? ⟨gb480, 0, none⟩ = some (.int .i64 t476) ∧ w'.cell? ⟨gb480, 1, none⟩ = some (.slice (some ad493) t477.length co23) ∧ w'.cell? (ad492.add ((s.f0)).toNat) = some (.int .i64 (rd l2 (s.f0))) ∧ w'.cell? (ad493.add ((s.f0)).toNat) = some (.slice A493_0 (rd_L3 t477 (s.f0)).length c493_0)) (ds := [18]) (bA 19 0) (by kernel_rfl) rfl rfl ⟨cz BK488 0, cz BK488 1, cz BK488 2, cz BK488 3, cz BK490 0, cz BK490 1, cz BK473 0, cz BK480 0, cz BK480 1, ((HB.out.cell (World.block_lt_of_cell? w _ hw492_0)).trans hw492_0), hx493_0⟩ (by rfl) (by rintro ⟨a_, w_, h_⟩; simp [Exit.then, Exit.inBlock] at h_) (fun hHeld => ?_); refine with_tabW impl_TableByPeeling.tab11 impl_TableByPeeling.bits11 (fun HT_ HW_ => ?_)
       generalize w59.drew = w60 at HGW HO_44 HO_481001 HO_489003 BK473 BK474 BK480 BK488 BK490 HB HL493_0 HR493_0 hx492_0 hx493_0 hHeld ⊢; refine pZ 0 (some 53) (bA 19 1) HT_.out ?_; refine pZ 2 (some 55) (bA 19 5) HT_.out ?_; refine pZ 5 (some 58) (bA 19 37) HT_.out ?_; refine pZ 9 (some 62) (bA 19 549) HT_.out ?_; refine pZ 11 (some 64) (bA 19 2597) HT_.out ?_; refine take_ (i := 1) (N := some 54) (v := ?_) (a' := ?_) (bA 19 2599) rfl rfl (take_ofW HT_.out HW_.out (by kernel_rfl)) (fun _ _ _ h => h) (Or.inl ⟨by rfl, ?_⟩) hHeld ?_ ?_
       rotate_left
       ·rintro w' ⟨s0, s1, s2, s3, s4, s5, s6, s7, s8, s9, s10⟩
        go_simp
        with_reducible rfl
       rotate_left
       ·simp only [aP, i64_w, i32_w]
        rfl
       refine take_ (i := 3) (N := some 56) (v := ?_) (a' := ?_) (bA 19 2607) rfl rfl (take_ofW HT_.out HW_.out (by kernel_rfl)) (fun _ _ _ h => h) (Or.inl ⟨by rfl, ?_⟩) hHeld ?_ ?_
       rotate_left
       ·rintro w' ⟨s0, s1, s2, s3, s4, s5, s6, s7, s8, s9, s10⟩
        go_simp
        with_reducible rfl
       rotate_left
       ·simp only [aP, i64_w, i32_w]
        rfl
       refine take_ (i := 4) (N := some 57) (v := ?_) (a' := ?_) (bA 19 2623) rfl rfl (take_ofW HT_.out HW_.out (by kernel_rfl)) (fun _ _ _ h => h) (Or.inl ⟨by rfl, ?_⟩) hHeld ?_ ?_
       rotate_left
       ·rintro w' ⟨s0, s1, s2, s3, s4, s5, s6, s7, s8, s9, s10⟩
        go_simp
        with_reducible rfl
       rotate_left
       ·simp only [aP, i64_w, i32_w]
        rfl
       refine take_ (i := 6) (N := some 59) (v := ?_) (a' := ?_) (bA 19 2687) rfl rfl (take_ofW HT_.out HW_.out (by kernel_rfl)) (fun _ _ _ h => h) (Or.inl ⟨by rfl, ?_⟩) hHeld ?_ ?_
       rotate_left
       ·rintro w' ⟨s0, s1, s2, s3, s4, s5, s6, s7, s8, s9, s10⟩
        go_simp
        with_reducible rfl
       rotate_left
       ·simp only [aP, i64_w, i32_w]
        rfl
       refine pZ 7 (some 60) (bA 19 2815) HT_.out ?_; refine take_ (i := 8) (N := some 61) (v := ?_) (a' := ?_) (bA 19 3071) rfl rfl (take_ofW HT_.out HW_.out (by kernel_rfl)) (fun _ _ _ h => h) (Or.inl ⟨by rfl, ?_⟩) hHeld ?_ ?_
       rotate_left
       ·rintro w' ⟨s0, s1, s2, s3, s4, s5, s6, s7, s8, s9, s10⟩
        go_simp
        with_reducible rfl
       rotate_left
       ·simp only [aP, i64_w, i32_w]
        rfl
       refine take_ (i := 10) (N := some 63) (v := ?_) (a' := ?_) (bA 19 4095) rfl rfl (take_ofW HT_.out HW_.out (by kernel_rfl)) (fun _ _ _ h => h) (Or.inl ⟨by rfl, ?_⟩) hHeld ?_ ?_
       rotate_left
       ·rintro w' ⟨s0, s1, s2, s3, s4, s5, s6, s7, s8, s9, s10⟩
        go_simp
        with_reducible rfl
       rotate_left
       ·simp only [aP, i64_w, i32_w]
        rfl
       refine take_ (i := 12) (N := some 65) (v := ?_) (a' := ?_) (bA 19 8191) rfl rfl (take_ofW HT_.out HW_.out (by kernel_rfl)) (fun _ _ _ h => h) (Or.inl ⟨by rfl, ?_⟩) hHeld ?_ ?_
       rotate_left
       ·rintro w' ⟨s0, s1, s2, s3, s4, s5, s6, s7, s8, s9, s10⟩
        go_simp
        with_reducible rfl
       rotate_left
       ·simp only [aP, i64_w, i32_w]
        rfl
       refine pZ 13 (some 66) (bA 19 16383) HT_.out ?_; refine take_ (i := 14) (N := some 67) (v := ?_) (a' := ?_) (bA 19 32767) rfl rfl (take_ofW HT_.out HW_.out (by kernel_rfl)) (fun _ _ _ h => h) (Or.inl ⟨by rfl, ?_⟩) hHeld ?_ ?_
       rotate_left
       ·rintro w' ⟨s0, s1, s2, s3, s4, s5, s6, s7, s8, s9, s10⟩
        go_simp
        with_reducible rfl
       rotate_left
       ·simp only [aP, i64_w, i32_w]
        rfl
       refine oZ 15 (some 68) (bA 19 65535) HT_.out (fun K hK => ?_); refine goes_ Try.func167 (by kernel_rfl) rfl #[.pointer (some ⟨gb488, 0, none⟩), .slice A493_0 (rd_L3 t477 (s.f0)).length c493_0] (by rfl) rfl rfl (by (try simp only [List.map_toArray, List.map_cons, List.map_nil]); first | done | (rw [show y491.length = m.length from (Kd.R_reads' HO_489003.out).1.symm] <;> rfl) | rfl | (simp only [List.length_drop, List.length_take]; rfl)) ?_
       with_reducible refine (impl_Table_value.calls gb488 a0 a3 a4 (some ⟨go40, 0, none⟩) co28 y491 _ _ (rd_L3 t477 (s.f0)) t494 _ ?side1 ?side2 ?side3 ?side4 ?side5 A44.out).mono ?_
       (case side1 => rw [show y491.length = m.length from (Kd.R_reads' HO_489003.out).1.symm]; exact Kz BK488.out)
       (case side2 => exact Cz ((Kd.R_reads' HO_489003.out).2.2))
       (case side3 => rw [show y491.length = m.length from (Kd.R_reads' HO_489003.out).1.symm]; exact (Kd.R_reads' HO_489003.out).2.1)
       (case side4 => repeat (first | exact (by repeat (first | (with_reducible exact HR493_0.out) | (with_reducible refine Kd.C_alloc ?_ _) | (with_reducible refine Kd.C_drewN ?_ _) | (with_reducible refine Kd.C_drew ?_) | exact HR493_0.out)) | (with_reducible refine Kd.C_alloc ?_ _) | (with_reducible refine Kd.C_drewN ?_ _) | (with_reducible refine Kd.C_drew ?_)))
       (case side5 => exact HC493_0.out)
       rintro e w' ⟨rfl, ⟨nd, rfl⟩⟩; refine ⟨_, rfl, ?_⟩; have p45 : 0 ≤ ((s.f1) : Int) := dT; have q45 : ((s.f1) : Int) < ((m.length : Int) : Int) := dT; obtain ⟨hx45_0, hf45_0⟩ := Kd.R_celln 0 HO_489003.out ((s.f1) : Int) p45 q45; replace p45 := eq_true p45; replace q45 := eq_true q45; have HP61 := Kd.R_putn HO_489003.out ((s.f1) : Int) (Go.bits .xor .i64 (rd l2 (s.f0)) t494); rw [← Ny495.out] at HP61; have HQ61 := am HP61; clear HP61; refine hK.out _ _ ⟨cz BK488 0, cz BK488 1, cz BK488 2, cz BK488 3, cz BK490 0, cz BK490 1, cz BK473 0, cz BK480 0, cz BK480 1, ((HB.out.cell (World.block_lt_of_cell? w _ hw492_0)).trans hw492_0), hHeld.2.2.2.2.2.2.2.2.2.2⟩ (fun hHeld => ?_); clear hK K; refine norm_ (a' := ?_) ?_ ?_; rotate_left; show Act.put _ (some 68) _ = _; simp only [aP, i64_w, i32_w]; rfl; refine pZ 16 (some 69) (bA 19 131071) HT_.out ?_; refine pZ 17 (some 70) (bA 19 262143) HT_.out ?_; refine lZ 18 none (bA 19 524287) HT_.out (fun K hK => ?_); refine skip_ (w1 := ?_) (by rfl) rfl ?_ ?_
       rotate_left
       ·go_simp
        rfl
       refine hK.out _ _ ?_; clear hK K; refine done_ (done_of HT_.out (by kernel_rfl)) ?_
       simp only [Exit.inBlock, Exit.then]
       rw [HST.out]
       refine ⟨by trivial, by repeat (first | exact HGW.out | apply grown_set | apply grown_drewN | apply grown_drew), HYL.out.trans HLN.out, ?_⟩
       refine R_int_ok (ok := fun _ => True) ?_
       first | exact HQ61.out | exact Rz HQ61.out
      case done =>
       intro D m W hD hm hlen hG hR hK
       obtain rfl : r4 = m := (hm.trans er3).symm
       have n2_ : Aside0 (Kd.R (Kd.int .i64) 3 W w.heap.size (fun _ => True) (.slice (some ⟨go40, 0, none⟩) r4.length co28) r4) := ⟨Kd.R_mono hR (fun _ _ => trivial)⟩
       have n3_ : Aside0 (W.heap[gb473]? = some (.cells #[(.slice A2 l2.length c2)] 24 (0, 0))) := ⟨by first | exact blk_grown BK473.out hG (Kd.R_ne HO_489003.out BK473.out (by decide)) | (rw [hlen]; exact blk_grown BK473.out hG (Kd.R_ne HO_489003.out BK473.out (by decide)))⟩
       have n4_ : Aside0 (W.heap[gb474]? = some (.cells #[.int .i64 0, .int .i64 0, .int .i64 0, (.slice none 0 0)] 71 (0, 0))) := ⟨by first | exact blk_grown BK474.out hG (Kd.R_ne HO_489003.out BK474.out (by decide)) | (rw [hlen]; exact blk_grown BK474.out hG (Kd.R_ne HO_489003.out BK474.out (by decide)))⟩
       have n5_ : Aside0 (W.heap[gb480]? = some (.cells #[.int .i64 t476, (.slice Ao23 t477.length co23)] 33 (0, 0))) := ⟨by first | exact blk_grown BK480.out hG (Kd.R_ne HO_489003.out BK480.out (by decide)) | (rw [hlen]; exact blk_grown BK480.out hG (Kd.R_ne HO_489003.out BK480.out (by decide)))⟩
       have n6_ : Aside0 (W.heap[gb488]? = some (.cells #[.int .i64 a0, .int .i64 a3, .int .i64 a4, (.slice (some ⟨go40, 0, none⟩) r4.length co28)] 71 (0, 0))) := ⟨by first | exact blk_grown BK488.out hG (Kd.R_ne HO_489003.out BK488.out (by decide)) | (rw [hlen]; exact blk_grown BK488.out hG (Kd.R_ne HO_489003.out BK488.out (by decide)))⟩
       have n7_ : Aside0 (Below w.heap.size w W) := ⟨HB.out.grown hG (below_size (w := w) HB.out) (fun k_ e_ => by cases e_; exact gb40)⟩
       have hneD : D ≠ gb474 := by have := blk_lt BK474.out; omega
       have hneG : D ≠ go40 := by omega
       have hDb : w.heap.size ≤ D := Nat.le_trans (below_size (w := w) HB.out) hD
       have HLN := am hlen; have HD_ := am hD; have HK_ := am hK; clear hlen hD hK hm hall hG hR BKB HO_44 HO_481001 HO_489003 BK473 BK474 BK480 BK488 HB; revert n2_ n3_ n4_ n5_ n6_ n7_; intro HO_489003 BK473 BK474 BK480 BK488 HB
       have hnb62 := NB488_473.out
       have hnc62 := NB473_488.out
       have hnb63 := NB488_474.out
       have hnc63 := NB474_488.out
       have hnb64 := NB488_480.out
       have hnc64 := NB480_488.out
       obtain ⟨hcz65_0, hcz65_1, hcz65_2, hcz65_3, hfz65_0, hfz65_1, hfz65_2, hfz65_3⟩ := cf4 (w := W) BK488
       have hnb66 := NB474_473.out
       have hnc66 := NB473_474.out
       have hnb67 := NB474_480.out
       have hnc67 := NB480_474.out
       obtain ⟨hcz68_0, hcz68_1, hcz68_2, hcz68_3, hfz68_0, hfz68_1, hfz68_2, hfz68_3⟩ := cf4 (w := W) BK474
       go_wp2
       refine bodyPostM_mark (D := D) rfl (by repeat (first | exact HK_.out | refine (Below.heap_setCell _ _ _ D hneD).trans ?_)) (results_ct rfl _ _ gb474 71 #[.int .i64 a0, .int .i64 a3, .int .i64 a4, .slice (some ⟨go40, 0, none⟩) r4.length co28] (0, 0) _ rfl ((World.putObj_heap_other hneD.symm).trans (by refine bp ?_; refine blk_put (cs := #[.int .i64 a0, .int .i64 a3, .int .i64 a4, .slice none 0 0]) ?_ 3 _ rfl; refine bp ?_; refine blk_put (cs := #[.int .i64 a0, .int .i64 a3, .int .i64 0, .slice none 0 0]) ?_ 2 _ rfl; refine bp ?_; refine blk_put (cs := #[.int .i64 a0, .int .i64 0, .int .i64 0, .slice none 0 0]) ?_ 1 _ rfl; refine bp ?_; refine blk_put (cs := #[.int .i64 0, .int .i64 0, .int .i64 0, .slice none 0 0]) ?_ 0 _ rfl; exact Kz BK474.out)) Try.underlying71 rfl (by kernel_rfl)) ?_; refine ⟨_, eZ, ?_, ?_⟩
       ·refine Kd.R_mono (R_only (w := _) (R_int_ok (ok := fun _ => True) ?_) (grownBy_putObj' _ D _) (fun r_ e_ => by cases e_; exact hneG)) (fun _ _ => trivial)
        exact Rz (Kd.R_mono (Kd.R_far (p := ⟨gb474, 3, none⟩) (Kd.R_far (p := ⟨gb474, 2, none⟩) (Kd.R_far (p := ⟨gb474, 1, none⟩) (Kd.R_far (p := ⟨gb474, 0, none⟩) (Kd.R_types HO_489003.out BK474.out (by decide)) (fun _ hk => hk.2) (.int .i64 a0)) (fun _ hk => hk.2) (.int .i64 a3)) (fun _ hk => hk.2) (.int .i64 a4)) (fun _ hk => hk.2) (.slice (some ⟨go40, 0, none⟩) r4.length co28)) (fun _ hk => trivial))
       ·refine Below.grown (w := _) (?_ : Below w.heap.size w _) (grownBy_putObj' _ D _) ?_ (fun k_ e_ => by cases e_; exact hDb)
        ·exact Bq
        ·exact below_size (w := w) Bq
    ·rw [if_neg c12] at H
     exact absurd H (by simp)
   ·rw [if_neg c11] at H
    exact absurd H (by simp)
  ·replace c10 := Bool.eq_false_iff.mpr c10
   subst c10
   rw [if_neg Bool.false_ne_true] at H
   simp only [Option.some.injEq, Prod.mk.injEq] at H
   obtain ⟨rfl, rfl, rfl, rfl, rfl⟩ := H
   let bp_ : Exit → Act → World → Prop := bodyPost Try.prog Try.f117 (fun _ _ => True); refine calls_marks Try.func117 rfl ?_; simp only [Try.ntmps117, List.size_toArray, List.length_cons, List.length_nil, Nat.reduceAdd, Nat.reduceSub, Array.replicate_succ, Array.replicate_zero, List.push_toArray, List.append_toArray, List.nil_append, List.cons_append]
   go_wp2_with (first | ((with_reducible refine gate_dst (N := 7) rfl ?_); refine bE 7 #[.slice A2 l2.length c2] 24 ?_; intro gb473 hg w70 hbox hb; have n0_ := Bb HB hb; have n1_ := am (hbox); have n2_ := Gl HB hg; have n3_ := Gl HB hg; clear HB; revert n0_ n1_ n2_ n3_; intro HB BK473 GW473 GE473; clear hb hbox hg) | ((with_reducible refine gate_dst (N := 10) rfl ?_); refine bE 10 #[.int .i64 0, .int .i64 0, .int .i64 0, .slice none 0 0] 71 ?_; intro gb474 hg w71 hbox hb; have n0_ := Kb BK473 hb; have n1_ := Bc HB hb; have n2_ := am (hbox); have n3_ := Gm HB hg; have n4_ := Gm HB hg; have n5_ := Nl BK473 hg; have n6_ := Ng BK473 hg; clear BK473 HB; revert n0_ n1_ n2_ n3_ n4_ n5_ n6_; intro BK473 HB BK474 GW474 GE474 NB473_474 NB474_473; clear hb hbox hg; have hnb72 := NB473_474.out; have hnc72 := NB474_473.out; obtain ⟨hcz73_0, hfz73_0⟩ := cf1 (w := w71) BK473) | ((with_reducible refine gate_callee (f := 170) rfl ?_); refine gL (some 23) Try.func170 #[.int .i64 a0, .slice A1 l1.length c1, .slice A2 l2.length c2, .int .i64 a3, .int .i64 a4] ?_; (with_reducible refine (impl_valuesOk.calls k a0 _ _ l1 _ _ l2 a3 a4 true _ ?side1 ?side2 ?side3 ?side4 A6.out).mono ?_); (case side1 => exact Cz (Kd.C_below HR1.out HB.out)); (case side2 => exact HC1.out); (case side3 => exact Cz (Kd.C_below HR2.out HB.out)); (case side4 => exact HC2.out); rintro e w74 ⟨rfl, hb⟩; refine ⟨_, rfl, ?_⟩; have n0_ := Kb BK473 hb; have n1_ := Kb BK474 hb; have n2_ := Bc HB hb; clear BK473 BK474 HB; revert n0_ n1_ n2_; intro BK473 BK474 HB; (try clear hb); (try clear hb2); (try clear hk); (try clear hi)) | ((with_reducible refine gate_callee (f := 61) rfl ?_); refine gL (some 29) Try.func61 #[.int .i64 a0, .slice A1 l1.length c1, .int .i64 a3] ?_; (with_reducible refine (impl_hyper.calls k a0 _ _ l1 a3 t476 t477 _ ?side1 ?side2 A8.out).mono ?_); (case side1 => exact Cz (Kd.C_below HR1.out HB.out)); (case side2 => exact HC1.out); rintro e w75 ⟨v478, rfl, ho0, hb⟩; refine ⟨_, rfl, ?_⟩; have n0_ := am (Kd.S_lower (Kd.S_newB ho0 (g := gb473) (o := .cells #[.slice A2 l2.length c2] 24 (0, 0)) (Kz BK473.out)) (below_size (w := w) (Bq))); have n1_ := Kb BK473 hb; have n2_ := Kb BK474 hb; have n3_ := Bc HB hb; clear BK473 BK474 HB; revert n0_ n1_ n2_ n3_; intro HO479 BK473 BK474 HB; (try clear hb); (try clear hb2); (try clear hk); (try clear hi); (try clear ho0)) | ((with_reducible refine gate_dst (N := 12) rfl ?_); refine bE 12 #[.int .i64 0, .slice none 0 0] 33 ?_; intro gb480 hg w76 hbox hb; have n0_ := am (Kd.S_below (by (with_reducible repeat (first | apply Kd.S_alloc | apply Kd.S_drewN | apply Kd.S_drew)); exact HO479.out) hb); have n1_ := Kb BK473 hb; have n2_ := Kb BK474 hb; have n3_ := Bc HB hb; have n4_ := am (hbox); have n5_ := Gm HB hg; have n6_ := Gm HB hg; have n7_ := Nl BK473 hg; have n8_ := Ng BK473 hg; have n9_ := Nl BK474 hg; have n10_ := Ng BK474 hg; clear HO479 BK473 BK474 HB; revert n0_ n1_ n2_ n3_ n4_ n5_ n6_ n7_ n8_ n9_ n10_; intro HO479 BK473 BK474 HB BK480 GW480 GE480 NB473_480 NB480_473 NB474_480 NB480_474; clear hb hbox hg; have hnb77 := NB480_473.out; have hnc77 := NB473_480.out; have hnb78 := NB480_474.out; have hnc78 := NB474_480.out; obtain ⟨hcz79_0, hcz79_1, hfz79_0, hfz79_1⟩ := cf2 (w := w76) BK480; obtain ⟨Ao80, co80, eo80⟩ := Kd.S_slice HO479.out; subst eo80) | ((with_reducible refine gate_callee (f := 76) rfl ?_); refine gL (some 31) Try.func76 #[.pointer (some ⟨gb480, 0, none⟩)] ?_; (with_reducible refine (impl_Hyper_order.calls k gb480 t476 Ao80 co80 t477 t481 false _ ?side1 ?side2 ?side3 A9.out).mono ?_); (case side1 => refine bp ?_; refine blk_put (cs := #[.int .i64 t476, .slice none 0 0]) ?_ 1 _ rfl; refine bp ?_; refine blk_put (cs := #[.int .i64 0, .slice none 0 0]) ?_ 0 _ rfl; exact Kz BK480.out); (case side2 => refine (Kd.S_reads' (e := 24) (base := w.heap.size) (ok := fun k_ => (True ∧ k_ ≠ gb473)) (n := t477.length) (c := co80) ?_).2.2; exact (by (with_reducible repeat (first | apply Kd.S_alloc | apply Kd.S_drewN | apply Kd.S_drew)); exact (Kd.S_mono (Kd.S_far (p := ⟨gb480, 1, none⟩) (Kd.S_far (p := ⟨gb480, 0, none⟩) (Kd.S_types HO479.out BK480.out (by decide)) (fun _ hk => hk.2) (.int .i64 t476)) (fun _ hk => hk.2) (.slice Ao80 t477.length co80)) (fun _ h_ => h_.1)))); (case side3 => exact (Kd.S_reads' HO479.out).2.1); rintro e w81 ⟨v483, rfl, ho0, hb⟩; refine ⟨_, rfl, ?_⟩; have n0_ := am (Kd.S_below (by (with_reducible repeat (first | apply Kd.S_alloc | apply Kd.S_drewN | apply Kd.S_drew)); exact (Kd.S_mono (Kd.S_far (p := ⟨gb480, 1, none⟩) (Kd.S_far (p := ⟨gb480, 0, none⟩) (Kd.S_types HO479.out BK480.out (by decide)) (fun _ hk => hk.2) (.int .i64 t476)) (fun _ hk => hk.2) (.slice Ao80 t477.length co80)) (fun _ h_ => h_.1))) hb); have n1_ := Rm ho0 HB; have n2_ := am (blk_below (g := gb473) (o := .cells #[.slice A2 l2.length c2] 24 (0, 0)) (by refine bp ?_; refine blk_far ?_ NB473_480.out _; refine bp ?_; refine blk_far ?_ NB473_480.out _; exact Kz BK473.out) hb); have n3_ := am (blk_below (g := gb474) (o := .cells #[.int .i64 0, .int .i64 0, .int .i64 0, .slice none 0 0] 71 (0, 0)) (by refine bp ?_; refine blk_far ?_ NB474_480.out _; refine bp ?_; refine blk_far ?_ NB474_480.out _; exact Kz BK474.out) hb); have n4_ := am (blk_below (g := gb480) (o := .cells #[.int .i64 t476, .slice Ao80 t477.length co80] 33 (0, 0)) (by refine bp ?_; refine blk_put (cs := #[.int .i64 t476, .slice none 0 0]) ?_ 1 _ rfl; refine bp ?_; refine blk_put (cs := #[.int .i64 0, .slice none 0 0]) ?_ 0 _ rfl; exact Kz BK480.out) hb); have n5_ := Bc HB hb; clear HO479 BK473 BK474 BK480 HB; revert n0_ n1_ n2_ n3_ n4_ n5_; intro HO479 HO484 BK473 BK474 BK480 HB; (try clear hb); (try clear hb2); (try clear hk); (try clear hi); (try clear ho0); obtain ⟨hcz82_0, hcz82_1, hcz82_2, hcz82_3, hfz82_0, hfz82_1, hfz82_2, hfz82_3⟩ := cf4 (w := w81) BK474))
   refine bodyPostM_ret (results_ct rfl _ _ gb474 71 #[.int .i64 0, .int .i64 0, .int .i64 0, .slice none 0 0] (0, 0) _ rfl (by refine bp ?_; refine blk_put (cs := #[.int .i64 0, .int .i64 0, .int .i64 0, .slice none 0 0]) ?_ 3 _ rfl; refine bp ?_; refine blk_put (cs := #[.int .i64 0, .int .i64 0, .int .i64 0, .slice none 0 0]) ?_ 2 _ rfl; refine bp ?_; refine blk_put (cs := #[.int .i64 0, .int .i64 0, .int .i64 0, .slice none 0 0]) ?_ 1 _ rfl; refine bp ?_; refine blk_put (cs := #[.int .i64 0, .int .i64 0, .int .i64 0, .slice none 0 0]) ?_ 0 _ rfl; exact Kz BK474.out) Try.underlying71 rfl (by kernel_rfl)) rfl ?_; exact ⟨_, eZ, nZ, Bq⟩
 ·replace c7 := Bool.eq_false_iff.mpr c7
  subst c7
  rw [if_neg Bool.false_ne_true] at H
  simp only [Option.some.injEq, Prod.mk.injEq] at H
  obtain ⟨rfl, rfl, rfl, rfl, rfl⟩ := H
  let bp_ : Exit → Act → World → Prop := bodyPost Try.prog Try.f117 (fun _ _ => True); refine calls_marks Try.func117 rfl ?_; simp only [Try.ntmps117, List.size_toArray, List.length_cons, List.length_nil, Nat.reduceAdd, Nat.reduceSub, Array.replicate_succ, Array.replicate_zero, List.push_toArray, List.append_toArray, List.nil_append, List.cons_append]
  go_wp2_with (first | ((with_reducible refine gate_dst (N := 7) rfl ?_); refine bE 7 #[.slice A2 l2.length c2] 24 ?_; intro gb473 hg w83 hbox hb; have n0_ := Bb HB hb; have n1_ := am (hbox); have n2_ := Gl HB hg; have n3_ := Gl HB hg; clear HB; revert n0_ n1_ n2_ n3_; intro HB BK473 GW473 GE473; clear hb hbox hg) | ((with_reducible refine gate_dst (N := 10) rfl ?_); refine bE 10 #[.int .i64 0, .int .i64 0, .int .i64 0, .slice none 0 0] 71 ?_; intro gb474 hg w84 hbox hb; have n0_ := Kb BK473 hb; have n1_ := Bc HB hb; have n2_ := am (hbox); have n3_ := Gm HB hg; have n4_ := Gm HB hg; have n5_ := Nl BK473 hg; have n6_ := Ng BK473 hg; clear BK473 HB; revert n0_ n1_ n2_ n3_ n4_ n5_ n6_; intro BK473 HB BK474 GW474 GE474 NB473_474 NB474_473; clear hb hbox hg; have hnb85 := NB473_474.out; have hnc85 := NB474_473.out; obtain ⟨hcz86_0, hfz86_0⟩ := cf1 (w := w84) BK473) | ((with_reducible refine gate_callee (f := 170) rfl ?_); refine gL (some 23) Try.func170 #[.int .i64 a0, .slice A1 l1.length c1, .slice A2 l2.length c2, .int .i64 a3, .int .i64 a4] ?_; (with_reducible refine (impl_valuesOk.calls k a0 _ _ l1 _ _ l2 a3 a4 false _ ?side1 ?side2 ?side3 ?side4 A6.out).mono ?_); (case side1 => exact Cz (Kd.C_below HR1.out HB.out)); (case side2 => exact HC1.out); (case side3 => exact Cz (Kd.C_below HR2.out HB.out)); (case side4 => exact HC2.out); rintro e w87 ⟨rfl, hb⟩; refine ⟨_, rfl, ?_⟩; have n0_ := Kb BK473 hb; have n1_ := Kb BK474 hb; have n2_ := Bc HB hb; clear BK473 BK474 HB; revert n0_ n1_ n2_; intro BK473 BK474 HB; (try clear hb); (try clear hb2); (try clear hk); (try clear hi); obtain ⟨hcz88_0, hcz88_1, hcz88_2, hcz88_3, hfz88_0, hfz88_1, hfz88_2, hfz88_3⟩ := cf4 (w := w87) BK474))
  refine bodyPostM_ret (results_ct rfl _ _ gb474 71 #[.int .i64 0, .int .i64 0, .int .i64 0, .slice none 0 0] (0, 0) _ rfl (by refine bp ?_; refine blk_put (cs := #[.int .i64 0, .int .i64 0, .int .i64 0, .slice none 0 0]) ?_ 3 _ rfl; refine bp ?_; refine blk_put (cs := #[.int .i64 0, .int .i64 0, .int .i64 0, .slice none 0 0]) ?_ 2 _ rfl; refine bp ?_; refine blk_put (cs := #[.int .i64 0, .int .i64 0, .int .i64 0, .slice none 0 0]) ?_ 1 _ rfl; refine bp ?_; refine blk_put (cs := #[.int .i64 0, .int .i64 0, .int .i64 0, .slice none 0 0]) ?_ 0 _ rfl; exact Kz BK474.out) Try.underlying71 rfl (by kernel_rfl)) rfl ?_; exact ⟨_, eZ, nZ, Bq⟩
mutual
def impl_PrintFilterOf.j0 : Nat → Int → List ByteArray → Int → Int → Bool → Option (Int × Int × Int × List Int × Bool)
 | 0, _, _, _, _, _ => none
 | k + 1, x0, x1, x2, x3, x25 => if x25 = true then (some (0, 0, 0, ([] : List Int), false)) else (impl_PrintFilterOf.l0 k x0 x1 x2 x3 (([] : List Int)) x1 (x1.length : Int) 0)
def impl_PrintFilterOf.l0 : Nat → Int → List ByteArray → Int → Int → List Int → List ByteArray → Int → Int → Option (Int × Int × Int × List Int × Bool)
 | 0, _, _, _, _, _, _, _, _ => none
 | k + 1, x0, x1, x2, x3, x10, x28, x29, x30 => if x30 < x29 then (if 0 ≤ x30 then (if x30 < (x28.length : Int) then (if 0 ≤ x3 then ((impl_place.f k x0 9 (rdOf ByteArray.empty x28 x30) (shl .i64 1 x3)).bind fun t504 => (if x10.length < 17592186044416 then (impl_PrintFilterOf.l0 k x0 x1 x2 x3 (x10 ++ [t504]) x28 x29 (wrap64 (x30 + 1))) else (none))) else (none)) else (none)) else (none)) else ((impl_TableByPeeling.f k x0 x1 x10 x2 x3).bind fun bt508 => (some (bt508.1, bt508.2.1, bt508.2.2.1, bt508.2.2.2.1, bt508.2.2.2.2)))
end
def impl_PrintFilterOf.f (k : Nat) (a0 : Int) (l1 : List ByteArray) (a2 : Int) (a3 : Int) : Option (Int × Int × Int × List Int × Bool) := (impl_isSeed.f a0).bind fun t497 => (if t497 = true then ((impl_widthOk.f a3).bind fun t498 => (if t498 = true then ((impl_AreKeys.f k l1).bind fun t499 => (impl_PrintFilterOf.j0 k a0 l1 a2 a3 (!t499))) else (impl_PrintFilterOf.j0 k a0 l1 a2 a3 true))) else (impl_PrintFilterOf.j0 k a0 l1 a2 a3 true))
theorem impl_PrintFilterOf.calls (k : Nat) (a0 : Int) (A1 : Option Addr) (c1 : Nat) (l1 : List ByteArray) (a2 : Int) (a3 : Int) (r1 : Int) (r2 : Int) (r3 : Int) (r4 : List Int) (r5 : Bool) (w : World) (hr1 : Kd.C Kd.string w A1 l1.length l1) (hc1 : l1.length ≤ c1) (h : impl_PrintFilterOf.f k a0 l1 a2 a3 = some (r1, r2, r3, r4, r5)) :
  Calls Try.prog 40 #[.int .i64 a0, .slice A1 l1.length c1, .int .i64 a2, .int .i64 a3] w fun e w' => ∃ v3_ : Value, e = .returned (.tuple #[.agg #[.int .i64 r1, .int .i64 r2, .int .i64 r3, v3_], .bool r5]) ∧ Kd.R (Kd.int .i64) 3 w' w.heap.size (fun _ => True) v3_ r4 ∧ Below w.heap.size w w' := by
 have hu71 := Try.underlying71; have HR1 := am hr1; have HC1 := am hc1; clear hr1 hc1; have HB := am (Below.refl w.heap.size w); have H : ((impl_isSeed.f a0).bind fun t497 => (if t497 = true then ((impl_widthOk.f a3).bind fun t498 => (if t498 = true then ((impl_AreKeys.f k l1).bind fun t499 => (impl_PrintFilterOf.j0 k a0 l1 a2 a3 (!t499))) else (impl_PrintFilterOf.j0 k a0 l1 a2 a3 true))) else (impl_PrintFilterOf.j0 k a0 l1 a2 a3 true))) = some (r1, r2, r3, r4, r5) := h; clear h; have HC5 := am H; clear H
 go_enter Try.func40, Try.ntmps40
 go_upto_region 1 with (first | ((with_reducible refine gate_dst (N := 8) rfl ?_); refine bE 8 #[.int .i64 0, .int .i64 0, .int .i64 0, .slice none 0 0] 71 ?_; intro gb496 hg w6 hbox hb; have n0_ := Bb HB hb; have n1_ := am (hbox); have n2_ := Gl HB hg; have n3_ := Gl HB hg; clear HB; revert n0_ n1_ n2_ n3_; intro HB BK496 GW496 GE496; clear hb hbox hg))
 (try simp only [aP])
 go_cut [25] (fun v25 wc => ∃ (kq : Nat) (x25_4 : Bool), v25 = .bool x25_4 ∧ Aside0 (impl_PrintFilterOf.j0 kq a0 l1 a2 a3 x25_4 = some (r1, r2, r3, r4, r5)) ∧ Aside0 (kq ≤ k) ∧ Aside0 (wc.heap[gb496]? = some (.cells #[.int .i64 0, .int .i64 0, .int .i64 0, (.slice none 0 0)] 71 (0, 0))) ∧ Aside0 (Below w.heap.size w wc))
 case first =>
  have H := HC5.out; clear HC5; obtain ⟨t497, A7, H⟩ := ob H; (try dsimp -simprocs only at H)
  by_cases c8 : t497 = true
  ·subst c8
   rw [if_pos rfl] at H; obtain ⟨t498, A9, H⟩ := ob H; (try dsimp -simprocs only at H)
   by_cases c10 : t498 = true
   ·subst c10
    rw [if_pos rfl] at H; obtain ⟨t499, A11, H⟩ := ob H; (try dsimp -simprocs only at H); have H' := am H; clear H
    go_wp2_with (first | ((with_reducible refine gate_callee (f := 59) rfl ?_); refine gL (some 14) Try.func59 #[.int .i64 a0] ?_; (with_reducible refine (impl_isSeed.calls a0 true _ A7.out).mono ?_); rintro e w' ⟨rfl, ⟨nd, rfl⟩⟩; refine ⟨_, rfl, ?_⟩) | (go_at_call 113; (with_reducible refine (impl_widthOk.calls a3 true _ A9.out).mono ?_); rintro e w' ⟨rfl, ⟨nd, rfl⟩⟩) | (go_at_call 37; (with_reducible refine (impl_AreKeys.calls k _ _ l1 t499 _ ?side1 ?side2 A11.out).mono ?_); (case side1 => exact Cz (Kd.C_below HR1.out (Bq))); (case side2 => exact HC1.out); rintro e w' ⟨rfl, ⟨nd, rfl⟩⟩))
    go_meet
    case rel => exact ⟨_, (!t499), wZ, H', ⟨by first | omega | exact Nat.le_refl _⟩, ⟨Kz BK496.out⟩, ⟨Bq⟩⟩
   ·replace c10 := Bool.eq_false_iff.mpr c10
    subst c10
    rw [if_neg Bool.false_ne_true] at H; have H' := am H; clear H
    go_wp2_with (first | ((with_reducible refine gate_callee (f := 59) rfl ?_); refine gL (some 14) Try.func59 #[.int .i64 a0] ?_; (with_reducible refine (impl_isSeed.calls a0 true _ A7.out).mono ?_); rintro e w' ⟨rfl, ⟨nd, rfl⟩⟩; refine ⟨_, rfl, ?_⟩) | (go_at_call 113; (with_reducible refine (impl_widthOk.calls a3 false _ A9.out).mono ?_); rintro e w' ⟨rfl, ⟨nd, rfl⟩⟩))
    go_meet
    case rel => exact ⟨_, (true), wZ, H', ⟨by first | omega | exact Nat.le_refl _⟩, ⟨Kz BK496.out⟩, ⟨Bq⟩⟩
  ·replace c8 := Bool.eq_false_iff.mpr c8
   subst c8
   rw [if_neg Bool.false_ne_true] at H; have H' := am H; clear H
   go_wp2_with (first | ((with_reducible refine gate_callee (f := 59) rfl ?_); refine gL (some 14) Try.func59 #[.int .i64 a0] ?_; (with_reducible refine (impl_isSeed.calls a0 false _ A7.out).mono ?_); rintro e w' ⟨rfl, ⟨nd, rfl⟩⟩; refine ⟨_, rfl, ?_⟩))
   go_meet
   case rel => exact ⟨_, (true), wZ, H', ⟨by first | omega | exact Nat.le_refl _⟩, ⟨Kz BK496.out⟩, ⟨Bq⟩⟩
 case rest =>
  clear HC5
  try clear c1
  try clear p2
  try clear c4
  try clear c5
  try clear c8
  try clear c10
  obtain ⟨kq, x25_4, rfl, HA, HJ4, BK496, HB⟩ := hcut; cases kq with
  | zero => exact absurd HA.out (by simp [impl_PrintFilterOf.j0])
  | succ kj4 =>
   have H := HA.out; clear HA
   simp only [impl_PrintFilterOf.j0] at H
   by_cases c12 : x25_4 = true
   ·subst c12
    rw [if_pos rfl] at H
    simp only [Option.some.injEq, Prod.mk.injEq] at H
    obtain ⟨rfl, rfl, rfl, rfl, rfl⟩ := H; obtain ⟨hcz13_0, hcz13_1, hcz13_2, hcz13_3, hfz13_0, hfz13_1, hfz13_2, hfz13_3⟩ := cf4 (w := wc) BK496
    go_wp2
    refine bodyPost_ret (results_ct rfl _ _ gb496 71 #[.int .i64 0, .int .i64 0, .int .i64 0, .slice none 0 0] (0, 0) _ rfl (by refine bp ?_; refine blk_put (cs := #[.int .i64 0, .int .i64 0, .int .i64 0, .slice none 0 0]) ?_ 3 _ rfl; refine bp ?_; refine blk_put (cs := #[.int .i64 0, .int .i64 0, .int .i64 0, .slice none 0 0]) ?_ 2 _ rfl; refine bp ?_; refine blk_put (cs := #[.int .i64 0, .int .i64 0, .int .i64 0, .slice none 0 0]) ?_ 1 _ rfl; refine bp ?_; refine blk_put (cs := #[.int .i64 0, .int .i64 0, .int .i64 0, .slice none 0 0]) ?_ 0 _ rfl; exact Kz BK496.out) Try.underlying71 rfl (by kernel_rfl)) rfl ?_; exact ⟨_, eZ, nZ, Bq⟩
   ·replace c12 := Bool.eq_false_iff.mpr c12
    subst c12
    rw [if_neg Bool.false_ne_true] at H; obtain ⟨y500, hy500⟩ : ∃ y_ : List Int, y_ = (([] : List Int)) := ⟨_, rfl⟩
    replace H : (impl_PrintFilterOf.l0 kj4 a0 l1 a2 a3 y500 l1 (l1.length : Int) 0) = some (r1, r2, r3, r4, r5) := by (try rw [hy500]); first | with_reducible exact H | exact (Option.bind_some _ _).symm.trans H | exact H
    have Ny500 := am hy500; clear hy500; have H' := am H; clear H
    go_wp2_with (first | ((with_reducible refine gate_dst (N := 27) rfl ?_); refine Kd.R_lit (Kd.int .i64) _ 3 ?hg (N := 27) ?hd (xs := ([] : List Int)) (inner := []) (ok := fun _ => True) (okp := fun _ => True) ?hr ?hp (fun _ hk => hk) trivial (Below.refl _ _) (Nat.le_refl _) (by simp) ?_; (case hd => rfl); (case hg => rfl); (case hr => first | (go_simp; done) | (go_simp; rfl)); (case hp => exact (Reps.none _ _)); intro v501 w14 ho15 hb hg_ hnew_; clear hg_ hnew_; (first | rw [← Ny500.out] at ho15 | (simp only [Int.reduceToNat] at ho15; rw [← Ny500.out] at ho15)); have n0_ := Rm ho15 HB; have n1_ := Kb BK496 hb; have n2_ := Bc HB hb; clear BK496 HB; revert n0_ n1_ n2_; intro HO502 BK496 HB; clear hb ho15))
    (try simp only [aP])
    go_loopg [10, 30] kj4 (fun kq v10 v30 w' => ∃ (x10_2 : List Int) (x30_2 : Int), v30 = .int .i64 x30_2 ∧ Aside0 (impl_PrintFilterOf.l0 kq a0 l1 a2 a3 x10_2 l1 (l1.length : Int) x30_2 = some (r1, r2, r3, r4, r5)) ∧ Aside0 (kq ≤ kj4) ∧ Aside0 (Kd.R (Kd.int .i64) 3 w' w.heap.size (fun _ => True) v10 x10_2) ∧ Aside0 (w'.heap[gb496]? = some (.cells #[.int .i64 0, .int .i64 0, .int .i64 0, (.slice none 0 0)] 71 (0, 0))) ∧ Aside0 (Below w.heap.size w w'))
    case atStart => exact ⟨(y500), (0), wZ, H', ⟨Nat.le_refl _⟩, ⟨Rz HO502.out⟩, ⟨Kz BK496.out⟩, ⟨Bq⟩⟩
    case round =>
     clear H'
     try clear c1
     try clear p2
     try clear c4
     try clear c5
     try clear c8
     try clear c10
     try clear c12
     try clear p2
     obtain ⟨x10_2, x30_2, rfl, HA, HK2, HO_10, BK496, HB⟩ := hrel; cases gk with
     | zero => exact absurd HA.out (by simp [impl_PrintFilterOf.l0])
     | succ k2 =>
      have H := HA.out; clear HA
      simp only [impl_PrintFilterOf.l0] at H
      by_cases c16 : x30_2 < (l1.length : Int)
      ·rw [if_pos c16] at H
       have c16b0 : decide (x30_2 < (l1.length : Int)) = true := decide_eq_true c16; clear c16
       by_cases c17 : 0 ≤ x30_2
       ·rw [if_pos c17] at H
        have c17b0 : decide (0 ≤ x30_2) = true := decide_eq_true c17; clear c17
        by_cases c18 : x30_2 < (l1.length : Int)
        ·rw [if_pos c18] at H
         have c18b0 : decide (x30_2 < (l1.length : Int)) = true := decide_eq_true c18; clear c18
         by_cases c19 : 0 ≤ a3
         ·rw [if_pos c19] at H
          have c19b0 := eq_true c19; have c19b1 : decide (0 ≤ a3) = true := decide_eq_true c19; clear c19; obtain ⟨ji20, hji20⟩ : ∃ j_ : Int, (shl .i64 1 a3) = j_ := ⟨_, rfl⟩
          replace H : ((impl_place.f k2 a0 9 (rdOf ByteArray.empty l1 x30_2) (ji20)).bind fun t504 => (if x10_2.length < 17592186044416 then (impl_PrintFilterOf.l0 k2 a0 l1 a2 a3 (x10_2 ++ [t504]) l1 (l1.length : Int) (wrap64 (x30_2 + 1))) else (none))) = some (r1, r2, r3, r4, r5) := by first | (rw [hji20] at H; exact H) | (simp only [hji20] at H ⊢; exact H)
          have hji20_ : (IntKind.i64.wrap (1 * 2 ^ min a3.toNat 64)) = ji20 := hji20; have hji20z : a3 ≤ 64 → (IntKind.i64.wrap (1 * 2 ^ a3.toNat)) = ji20 := shl_small hji20
          have hji20u : (IntKind.i64.wrap (2 ^ min a3.toNat 64)) = ji20 := by have h_ := hji20_; rw [Int.one_mul] at h_; exact h_
          have hji20v : a3 ≤ 64 → (IntKind.i64.wrap (2 ^ a3.toNat)) = ji20 := fun hle_ => by have h_ := hji20z hle_; rw [Int.one_mul] at h_; exact h_
          have hji20y : (wrap64 (1 * 2 ^ min a3.toNat 64)) = ji20 := (i64_w _).symm.trans hji20_
          have hji20x : a3 ≤ 64 → (wrap64 (1 * 2 ^ a3.toNat)) = ji20 := fun h_ => (i64_w _).symm.trans (hji20z h_)
          obtain ⟨t504, A21, H⟩ := ob H; (try dsimp -simprocs only at H)
          by_cases c22 : x10_2.length < 17592186044416
          ·rw [if_pos c22] at H
           have LMc22 := am c22; clear c22; obtain ⟨y505, hy505⟩ : ∃ y_ : List Int, y_ = (x10_2 ++ [t504]) := ⟨_, rfl⟩
           replace H : (impl_PrintFilterOf.l0 k2 a0 l1 a2 a3 y505 l1 (l1.length : Int) (wrap64 (x30_2 + 1))) = some (r1, r2, r3, r4, r5) := by (try rw [hy505]); first | with_reducible exact H | exact (Option.bind_some _ _).symm.trans H | exact H
           have Ny505 := am hy505; clear hy505; have H' := am H; clear H; have p503 : 0 ≤ (x30_2 : Int) := dT; have q503 : x30_2 < (l1.length : Int) := dT; obtain ⟨ad503, e503, hx503_0⟩ := Kd.at_string HR1.out x30_2 p503 q503; cases e503; replace hx503_0 := (HB.out.cell (World.block_lt_of_cell? w _ hx503_0)).trans hx503_0; replace p503 := eq_true p503; replace q503 := eq_true q503
           go_wp2_with (first | ((with_reducible refine gate_callee (f := 116) rfl ?_); refine goesL_ (some 39) rfl rfl Try.func116 (by kernel_rfl) rfl #[.int .i64 a0, .int .i64 9, .string (rdOf ByteArray.empty l1 x30_2), .int .i64 ji20] rfl (by (try simp only [List.map_toArray, List.map_cons, List.map_nil]); first | done | (simp only [hji20]; rfl) | rfl | (simp only [List.length_drop, List.length_take]; rfl)) ?_; (with_reducible refine (impl_place.calls k2 a0 9 (rdOf ByteArray.empty l1 x30_2) ji20 t504 _ A21.out).mono ?_); rintro e w' ⟨rfl, ⟨nd, rfl⟩⟩; refine ⟨_, rfl, ?_⟩) | ((with_reducible refine gate_builtin (b := .append) (xs := #[.tmp 34, .tmp 40]) rfl ?_); at_builtin; refine Kd.R_append (Kd.int .i64) (w0 := w) w.heap.size rfl (.tmp 34) (.tmp 40) 24 3 (.int .i64 0) 8 rfl Try.underlying24 info3 rfl (by decide) (by omega) u10 x10_2 t504 [.int .i64 t504] (fun _ => True) (fun _ => False) rfl rfl ?aP (fun _ hk => hk.elim) ?aF ?aO ?aB ?aS ?aL ?_; (case aP => exact rfl); (case aB => exact (Bq)); (case aF => exact (fun _ _ => trivial)); (case aO => exact (Rz HO_10.out)); (case aS => exact (below_size (w := w) (Bq))); (case aL => have := LMc22.out; omega); intro v506 w23 ho hb hg hat; rw [← Ny505.out] at ho; have n0_ := am (blk_grown (g := gb496) (o := .cells #[.int .i64 0, .int .i64 0, .int .i64 0, .slice none 0 0] 71 (0, 0)) (Kz BK496.out) hg (Kd.R_ne HO_10.out BK496.out (by decide))); have n1_ := am (hb); have n2_ := am (ho); clear BK496 HB HO_10; revert n0_ n1_ n2_; intro BK496 HB HO507; clear ho hb hg hat))
           go_roundg k2
           case measure => have := HJ4.out; have := HK2.out; omega
           case rel => exact ⟨(y505), (wrap64 (x30_2 + 1)), wZ, H', ⟨by have := HJ4.out; have := HK2.out; omega⟩, ⟨Rz HO507.out⟩, ⟨Kz BK496.out⟩, ⟨Bq⟩⟩
          ·rw [if_neg c22] at H
           exact absurd H (by simp)
         ·rw [if_neg c19] at H
          exact absurd H (by simp)
        ·rw [if_neg c18] at H
         exact absurd H (by simp)
       ·rw [if_neg c17] at H
        exact absurd H (by simp)
      ·rw [if_neg c16] at H
       have c16b0 : decide (x30_2 < (l1.length : Int)) = false := decide_eq_false c16; clear c16; obtain ⟨⟨t508, t509, t510, t511, t514⟩, A24, H⟩ := ob H; (try dsimp -simprocs only at H)
       simp only [Option.some.injEq, Prod.mk.injEq] at H
       obtain ⟨rfl, rfl, rfl, rfl, rfl⟩ := H; obtain ⟨Ao25, co25, eo25⟩ := Kd.R_slice HO_10.out; subst eo25
       go_wp2_with (first | ((with_reducible refine gate_callee (f := 117) rfl ?_); refine gL (some 48) Try.func117 #[.int .i64 a0, .slice A1 l1.length c1, .slice Ao25 x10_2.length co25, .int .i64 a2, .int .i64 a3] ?_; (with_reducible refine (impl_TableByPeeling.calls k2 a0 _ _ l1 _ _ x10_2 a2 a3 t508 t509 t510 t511 t514 _ ?side1 ?side2 ?side3 ?side4 A24.out).mono ?_); (case side1 => exact Cz (Kd.C_below HR1.out HB.out)); (case side2 => exact HC1.out); (case side3 => exact Cz ((Kd.R_reads' HO_10.out).2.2)); (case side4 => exact (Kd.R_reads' HO_10.out).2.1); rintro e w26 ⟨v512, rfl, ho0, hb⟩; refine ⟨_, rfl, ?_⟩; have n0_ := Re HO_10 (Kd.R_base ho0) hb; have n1_ := Rm (Kd.R_new' ho0 (Kd.R_lt (Rz HO_10.out))) HB; have n2_ := Kb BK496 hb; have n3_ := Bc HB hb; clear HO_10 BK496 HB; revert n0_ n1_ n2_ n3_; intro HO_10 HO513 BK496 HB; (try clear hb); (try clear hb2); (try clear hk); (try clear hi); (try clear ho0); obtain ⟨hcz27_0, hcz27_1, hcz27_2, hcz27_3, hfz27_0, hfz27_1, hfz27_2, hfz27_3⟩ := cf4 (w := w26) BK496; obtain ⟨Ao28, co28, eo28⟩ := Kd.R_slice HO513.out; subst eo28))
       refine bodyPost_ret (results_ct rfl _ _ gb496 71 #[.int .i64 t508, .int .i64 t509, .int .i64 t510, .slice Ao28 t511.length co28] (0, 0) _ rfl (by refine bp ?_; refine blk_put (cs := #[.int .i64 t508, .int .i64 t509, .int .i64 t510, .slice none 0 0]) ?_ 3 _ rfl; refine bp ?_; refine blk_put (cs := #[.int .i64 t508, .int .i64 t509, .int .i64 0, .slice none 0 0]) ?_ 2 _ rfl; refine bp ?_; refine blk_put (cs := #[.int .i64 t508, .int .i64 0, .int .i64 0, .slice none 0 0]) ?_ 1 _ rfl; refine bp ?_; refine blk_put (cs := #[.int .i64 0, .int .i64 0, .int .i64 0, .slice none 0 0]) ?_ 0 _ rfl; exact Kz BK496.out) Try.underlying71 rfl (by kernel_rfl)) rfl ?_; exact ⟨_, eZ, Rz (Kd.R_mono (Kd.R_far (p := ⟨gb496, 3, none⟩) (Kd.R_far (p := ⟨gb496, 2, none⟩) (Kd.R_far (p := ⟨gb496, 1, none⟩) (Kd.R_far (p := ⟨gb496, 0, none⟩) (Kd.R_types HO513.out BK496.out (by decide)) (fun _ hk => hk.2) (.int .i64 t508)) (fun _ hk => hk.2) (.int .i64 t509)) (fun _ hk => hk.2) (.int .i64 t510)) (fun _ hk => hk.2) (.slice Ao28 t511.length co28)) (fun _ hk => trivial)), Bq⟩

def spec_l1In.f (a0 : Int) (a1 : Int) (a2 : Int) : Option (Bool) := if a0 ≥ a1 then (some (decide (a0 ≤ a2))) else (some false)
theorem spec_l1In.calls (a0 : Int) (a1 : Int) (a2 : Int) (r : Bool) (w : World) (h : spec_l1In.f a0 a1 a2 = some r) :
  Calls Try.prog 95 #[.int .i64 a0, .int .i64 a1, .int .i64 a2] w fun e w' => e = .returned (.bool r) ∧ Drawn0 w w' := by
 have H : (if a0 ≥ a1 then (some (decide (a0 ≤ a2))) else (some false)) = some r := h; clear h
 by_cases c4 : a0 ≥ a1
 ·rw [if_pos c4] at H
  have c4b0 : decide (a1 ≤ a0) = true := decide_eq_true c4; clear c4; obtain rfl := Option.some.inj H
  go_enter Try.func95, Try.ntmps95
  go_wp2
  go_ret
  exact ⟨by first | rfl | (simp; done) | (simp [*]; done), by repeat (first | exact Drawn0.refl _ | apply Drawn0.step)⟩
 ·rw [if_neg c4] at H
  have c4b0 : decide (a1 ≤ a0) = false := decide_eq_false c4; clear c4; obtain rfl := Option.some.inj H
  go_enter Try.func95, Try.ntmps95
  go_wp2
  go_ret
  exact ⟨by first | rfl | (simp; done) | (simp [*]; done), by repeat (first | exact Drawn0.refl _ | apply Drawn0.step)⟩

def spec_IsKey.l0 : Nat → ByteArray → Int → Option (Bool)
 | 0, _, _ => none
 | k + 1, x0, x3 => if x3 < (x0.size : Int) then (if 0 ≤ x3 then (if (bt x0 x3) < 33 then (some false) else (if (bt x0 x3) > 125 then (some false) else (spec_IsKey.l0 k x0 (wrap64 (x3 + 1))))) else (none)) else ((spec_l1In.f (x0.size : Int) 1 12).bind fun t515 => (some t515))
def spec_IsKey.f (k : Nat) (a0 : ByteArray) : Option (Bool) := spec_IsKey.l0 k a0 0
theorem spec_IsKey.calls (k : Nat) (a0 : ByteArray) (r : Bool) (w : World) (h : spec_IsKey.f k a0 = some r) :
  Calls Try.prog 55 #[.string a0] w fun e w' => e = .returned (.bool r) ∧ Drawn0 w w' := by
 have H : (spec_IsKey.l0 k a0 0) = some r := h; clear h; have H' := am H; clear H
 go_enter Try.func55, Try.ntmps55
 go_wp2
 go_loopg [3] k (fun kq v3 w' => ∃ (x3_1 : Int), v3 = .int .i64 x3_1 ∧ Aside0 (spec_IsKey.l0 kq a0 x3_1 = some r) ∧ Aside0 (kq ≤ k) ∧ Drawn0 w w')
 case atStart => exact ⟨(0), wZ, H', ⟨Nat.le_refl _⟩, by repeat (first | exact Drawn0.refl _ | apply Drawn0.step)⟩
 case round =>
  clear H'; obtain ⟨x3_1, rfl, HA, HK1, ⟨m1, rfl⟩⟩ := hrel; cases gk with
  | zero => exact absurd HA.out (by simp [spec_IsKey.l0])
  | succ k1 =>
   have H := HA.out; clear HA
   simp only [spec_IsKey.l0] at H
   by_cases c2 : x3_1 < (a0.size : Int)
   ·rw [if_pos c2] at H
    have c2b0 : decide (x3_1 < (a0.size : Int)) = true := decide_eq_true c2; clear c2
    by_cases c3 : 0 ≤ x3_1
    ·rw [if_pos c3] at H
     have c3b0 : decide (0 ≤ x3_1) = true := decide_eq_true c3; clear c3
     by_cases c5 : (bt a0 x3_1) < 33
     ·rw [if_pos c5] at H
      have c5b0 : decide ((bt a0 x3_1) < 33) = true := decide_eq_true c5; clear c5; obtain rfl := Option.some.inj H; have p4 : 0 ≤ (x3_1 : Int) := dT; have q4 : x3_1 < (a0.size : Int) := dT; have hx4 := bt_at a0 x3_1; replace p4 := eq_true p4; replace q4 := eq_true q4
      go_wp2
      go_ret
      exact ⟨by first | rfl | (simp; done) | (simp [*]; done), by repeat (first | exact Drawn0.refl _ | apply Drawn0.step)⟩
     ·rw [if_neg c5] at H
      have c5b0 : decide ((bt a0 x3_1) < 33) = false := decide_eq_false c5; clear c5
      by_cases c7 : (bt a0 x3_1) > 125
      ·rw [if_pos c7] at H
       have c7b0 : decide (125 < (bt a0 x3_1)) = true := decide_eq_true c7; clear c7; obtain rfl := Option.some.inj H; have p4 : 0 ≤ (x3_1 : Int) := dT; have q4 : x3_1 < (a0.size : Int) := dT; have hx4 := bt_at a0 x3_1; replace p4 := eq_true p4; replace q4 := eq_true q4; have p6 : 0 ≤ (x3_1 : Int) := dT; have q6 : x3_1 < (a0.size : Int) := dT; have hx6 := bt_at a0 x3_1; replace p6 := eq_true p6; replace q6 := eq_true q6
       go_wp2
       go_ret
       exact ⟨by first | rfl | (simp; done) | (simp [*]; done), by repeat (first | exact Drawn0.refl _ | apply Drawn0.step)⟩
      ·rw [if_neg c7] at H
       have c7b0 : decide (125 < (bt a0 x3_1)) = false := decide_eq_false c7; clear c7; have H' := am H; clear H; have p4 : 0 ≤ (x3_1 : Int) := dT; have q4 : x3_1 < (a0.size : Int) := dT; have hx4 := bt_at a0 x3_1; replace p4 := eq_true p4; replace q4 := eq_true q4; have p6 : 0 ≤ (x3_1 : Int) := dT; have q6 : x3_1 < (a0.size : Int) := dT; have hx6 := bt_at a0 x3_1; replace p6 := eq_true p6; replace q6 := eq_true q6
       go_wp2
       go_roundg k1
       case measure => have := HK1.out; omega
       case rel => exact ⟨(wrap64 (x3_1 + 1)), wZ, H', ⟨by have := HK1.out; omega⟩, by repeat (first | exact Drawn0.refl _ | apply Drawn0.step)⟩
    ·rw [if_neg c3] at H
     exact absurd H (by simp)
   ·rw [if_neg c2] at H
    have c2b0 : decide (x3_1 < (a0.size : Int)) = false := decide_eq_false c2; clear c2; obtain ⟨t515, A8, H⟩ := ob H; (try dsimp -simprocs only at H); obtain rfl := Option.some.inj H
    go_wp2_with (first | ((with_reducible refine gate_callee (f := 95) rfl ?_); refine gL (some 22) Try.func95 #[.int .i64 (a0.size : Int), .int .i64 1, .int .i64 12] ?_; (with_reducible refine (spec_l1In.calls (a0.size : Int) 1 12 t515 _ A8.out).mono ?_); rintro e w' ⟨rfl, ⟨nd, rfl⟩⟩; refine ⟨_, rfl, ?_⟩))
    go_ret
    exact ⟨by first | rfl | (simp; done) | (simp [*]; done), by repeat (first | exact Drawn0.refl _ | apply Drawn0.step)⟩

def spec_biKeys.l0 : Nat → List ByteArray → List ByteArray → Int → Int → Option (Bool)
 | 0, _, _, _, _ => none
 | k + 1, x0, x5, x6, x7 => if x7 < x6 then (if 0 ≤ x7 then (if x7 < (x5.length : Int) then ((spec_IsKey.f k (rdOf ByteArray.empty x5 x7)).bind fun t517 => (if t517 = true then (if x7 > 0 then (if 0 ≤ (wrap64 (x7 - 1)) then (if (wrap64 (x7 - 1)) < (x0.length : Int) then (if ((Op.bytesLess ((rdOf ByteArray.empty x0 (wrap64 (x7 - 1))).toList) ((rdOf ByteArray.empty x5 x7).toList)) = true) then (spec_biKeys.l0 k x0 x5 x6 (wrap64 (x7 + 1))) else (some false)) else (none)) else (none)) else (spec_biKeys.l0 k x0 x5 x6 (wrap64 (x7 + 1)))) else (some false))) else (none)) else (none)) else (some (decide ((x0.length : Int) ≤ 40)))
def spec_biKeys.f (k : Nat) (l0 : List ByteArray) : Option (Bool) := spec_biKeys.l0 k l0 l0 (l0.length : Int) 0
theorem spec_biKeys.calls (k : Nat) (A0 : Option Addr) (c0 : Nat) (l0 : List ByteArray) (r : Bool) (w : World) (hr0 : Kd.C Kd.string w A0 l0.length l0) (hc0 : l0.length ≤ c0) (h : spec_biKeys.f k l0 = some r) :
  Calls Try.prog 96 #[.slice A0 l0.length c0] w fun e w' => e = .returned (.bool r) ∧ Drawn0 w w' := by
 have HR0 := am hr0; have HC0 := am hc0; clear hr0 hc0; have H : (spec_biKeys.l0 k l0 l0 (l0.length : Int) 0) = some r := h; clear h; have H' := am H; clear H
 go_enter Try.func96, Try.ntmps96
 go_wp2
 go_loopg [7] k (fun kq v7 w' => ∃ (x7_1 : Int), v7 = .int .i64 x7_1 ∧ Aside0 (spec_biKeys.l0 kq l0 l0 (l0.length : Int) x7_1 = some r) ∧ Aside0 (kq ≤ k) ∧ Drawn0 w w')
 case atStart => exact ⟨(0), wZ, H', ⟨Nat.le_refl _⟩, by repeat (first | exact Drawn0.refl _ | apply Drawn0.step)⟩
 case round =>
  clear H'; obtain ⟨x7_1, rfl, HA, HK1, ⟨m1, rfl⟩⟩ := hrel; cases gk with
  | zero => exact absurd HA.out (by simp [spec_biKeys.l0])
  | succ k1 =>
   have H := HA.out; clear HA
   simp only [spec_biKeys.l0] at H
   by_cases c2 : x7_1 < (l0.length : Int)
   ·rw [if_pos c2] at H
    have c2b0 : decide (x7_1 < (l0.length : Int)) = true := decide_eq_true c2; clear c2
    by_cases c3 : 0 ≤ x7_1
    ·rw [if_pos c3] at H
     have c3b0 : decide (0 ≤ x7_1) = true := decide_eq_true c3; clear c3
     by_cases c4 : x7_1 < (l0.length : Int)
     ·rw [if_pos c4] at H
      have c4b0 : decide (x7_1 < (l0.length : Int)) = true := decide_eq_true c4; clear c4; obtain ⟨t517, A5, H⟩ := ob H; (try dsimp -simprocs only at H)
      by_cases c6 : t517 = true
      ·subst c6
       rw [if_pos rfl] at H
       by_cases c7 : x7_1 > 0
       ·rw [if_pos c7] at H
        have c7b0 : decide (0 < x7_1) = true := decide_eq_true c7; clear c7; obtain ⟨ji8, hji8⟩ : ∃ j_ : Int, (wrap64 (x7_1 - 1)) = j_ := ⟨_, rfl⟩
        replace H : (if 0 ≤ (ji8) then (if (ji8) < (l0.length : Int) then (if ((Op.bytesLess ((rdOf ByteArray.empty l0 (ji8)).toList) ((rdOf ByteArray.empty l0 x7_1).toList)) = true) then (spec_biKeys.l0 k1 l0 l0 (l0.length : Int) (wrap64 (x7_1 + 1))) else (some false)) else (none)) else (none)) = some r := by first | (rw [hji8] at H; exact H) | (simp only [hji8] at H ⊢; exact H)
        (try rw [hji8] at A5)
        have hji8w : (IntKind.i64.wrap (x7_1 - 1)) = ji8 := (i64_w _).trans hji8
        by_cases c9 : 0 ≤ (ji8)
        ·rw [if_pos c9] at H
         have c9b0 : decide (0 ≤ (ji8)) = true := decide_eq_true c9; clear c9
         by_cases c10 : (ji8) < (l0.length : Int)
         ·rw [if_pos c10] at H
          have c10b0 : decide ((ji8) < (l0.length : Int)) = true := decide_eq_true c10; clear c10
          by_cases c11 : ((Op.bytesLess ((rdOf ByteArray.empty l0 (ji8)).toList) ((rdOf ByteArray.empty l0 x7_1).toList)) = true)
          ·rw [if_pos c11] at H
           have c11b0 : (Op.bytesLess ((rdOf ByteArray.empty l0 (ji8)).toList) ((rdOf ByteArray.empty l0 x7_1).toList)) = true := c11; clear c11; have H' := am H; clear H; obtain ⟨ad516, e516, hx516_0⟩ := Kd.at_string HR0.out x7_1 dT dT; cases e516; have p516 := eT (0 ≤ (x7_1 : Int)); have q516 := eT (x7_1 < (l0.length : Int))
           go_wp2_with (first | ((with_reducible refine gate_callee (f := 55) rfl ?_); refine gL (some 13) Try.func55 #[.string (rdOf ByteArray.empty l0 x7_1)] ?_; (with_reducible refine (spec_IsKey.calls k1 (rdOf ByteArray.empty l0 x7_1) true _ A5.out).mono ?_); rintro e w' ⟨rfl, ⟨nd, rfl⟩⟩; refine ⟨_, rfl, ?_⟩; have p518 : 0 ≤ ((ji8) : Int) := dT; have q518 : (ji8) < (l0.length : Int) := dT; obtain ⟨ad518, e518, hx518_0⟩ := Kd.at_string HR0.out (ji8) p518 q518; obtain rfl : ad516 = ad518 := (by injection e518); replace p518 := eq_true p518; replace q518 := eq_true q518))
           go_roundg k1
           case measure => have := HK1.out; omega
           case rel => exact ⟨(wrap64 (x7_1 + 1)), wZ, H', ⟨by have := HK1.out; omega⟩, by repeat (first | exact Drawn0.refl _ | apply Drawn0.step)⟩
          ·rw [if_neg c11] at H
           have c11b0 : (Op.bytesLess ((rdOf ByteArray.empty l0 (ji8)).toList) ((rdOf ByteArray.empty l0 x7_1).toList)) = false := by simpa using c11
           clear c11; obtain rfl := Option.some.inj H; obtain ⟨ad516, e516, hx516_0⟩ := Kd.at_string HR0.out x7_1 dT dT; cases e516; have p516 := eT (0 ≤ (x7_1 : Int)); have q516 := eT (x7_1 < (l0.length : Int))
           go_wp2_with (first | ((with_reducible refine gate_callee (f := 55) rfl ?_); refine gL (some 13) Try.func55 #[.string (rdOf ByteArray.empty l0 x7_1)] ?_; (with_reducible refine (spec_IsKey.calls k1 (rdOf ByteArray.empty l0 x7_1) true _ A5.out).mono ?_); rintro e w' ⟨rfl, ⟨nd, rfl⟩⟩; refine ⟨_, rfl, ?_⟩; have p518 : 0 ≤ ((ji8) : Int) := dT; have q518 : (ji8) < (l0.length : Int) := dT; obtain ⟨ad518, e518, hx518_0⟩ := Kd.at_string HR0.out (ji8) p518 q518; obtain rfl : ad516 = ad518 := (by injection e518); replace p518 := eq_true p518; replace q518 := eq_true q518))
           go_ret
           exact ⟨by first | rfl | (simp; done) | (simp only [← hji8] <;> (first | rfl | simp)) | (simp [*]; done), by repeat (first | exact Drawn0.refl _ | apply Drawn0.step)⟩
         ·rw [if_neg c10] at H
          exact absurd H (by simp)
        ·rw [if_neg c9] at H
         exact absurd H (by simp)
       ·rw [if_neg c7] at H
        have c7b0 : decide (0 < x7_1) = false := decide_eq_false c7; clear c7; have H' := am H; clear H; obtain ⟨ad516, e516, hx516_0⟩ := Kd.at_string HR0.out x7_1 dT dT; cases e516; have p516 := eT (0 ≤ (x7_1 : Int)); have q516 := eT (x7_1 < (l0.length : Int))
        go_wp2_with (first | ((with_reducible refine gate_callee (f := 55) rfl ?_); refine gL (some 13) Try.func55 #[.string (rdOf ByteArray.empty l0 x7_1)] ?_; (with_reducible refine (spec_IsKey.calls k1 (rdOf ByteArray.empty l0 x7_1) true _ A5.out).mono ?_); rintro e w' ⟨rfl, ⟨nd, rfl⟩⟩; refine ⟨_, rfl, ?_⟩))
        go_roundg k1
        case measure => have := HK1.out; omega
        case rel => exact ⟨(wrap64 (x7_1 + 1)), wZ, H', ⟨by have := HK1.out; omega⟩, by repeat (first | exact Drawn0.refl _ | apply Drawn0.step)⟩
      ·replace c6 := Bool.eq_false_iff.mpr c6
       subst c6
       rw [if_neg Bool.false_ne_true] at H; obtain rfl := Option.some.inj H; obtain ⟨ad516, e516, hx516_0⟩ := Kd.at_string HR0.out x7_1 dT dT; cases e516; have p516 := eT (0 ≤ (x7_1 : Int)); have q516 := eT (x7_1 < (l0.length : Int))
       go_wp2_with (first | ((with_reducible refine gate_callee (f := 55) rfl ?_); refine gL (some 13) Try.func55 #[.string (rdOf ByteArray.empty l0 x7_1)] ?_; (with_reducible refine (spec_IsKey.calls k1 (rdOf ByteArray.empty l0 x7_1) false _ A5.out).mono ?_); rintro e w' ⟨rfl, ⟨nd, rfl⟩⟩; refine ⟨_, rfl, ?_⟩))
       go_ret
       exact ⟨by first | rfl | (simp; done) | (simp [*]; done), by repeat (first | exact Drawn0.refl _ | apply Drawn0.step)⟩
     ·rw [if_neg c4] at H
      exact absurd H (by simp)
    ·rw [if_neg c3] at H
     exact absurd H (by simp)
   ·rw [if_neg c2] at H
    have c2b0 : decide (x7_1 < (l0.length : Int)) = false := decide_eq_false c2; clear c2; obtain rfl := Option.some.inj H
    go_wp2
    go_ret
    exact ⟨by first | rfl | (simp; done) | (simp [*]; done), by repeat (first | exact Drawn0.refl _ | apply Drawn0.step)⟩

def spec_peKeyed.f (k : Nat) (a0 : Int) (l1 : List ByteArray) (a2 : Int) : Option (Bool) := (spec_l1In.f a0 0 9999).bind fun t519 => (if t519 = true then ((spec_biKeys.f k l1).bind fun t520 => (if t520 = true then ((spec_l1In.f a2 1 24).bind fun t521 => (some t521)) else (some false))) else (some false))
theorem spec_peKeyed.calls (k : Nat) (a0 : Int) (A1 : Option Addr) (c1 : Nat) (l1 : List ByteArray) (a2 : Int) (r : Bool) (w : World) (hr1 : Kd.C Kd.string w A1 l1.length l1) (hc1 : l1.length ≤ c1) (h : spec_peKeyed.f k a0 l1 a2 = some r) :
  Calls Try.prog 79 #[.int .i64 a0, .slice A1 l1.length c1, .int .i64 a2] w fun e w' => e = .returned (.bool r) ∧ Drawn0 w w' := by
 have HR1 := am hr1; have HC1 := am hc1; clear hr1 hc1; have H : ((spec_l1In.f a0 0 9999).bind fun t519 => (if t519 = true then ((spec_biKeys.f k l1).bind fun t520 => (if t520 = true then ((spec_l1In.f a2 1 24).bind fun t521 => (some t521)) else (some false))) else (some false))) = some r := h; clear h; obtain ⟨t519, A4, H⟩ := ob H; (try dsimp -simprocs only at H)
 by_cases c5 : t519 = true
 ·subst c5
  rw [if_pos rfl] at H; obtain ⟨t520, A6, H⟩ := ob H; (try dsimp -simprocs only at H)
  by_cases c7 : t520 = true
  ·subst c7
   rw [if_pos rfl] at H; obtain ⟨t521, A8, H⟩ := ob H; (try dsimp -simprocs only at H); obtain rfl := Option.some.inj H
   go_enter Try.func79, Try.ntmps79
   go_wp2_with (first | ((with_reducible refine gate_callee (f := 95) rfl ?_); refine gL (some 8) Try.func95 #[.int .i64 a0, .int .i64 0, .int .i64 9999] ?_; (with_reducible refine (spec_l1In.calls a0 0 9999 true _ A4.out).mono ?_); rintro e w' ⟨rfl, ⟨nd, rfl⟩⟩; refine ⟨_, rfl, ?_⟩) | (go_at_call 96; (with_reducible refine (spec_biKeys.calls k _ _ l1 true _ ?side1 ?side2 A6.out).mono ?_); (case side1 => exact Cz HR1.out); (case side2 => exact HC1.out); rintro e w' ⟨rfl, ⟨nd, rfl⟩⟩) | (go_at_call 95; (with_reducible refine (spec_l1In.calls a2 1 24 t521 _ A8.out).mono ?_); rintro e w' ⟨rfl, ⟨nd, rfl⟩⟩))
   go_ret
   exact ⟨by first | rfl | (simp; done) | (simp [*]; done), by repeat (first | exact Drawn0.refl _ | apply Drawn0.step)⟩
  ·replace c7 := Bool.eq_false_iff.mpr c7
   subst c7
   rw [if_neg Bool.false_ne_true] at H; obtain rfl := Option.some.inj H
   go_enter Try.func79, Try.ntmps79
   go_wp2_with (first | ((with_reducible refine gate_callee (f := 95) rfl ?_); refine gL (some 8) Try.func95 #[.int .i64 a0, .int .i64 0, .int .i64 9999] ?_; (with_reducible refine (spec_l1In.calls a0 0 9999 true _ A4.out).mono ?_); rintro e w' ⟨rfl, ⟨nd, rfl⟩⟩; refine ⟨_, rfl, ?_⟩) | (go_at_call 96; (with_reducible refine (spec_biKeys.calls k _ _ l1 false _ ?side1 ?side2 A6.out).mono ?_); (case side1 => exact Cz HR1.out); (case side2 => exact HC1.out); rintro e w' ⟨rfl, ⟨nd, rfl⟩⟩))
   go_ret
   exact ⟨by first | rfl | (simp; done) | (simp [*]; done), by repeat (first | exact Drawn0.refl _ | apply Drawn0.step)⟩
 ·replace c5 := Bool.eq_false_iff.mpr c5
  subst c5
  rw [if_neg Bool.false_ne_true] at H; obtain rfl := Option.some.inj H
  go_enter Try.func79, Try.ntmps79
  go_wp2_with (first | ((with_reducible refine gate_callee (f := 95) rfl ?_); refine gL (some 8) Try.func95 #[.int .i64 a0, .int .i64 0, .int .i64 9999] ?_; (with_reducible refine (spec_l1In.calls a0 0 9999 false _ A4.out).mono ?_); rintro e w' ⟨rfl, ⟨nd, rfl⟩⟩; refine ⟨_, rfl, ?_⟩))
  go_ret
  exact ⟨by first | rfl | (simp; done) | (simp [*]; done), by repeat (first | exact Drawn0.refl _ | apply Drawn0.step)⟩

def spec_biHash.l0 : Nat → ByteArray → Int → Int → Option (Int)
 | 0, _, _, _ => none
 | k + 1, x2, x7, x8 => if x8 < (x2.size : Int) then (if 0 ≤ x8 then (spec_biHash.l0 k x2 (Int.tmod (wrap64 ((wrap64 (263 * x7)) + (wrap64 (bt x2 x8)))) 65521) (wrap64 (x8 + 1))) else (none)) else (some (Int.tmod (wrap64 ((Int.tmod (wrap64 ((Int.tmod (wrap64 ((Int.tmod (wrap64 ((Int.tmod (wrap64 (x7 * x7)) 65521) * (Int.tmod (wrap64 (x7 * x7)) 65521))) 65521) * x7)) 65521) * (Int.tmod (wrap64 ((Int.tmod (wrap64 ((Int.tmod (wrap64 (x7 * x7)) 65521) * (Int.tmod (wrap64 (x7 * x7)) 65521))) 65521) * x7)) 65521))) 65521) * x7)) 65521))
def spec_biHash.f (k : Nat) (a0 : Int) (a1 : Int) (a2 : ByteArray) : Option (Int) := spec_biHash.l0 k a2 (Int.tmod (wrap64 ((wrap64 ((wrap64 (31 * a0)) + (wrap64 (977 * a1)))) + 7)) 65521) 0
theorem spec_biHash.calls (k : Nat) (a0 : Int) (a1 : Int) (a2 : ByteArray) (r : Int) (w : World) (h : spec_biHash.f k a0 a1 a2 = some r) :
  Calls Try.prog 187 #[.int .i64 a0, .int .i64 a1, .string a2] w fun e w' => e = .returned (.int .i64 r) ∧ Drawn0 w w' := by
 have H : (spec_biHash.l0 k a2 (Int.tmod (wrap64 ((wrap64 ((wrap64 (31 * a0)) + (wrap64 (977 * a1)))) + 7)) 65521) 0) = some r := h; clear h; have H' := am H; clear H
 go_enter Try.func187, Try.ntmps187
 go_wp2
 go_loopg [7, 8] k (fun kq v7 v8 w' => ∃ (x7_1 : Int) (x8_1 : Int), v7 = .int .i64 x7_1 ∧ v8 = .int .i64 x8_1 ∧ Aside0 (spec_biHash.l0 kq a2 x7_1 x8_1 = some r) ∧ Aside0 (kq ≤ k) ∧ Drawn0 w w')
 case atStart => exact ⟨(Int.tmod (wrap64 ((wrap64 ((wrap64 (31 * a0)) + (wrap64 (977 * a1)))) + 7)) 65521), (0), wZ, wZ, H', ⟨Nat.le_refl _⟩, by repeat (first | exact Drawn0.refl _ | apply Drawn0.step)⟩
 case round =>
  clear H'
  try clear c1
  try clear p2
  obtain ⟨x7_1, x8_1, rfl, rfl, HA, HK1, ⟨m1, rfl⟩⟩ := hrel; cases gk with
  | zero => exact absurd HA.out (by simp [spec_biHash.l0])
  | succ k1 =>
   have H := HA.out; clear HA
   simp only [spec_biHash.l0] at H
   by_cases c4 : x8_1 < (a2.size : Int)
   ·rw [if_pos c4] at H
    have c4b0 : decide (x8_1 < (a2.size : Int)) = true := decide_eq_true c4; clear c4
    by_cases c5 : 0 ≤ x8_1
    ·rw [if_pos c5] at H
     have c5b0 : decide (0 ≤ x8_1) = true := decide_eq_true c5; clear c5; have H' := am H; clear H; have p6 : 0 ≤ (x8_1 : Int) := dT; have q6 : x8_1 < (a2.size : Int) := dT; have hx6 := bt_at a2 x8_1; replace p6 := eq_true p6; replace q6 := eq_true q6
     go_wp2
     go_roundg k1
     case measure => have := HK1.out; omega
     case rel => exact ⟨(Int.tmod (wrap64 ((wrap64 (263 * x7_1)) + (wrap64 (bt a2 x8_1)))) 65521), (wrap64 (x8_1 + 1)), wZ, wZ, H', ⟨by have := HK1.out; omega⟩, by repeat (first | exact Drawn0.refl _ | apply Drawn0.step)⟩
    ·rw [if_neg c5] at H
     exact absurd H (by simp)
   ·rw [if_neg c4] at H
    have c4b0 : decide (x8_1 < (a2.size : Int)) = false := decide_eq_false c4; clear c4; obtain rfl := Option.some.inj H
    go_wp2
    go_ret
    exact ⟨by first | rfl | (simp; done) | (simp [*]; done), by repeat (first | exact Drawn0.refl _ | apply Drawn0.step)⟩

def spec_biPlace.f (k : Nat) (a0 : Int) (a1 : Int) (a2 : ByteArray) (a3 : Int) : Option (Int) := (spec_biHash.f k a0 a1 a2).bind fun t522 => (some (wrap64 (Int.tdiv (wrap64 (t522 * a3)) 65521)))
theorem spec_biPlace.calls (k : Nat) (a0 : Int) (a1 : Int) (a2 : ByteArray) (a3 : Int) (r : Int) (w : World) (h : spec_biPlace.f k a0 a1 a2 a3 = some r) :
  Calls Try.prog 157 #[.int .i64 a0, .int .i64 a1, .string a2, .int .i64 a3] w fun e w' => e = .returned (.int .i64 r) ∧ Drawn0 w w' := by
 have H : ((spec_biHash.f k a0 a1 a2).bind fun t522 => (some (wrap64 (Int.tdiv (wrap64 (t522 * a3)) 65521)))) = some r := h; clear h; obtain ⟨t522, A5, H⟩ := ob H; (try dsimp -simprocs only at H); obtain rfl := Option.some.inj H
 go_enter Try.func157, Try.ntmps157
 go_wp2_with (first | ((with_reducible refine gate_callee (f := 187) rfl ?_); refine gL (some 12) Try.func187 #[.int .i64 a0, .int .i64 a1, .string a2] ?_; (with_reducible refine (spec_biHash.calls k a0 a1 a2 t522 _ A5.out).mono ?_); rintro e w' ⟨rfl, ⟨nd, rfl⟩⟩; refine ⟨_, rfl, ?_⟩))
 go_ret
 exact ⟨by first | rfl | (simp; done) | (simp [*]; done), by repeat (first | exact Drawn0.refl _ | apply Drawn0.step)⟩

def spec_peTriple.l0 : Nat → Int → ByteArray → Int → List Int → Int → Option (List Int)
 | 0, _, _, _, _, _ => none
 | k + 1, x0, x1, x2, x7, x8 => if x8 < 3 then ((spec_biPlace.f k x0 x8 x1 x2).bind fun t523 => (if x7.length < 17592186044416 then (spec_peTriple.l0 k x0 x1 x2 (x7 ++ [wrap64 (t523 + (wrap64 (x8 * x2)))]) (wrap64 (x8 + 1))) else (none))) else (some x7)
def spec_peTriple.f (k : Nat) (a0 : Int) (a1 : ByteArray) (a2 : Int) : Option (List Int) := spec_peTriple.l0 k a0 a1 a2 ([] : List Int) 0
theorem spec_peTriple.calls (k : Nat) (a0 : Int) (a1 : ByteArray) (a2 : Int) (r : List Int) (w : World) (h : spec_peTriple.f k a0 a1 a2 = some r) :
  Calls Try.prog 135 #[.int .i64 a0, .string a1, .int .i64 a2] w fun e w' => ∃ v0_ : Value, e = .returned (v0_) ∧ Kd.R (Kd.int .i64) 3 w' w.heap.size (fun _ => True) v0_ r ∧ Below w.heap.size w w' := by
 have HB := am (Below.refl w.heap.size w); have H : (spec_peTriple.l0 k a0 a1 a2 ([] : List Int) 0) = some r := h; clear h; have H' := am H; clear H
 go_enter Try.func135, Try.ntmps135
 go_wp2
 go_loopg [7, 8] k (fun kq v7 v8 w' => ∃ (x7_1 : List Int) (x8_1 : Int), v8 = .int .i64 x8_1 ∧ Aside0 (spec_peTriple.l0 kq a0 a1 a2 x7_1 x8_1 = some r) ∧ Aside0 (kq ≤ k) ∧ Aside0 (Kd.R (Kd.int .i64) 3 w' w.heap.size (fun _ => True) v7 x7_1) ∧ Aside0 (Below w.heap.size w w'))
 case atStart => exact ⟨(([] : List Int)), (0), wZ, H', ⟨Nat.le_refl _⟩, ⟨nZ⟩, ⟨Bz HB.out⟩⟩
 case round =>
  clear H'
  try clear c1
  try clear p2
  obtain ⟨x7_1, x8_1, rfl, HA, HK1, HO_7, HB⟩ := hrel; cases gk with
  | zero => exact absurd HA.out (by simp [spec_peTriple.l0])
  | succ k1 =>
   have H := HA.out; clear HA
   simp only [spec_peTriple.l0] at H
   by_cases c4 : x8_1 < 3
   ·rw [if_pos c4] at H
    have c4b0 : decide (x8_1 < 3) = true := decide_eq_true c4; clear c4; obtain ⟨t523, A5, H⟩ := ob H; (try dsimp -simprocs only at H)
    by_cases c6 : x7_1.length < 17592186044416
    ·rw [if_pos c6] at H
     have LMc6 := am c6; clear c6; obtain ⟨y524, hy524⟩ : ∃ y_ : List Int, y_ = (x7_1 ++ [wrap64 (t523 + (wrap64 (x8_1 * a2)))]) := ⟨_, rfl⟩
     replace H : (spec_peTriple.l0 k1 a0 a1 a2 y524 (wrap64 (x8_1 + 1))) = some r := by (try rw [hy524]); first | with_reducible exact H | exact (Option.bind_some _ _).symm.trans H | exact H
     have Ny524 := am hy524; clear hy524; have H' := am H; clear H
     go_wp2_with (first | ((with_reducible refine gate_callee (f := 157) rfl ?_); refine gL (some 18) Try.func157 #[.int .i64 a0, .int .i64 x8_1, .string a1, .int .i64 a2] ?_; (with_reducible refine (spec_biPlace.calls k1 a0 x8_1 a1 a2 t523 _ A5.out).mono ?_); rintro e w' ⟨rfl, ⟨nd, rfl⟩⟩; refine ⟨_, rfl, ?_⟩) | ((with_reducible refine gate_builtin (b := .append) (xs := #[.tmp 13, .tmp 23]) rfl ?_); at_builtin; refine Kd.R_append (Kd.int .i64) (w0 := w) w.heap.size rfl (.tmp 13) (.tmp 23) 24 3 (.int .i64 0) 8 rfl Try.underlying24 info3 rfl (by decide) (by omega) u7 x7_1 (wrap64 (t523 + (wrap64 (x8_1 * a2)))) [.int .i64 (wrap64 (t523 + (wrap64 (x8_1 * a2))))] (fun _ => True) (fun _ => False) rfl rfl ?aP (fun _ hk => hk.elim) ?aF ?aO ?aB ?aS ?aL ?_; (case aP => exact rfl); (case aB => exact (Bz HB.out)); (case aF => exact (fun _ _ => trivial)); (case aO => exact (Rz HO_7.out)); (case aS => exact (below_size (Bz HB.out))); (case aL => have := LMc6.out; omega); intro v525 w7 ho hb hg hat; rw [← Ny524.out] at ho; have n0_ := am (hb); have n1_ := am (ho); clear HB HO_7; revert n0_ n1_; intro HB HO526; clear ho hb hg hat))
     go_roundg k1
     case measure => have := HK1.out; omega
     case rel => exact ⟨(y524), (wrap64 (x8_1 + 1)), wZ, H', ⟨by have := HK1.out; omega⟩, ⟨Rz HO526.out⟩, ⟨Bz HB.out⟩⟩
    ·rw [if_neg c6] at H
     exact absurd H (by simp)
   ·rw [if_neg c4] at H
    have c4b0 : decide (x8_1 < 3) = false := decide_eq_false c4; clear c4; obtain rfl := Option.some.inj H
    go_wp2
    go_ret
    exact ⟨_, eZ, Rz HO_7.out, Bz HB.out⟩

def spec_peHyper.l0 : Nat → Int → Int → List ByteArray → Int → Int → Int → List (List Int) → Option (Int × (List (List Int)))
 | 0, _, _, _, _, _, _, _ => none
 | k + 1, x0, x2, x13, x14, x15, x529000, x529001 => if x15 < x14 then (if 0 ≤ x15 then (if x15 < (x13.length : Int) then ((spec_peTriple.f k x0 (rdOf ByteArray.empty x13 x15) x2).bind fun t530 => (if x529001.length < 5864062014805 then (spec_peHyper.l0 k x0 x2 x13 x14 (wrap64 (x15 + 1)) x529000 (x529001 ++ [t530])) else (none))) else (none)) else (none)) else (some (x529000, x529001))
def spec_peHyper.f (k : Nat) (a0 : Int) (l1 : List ByteArray) (a2 : Int) : Option (Int × (List (List Int))) := spec_peHyper.l0 k a0 a2 l1 (l1.length : Int) 0 (wrap64 (3 * a2)) ([] : List (List Int))
def spec_peHyper.T5 : Bool × List (List Nat × List Nat) := (true, [([], []), ([0], [0]), ([], []), ([], []), ([], []), ([2, 3, 4], [2, 3, 4]), ([5], [5]), ([1, 6, 5], [1, 6]), ([0, 1, 2, 3, 4, 5, 6, 7], []), ([8, 7, 7, 0, 1, 2, 3, 4, 5, 6, 7], [7, 8])])
def spec_peHyper.B5 : List Nat := [0, 1, 0, 0, 0, 28, 60, 127, 255, 511]
theorem spec_peHyper.tab5 : rtab .any (opsOf Try.f81 5) = spec_peHyper.T5 := by kernel_rfl
theorem spec_peHyper.bits5 : waitsOk spec_peHyper.T5.2 spec_peHyper.B5 = true := by kernel_rfl
theorem spec_peHyper.calls (k : Nat) (a0 : Int) (A1 : Option Addr) (c1 : Nat) (l1 : List ByteArray) (a2 : Int) (r1 : Int) (r2 : List (List Int)) (w : World) (hr1 : Kd.C Kd.string w A1 l1.length l1) (hc1 : l1.length ≤ c1) (h : spec_peHyper.f k a0 l1 a2 = some (r1, r2)) :
  Calls Try.prog 81 #[.int .i64 a0, .slice A1 l1.length c1, .int .i64 a2] w fun e w' => ∃ v1_ : Value, e = .returned (.agg #[.int .i64 r1, v1_]) ∧ Kd.S (Kd.slice 3 (Kd.int .i64)) 24 w' w.heap.size (fun _ => True) v1_ r2 ∧ Below w.heap.size w w' := by
 have hu33 := Try.underlying33; have HR1 := am hr1; have HC1 := am hc1; clear hr1 hc1; have HB := am (Below.refl w.heap.size w); have H : (spec_peHyper.l0 k a0 a2 l1 (l1.length : Int) 0 (wrap64 (3 * a2)) ([] : List (List Int))) = some (r1, r2) := h; clear h; have H' := am H; clear H
 go_enter Try.func81, Try.ntmps81
 go_wp2_with (first | ((with_reducible refine gate_dst (N := 6) rfl ?_); refine bE 6 #[.int .i64 0, .slice none 0 0] 33 ?_; intro gb527 hg w4 hbox hb; have n0_ := Bb HB hb; have n1_ := am (hbox); have n2_ := Gl HB hg; have n3_ := Gl HB hg; clear HB; revert n0_ n1_ n2_ n3_; intro HB BK527 GW527 GE527; clear hb hbox hg) | ((with_reducible refine gate_dst (N := 7) rfl ?_); refine bE 7 #[.int .i64 0, .slice none 0 0] 33 ?_; intro gb528 hg w5 hbox hb; have n0_ := Kb BK527 hb; have n1_ := Bc HB hb; have n2_ := am (hbox); have n3_ := Gm HB hg; have n4_ := Gm HB hg; have n5_ := Nl BK527 hg; have n6_ := Ng BK527 hg; clear BK527 HB; revert n0_ n1_ n2_ n3_ n4_ n5_ n6_; intro BK527 HB BK528 GW528 GE528 NB527_528 NB528_527; clear hb hbox hg; have hnb6 := NB528_527.out; have hnc6 := NB527_528.out; obtain ⟨hcz7_0, hcz7_1, hfz7_0, hfz7_1⟩ := cf2 (w := w5) BK528))
 (try simp only [aP])
 go_loopg [15] k (fun kq v15 w' => ∃ (x15_1 : Int) (x529001_1 : List (List Int)) (u529001 : Value), v15 = .int .i64 x15_1 ∧ Aside0 (spec_peHyper.l0 kq a0 a2 l1 (l1.length : Int) x15_1 (wrap64 (3 * a2)) x529001_1 = some (r1, r2)) ∧ Aside0 (kq ≤ k) ∧ Aside0 (Kd.S (Kd.slice 3 (Kd.int .i64)) 24 w' w.heap.size (fun _ => True) u529001 x529001_1) ∧ Aside0 (w'.heap[gb527]? = some (.cells #[.int .i64 0, (.slice none 0 0)] 33 (0, 0))) ∧ Aside0 (w'.heap[gb528]? = some (.cells #[.int .i64 (wrap64 (3 * a2)), u529001] 33 (0, 0))) ∧ Aside0 (Below w.heap.size w w'))
 case atStart => exact ⟨(0), (([] : List (List Int))), (.slice none 0 0), wZ, H', ⟨Nat.le_refl _⟩, ⟨by first | exact Kd.S_nil _ _ _ _ _ | exact Kd.N_nil _ _ _ _ _ | exact Kd.V_nil _ _ _ _ _ | exact Kd.Q_nil _ _ _ _ _ | exact Kd.R_nil _ _ _ _ _⟩, ⟨by refine bp ?_; refine blk_far ?_ NB527_528.out _; refine bp ?_; refine blk_far ?_ NB527_528.out _; refine bp ?_; exact BK527.out⟩, ⟨by refine bp ?_; refine blk_put (cs := #[.int .i64 (wrap64 (3 * a2)), .slice none 0 0]) ?_ 1 _ rfl; refine bp ?_; refine blk_put (cs := #[.int .i64 0, .slice none 0 0]) ?_ 0 _ rfl; refine bp ?_; exact BK528.out⟩, ⟨Bq⟩⟩
 case round =>
  clear H'
  try clear c1
  try clear p2
  try clear c6
  try clear p6
  obtain ⟨x15_1, x529001_1, u529001, rfl, HA, HK1, HO_529001, BK527, BK528, HB⟩ := hrel; cases gk with
  | zero => exact absurd HA.out (by simp [spec_peHyper.l0])
  | succ k1 =>
   have H := HA.out; clear HA
   simp only [spec_peHyper.l0] at H
   by_cases c8 : x15_1 < (l1.length : Int)
   ·rw [if_pos c8] at H
    have c8b0 : decide (x15_1 < (l1.length : Int)) = true := decide_eq_true c8; clear c8
    by_cases c9 : 0 ≤ x15_1
    ·rw [if_pos c9] at H
     have c9b0 : decide (0 ≤ x15_1) = true := decide_eq_true c9; clear c9
     by_cases c10 : x15_1 < (l1.length : Int)
     ·rw [if_pos c10] at H
      have c10b0 : decide (x15_1 < (l1.length : Int)) = true := decide_eq_true c10; clear c10; obtain ⟨t530, A11, H⟩ := ob H; (try dsimp -simprocs only at H)
      by_cases c12 : x529001_1.length < 5864062014805
      ·rw [if_pos c12] at H
       have LMc12 := am c12; clear c12; obtain ⟨y533, hy533⟩ : ∃ y_ : List (List Int), y_ = (x529001_1 ++ [t530]) := ⟨_, rfl⟩
       replace H : (spec_peHyper.l0 k1 a0 a2 l1 (l1.length : Int) (wrap64 (x15_1 + 1)) (wrap64 (3 * a2)) y533) = some (r1, r2) := by (try rw [hy533]); first | with_reducible exact H | exact (Option.bind_some _ _).symm.trans H | exact H
       have Ny533 := am hy533; clear hy533; have H' := am H; clear H; have p529 : 0 ≤ (x15_1 : Int) := dT; have q529 : x15_1 < (l1.length : Int) := dT; obtain ⟨ad529, e529, hx529_0⟩ := Kd.at_string HR1.out x15_1 p529 q529; cases e529; replace hx529_0 := (HB.out.cell (World.block_lt_of_cell? w _ hx529_0)).trans hx529_0; replace p529 := eq_true p529; replace q529 := eq_true q529
       try go_wp2
       have n0_ := am (Kd.S_drew HO_529001.out); have n1_ := am (blk_drew BK527.out); have n2_ := am (blk_drew BK528.out); have n3_ := am (below_drew1 HB.out); clear HO_529001 BK527 BK528 HB; revert n0_ n1_ n2_ n3_; intro HO_529001 BK527 BK528 HB; refine start_ (n := 10) (S := fun w' => w'.cell? ⟨gb528, 0, none⟩ = some (.int .i64 (wrap64 (3 * a2))) ∧ w'.cell? ⟨gb528, 1, none⟩ = some (u529001)) (ds := [9]) (bA 10 0) (by kernel_rfl) rfl rfl ⟨cz BK528 0, cz BK528 1⟩ (fun hHeld => ?_); refine with_tabW spec_peHyper.tab5 spec_peHyper.bits5 (fun HT_ HW_ => ?_); generalize wr.drew = w13 at HO_529001 BK527 BK528 HB hHeld ⊢; refine pZ 0 (some 19) (bA 10 1) HT_.out ?_; refine pZ 2 (some 21) (bA 10 5) HT_.out ?_; refine pZ 3 (some 22) (bA 10 13) HT_.out ?_; refine pZ 4 (some 23) (bA 10 29) HT_.out ?_; refine tZ2 1 (some 20) (bA 10 31) HT_.out HW_.out hHeld ?_; refine oZ 5 (some 24) (bA 10 63) HT_.out (fun K hK => ?_); refine gZ Try.func135 #[.int .i64 a0, .string (rdOf ByteArray.empty l1 x15_1), .int .i64 a2] ?_
       with_reducible refine (spec_peTriple.calls k1 a0 (rdOf ByteArray.empty l1 x15_1) a2 t530 _ A11.out).mono ?_
       rintro e w14 ⟨v531, rfl, ho0, hb⟩; refine ⟨_, rfl, ?_⟩; have n0_ := am (Kd.S_elder' (by (with_reducible repeat (first | apply Kd.S_alloc | apply Kd.S_drewN | apply Kd.S_drew)); exact HO_529001.out) (Kd.R_base ho0) hb); have n1_ := Rm ho0 HB; have n2_ := Kb BK527 hb; have n3_ := Kb BK528 hb; have n4_ := Bc HB hb; clear HO_529001 BK527 BK528 HB; revert n0_ n1_ n2_ n3_ n4_; intro HO_529001 HO532 BK527 BK528 HB
       (try clear hb)
       (try clear hb2)
       (try clear hk)
       (try clear hi)
       (try clear ho0)
       obtain ⟨Ao16, co16, eo16⟩ := Kd.R_slice HO532.out
       (first | subst eo16 | (injection eo16 with f1_ f2_ f3_; have f4_ := f1_.symm; have f5_ := f3_.symm; clear f1_ f2_ f3_; subst f4_; subst f5_))
       refine hK.out _ _ ⟨cz BK528 0, cz BK528 1⟩ (fun hHeld => ?_); clear hK K; refine norm_ (a' := ?_) ?_ ?_; rotate_left; show Act.put _ (some 24) _ = _; simp only [aP, i64_w, i32_w]; rfl; refine oZ 6 (some 25) (bA 10 127) HT_.out (fun K hK => ?_); refine value_ (w1 := ?_) (v := ?_) (by rfl) rfl ?_ ?_
       rotate_left 2
       ·go_simp
        constructor
        ·rfl
        ·rfl
       refine hK.out _ _ ⟨(blk_cell (blk_alloc BK528.out _) 0).trans rfl, (blk_cell (blk_alloc BK528.out _) 1).trans rfl⟩ (fun hHeld => ?_); clear hK K; refine norm_ (a' := ?_) ?_ ?_; rotate_left; show Act.put _ (some 25) _ = _; simp only [aP, i64_w, i32_w]; rfl; refine oZ 7 (some 26) (bA 10 255) HT_.out (fun K hK => ?_); refine Kd.S_append_step (Kd.slice 3 (Kd.int .i64)) (w0 := w) w.heap.size (by rfl) (.tmp 20) (.tmp 25) 31 24 (.slice none 0 0) 24 rfl Try.underlying31 info24 rfl (by decide) (by omega) u529001 x529001_1 t530 [.slice Ao16 t530.length co16] (fun _ => True) (fun k_ => some k_ = (.slice Ao16 t530.length co16 : Value).ownBlock) rfl rfl ?aP (fun k_ hk_ => ((Kd.R_mono (ok' := fun k_ => ((fun _ => True)) k_ ∧ some k_ ≠ (u529001 : Value).ownBlock) (Kd.R_apart' (HO532.out) (Kd.S_typed HO_529001.out) (by decide)) (fun k_ hk => ⟨trivial, hk.2⟩))).1 k_ hk_.symm) ?aF ?aO ?aB ?aS ?aL ?_
       (case aP => exact Kd.M_row (Kd.R_mono (Kd.R_tight rfl (Kd.R_mono (ok' := fun k_ => ((fun _ => True)) k_ ∧ some k_ ≠ (u529001 : Value).ownBlock) (Kd.R_apart' (HO532.out) (Kd.S_typed HO_529001.out) (by decide)) (fun k_ hk => ⟨trivial, hk.2⟩))) (fun _ h_ => h_)))
       (case aB => exact (Bq))
       (case aF => exact (fun _ _ => trivial))
       (case aO => exact (by (with_reducible repeat (first | apply Kd.S_alloc | apply Kd.S_drewN | apply Kd.S_drew)); exact Kd.S_mono HO_529001.out (fun k_ hk => ⟨trivial, fun e_ => hk.2 e_⟩)))
       (case aS => exact (below_size (w := w) (Bq)))
       (case aL => have := LMc12.out; omega)
       intro v534 w15 ho hb hg hat; rw [← Ny533.out] at ho; have n0_ := am (blk_grown (g := gb527) (o := .cells #[.int .i64 0, .slice none 0 0] 33 (0, 0)) (Kz BK527.out) hg (Kd.S_ne HO_529001.out BK527.out (by decide))); have n1_ := am (blk_grown (g := gb528) (o := .cells #[.int .i64 (wrap64 (3 * a2)), u529001] 33 (0, 0)) (Kz BK528.out) hg (Kd.S_ne HO_529001.out BK528.out (by decide))); have n2_ := am (hb); have n3_ := am (ho); clear BK527 BK528 HB HO_529001 HO532; revert n0_ n1_ n2_ n3_; intro BK527 BK528 HB HO535; clear ho hb hg hat; obtain ⟨Ao17, co17, eo17⟩ := Kd.S_slice HO535.out
       (first | subst eo17 | (injection eo17 with f1_ f2_ f3_; have f4_ := f1_.symm; have f5_ := f3_.symm; clear f1_ f2_ f3_; subst f4_; subst f5_))
       refine hK.out _ _ ⟨cz BK528 0, cz BK528 1⟩ (fun hHeld => ?_); clear hK K; refine norm_ (a' := ?_) ?_ ?_; rotate_left; show Act.put _ (some 26) _ = _; simp only [aP, i64_w, i32_w]; rfl; refine pZ 8 (some 27) (bA 10 511) HT_.out ?_; refine lZ 9 none (bA 10 1023) HT_.out (fun K hK => ?_); have hs18 : w15.cell? ⟨gb528, 1, none⟩ = some (u529001) := cz BK528 1; have hfs18 := blk_frozen BK528.out 1; have hns18_0 := NB527_528.out; have hms18_0 := NB528_527.out; refine skip_ (w1 := ?_) (by rfl) rfl ?_ ?_
       rotate_left
       ·go_simp
        rfl
       refine hK.out _ _ ?_; clear hK K; refine done_ (done_of HT_.out (by kernel_rfl)) ?_
       try go_wp2
       go_roundg k1
       case measure => have := HK1.out; omega
       case rel => exact ⟨(wrap64 (x15_1 + 1)), (y533), (.slice Ao17 y533.length co17), wZ, H', ⟨by have := HK1.out; omega⟩, ⟨by (with_reducible repeat (first | apply Kd.S_alloc | apply Kd.S_drewN | apply Kd.S_drew)); exact Kd.S_mono (Kd.S_far (p := ⟨gb528, 1, none⟩) (Kd.S_types HO535.out BK528.out (by decide)) (fun _ hk => hk.2) (.slice Ao17 y533.length co17)) (fun _ hk => trivial)⟩, ⟨by refine bp ?_; refine blk_far ?_ NB527_528.out _; refine bp ?_; exact BK527.out⟩, ⟨by refine bp ?_; refine blk_put (cs := #[.int .i64 (wrap64 (3 * a2)), u529001]) ?_ 1 _ rfl; refine bp ?_; exact BK528.out⟩, ⟨Bq⟩⟩
      ·rw [if_neg c12] at H
       exact absurd H (by simp)
     ·rw [if_neg c10] at H
      exact absurd H (by simp)
    ·rw [if_neg c9] at H
     exact absurd H (by simp)
   ·rw [if_neg c8] at H
    have c8b0 : decide (x15_1 < (l1.length : Int)) = false := decide_eq_false c8; clear c8
    simp only [Option.some.injEq, Prod.mk.injEq] at H
    obtain ⟨rfl, rfl⟩ := H; have hnb19 := NB528_527.out; have hnc19 := NB527_528.out; obtain ⟨hcz20_0, hcz20_1, hfz20_0, hfz20_1⟩ := cf2 (w := wr) BK528; obtain ⟨hcz21_0, hcz21_1, hfz21_0, hfz21_1⟩ := cf2 (w := wr) BK527; obtain ⟨Ao22, co22, eo22⟩ := Kd.S_slice HO_529001.out; subst eo22
    go_wp2
    refine bodyPost_ret (results_cell_row rfl _ _ gb527 33 #[.int .i64 (wrap64 (3 * a2)), .slice Ao22 x529001_1.length co22] (0, 0) _ rfl (by refine bp ?_; refine blk_put (cs := #[.int .i64 (wrap64 (3 * a2)), .slice none 0 0]) ?_ 1 _ rfl; refine bp ?_; refine blk_put (cs := #[.int .i64 0, .slice none 0 0]) ?_ 0 _ rfl; exact Kz BK527.out) Try.underlying33 rfl (by kernel_rfl)) rfl ?_; exact ⟨_, eZ, by (with_reducible repeat (first | apply Kd.S_alloc | apply Kd.S_drewN | apply Kd.S_drew)); exact Kd.S_mono (Kd.S_far (p := ⟨gb527, 1, none⟩) (Kd.S_far (p := ⟨gb527, 0, none⟩) (Kd.S_types HO_529001.out BK527.out (by decide)) (fun _ hk => hk.2) (.int .i64 (wrap64 (3 * a2)))) (fun _ hk => hk.2) (.slice Ao22 x529001_1.length co22)) (fun _ hk => trivial), Bq⟩

end Go.Proofs.Ytmehagedoaopeaa.PR
namespace Go.Proofs.Ytmehagedoaopeaa.PR
open Go.RowKit Go.Proofs.YtmehagedoaopeaaW.PrintWords Go.Proofs.YtmehagedoaopeaaW.PrintLast Go.Proofs.YtmehagedoaopeaaW.PrintMore Go.Proofs.YtmehagedoaopeaaSq
attribute [local go_sem] max2_int min2_int max_two min_two max_three min_three max_four min_four   -- for this text's walks alone
attribute [local go_sem] Go.Proofs.YtmehagedoaopeaaGp.str_geq Go.Proofs.YtmehagedoaopeaaGp.str_gtr Go.Proofs.YtmehagedoaopeaaGp.str_leq
set_option linter.unusedVariables false
set_option linter.unusedSimpArgs false

set_option maxHeartbeats 8000000
set_option maxRecDepth 100000
def spec_peAll.l0 : Nat → List Int → Int → Int → Option (List Int)
 | 0, _, _, _ => none
 | k + 1, x3, x7, x8 => if x8 < x7 then (if x3.length < 17592186044416 then (spec_peAll.l0 k (x3 ++ [x8]) x7 (wrap64 (x8 + 1))) else (none)) else (some x3)
def spec_peAll.f (k : Nat) (a0_0 : Int) (l0_1 : List (List Int)) : Option (List Int) := spec_peAll.l0 k ([] : List Int) (l0_1.length : Int) 0
theorem spec_peAll.calls (k : Nat) (a0_0 : Int) (A0_1 : Option Addr) (c0_1 : Nat) (l0_1 : List (List Int)) (r : List Int) (w : World) (hr0_1 : Kd.C (Kd.slice 3 (Kd.int .i64)) w A0_1 l0_1.length l0_1) (hc0_1 : l0_1.length ≤ c0_1) (h : spec_peAll.f k a0_0 l0_1 = some r) :
  Calls Try.prog 148 #[.agg #[.int .i64 a0_0, .slice A0_1 l0_1.length c0_1]] w fun e w' => ∃ v0_ : Value, e = .returned (v0_) ∧ Kd.R (Kd.int .i64) 3 w' w.heap.size (fun _ => True) v0_ r ∧ Below w.heap.size w w' := by
 have hu33 := Try.underlying33; have HR0_1 := am hr0_1; have HC0_1 := am hc0_1; clear hr0_1 hc0_1; have HB := am (Below.refl w.heap.size w); have H : (spec_peAll.l0 k ([] : List Int) (l0_1.length : Int) 0) = some r := h; clear h; have H' := am H; clear H
 go_enter Try.func148, Try.ntmps148
 go_wp2_with (first | ((with_reducible refine gate_dst (N := 1) rfl ?_); refine bE 1 #[.int .i64 a0_0, .slice A0_1 l0_1.length c0_1] 33 ?_; intro gb536 hg w2 hbox hb; have n0_ := Bb HB hb; have n1_ := am (hbox); have n2_ := Gl HB hg; have n3_ := Gl HB hg; clear HB; revert n0_ n1_ n2_ n3_; intro HB BK536 GW536 GE536; clear hb hbox hg; obtain ⟨hcz3_0, hcz3_1, hfz3_0, hfz3_1⟩ := cf2 (w := w2) BK536))
 (try simp only [aP])
 go_loopg [3, 8] k (fun kq v3 v8 w' => ∃ (x3_1 : List Int) (x8_1 : Int), v8 = .int .i64 x8_1 ∧ Aside0 (spec_peAll.l0 kq x3_1 (l0_1.length : Int) x8_1 = some r) ∧ Aside0 (kq ≤ k) ∧ Aside0 (Kd.R (Kd.int .i64) 3 w' w.heap.size (fun _ => True) v3 x3_1) ∧ Aside0 (w'.heap[gb536]? = some (.cells #[.int .i64 a0_0, (.slice A0_1 l0_1.length c0_1)] 33 (0, 0))) ∧ Aside0 (Below w.heap.size w w'))
 case atStart => exact ⟨(([] : List Int)), (0), wZ, H', ⟨Nat.le_refl _⟩, ⟨nZ⟩, ⟨Kz BK536.out⟩, ⟨Bq⟩⟩
 case round =>
  clear H'
  try clear c1
  try clear p2
  obtain ⟨x3_1, x8_1, rfl, HA, HK1, HO_3, BK536, HB⟩ := hrel; cases gk with
  | zero => exact absurd HA.out (by simp [spec_peAll.l0])
  | succ k1 =>
   have H := HA.out; clear HA
   simp only [spec_peAll.l0] at H
   by_cases c4 : x8_1 < (l0_1.length : Int)
   ·rw [if_pos c4] at H
    have c4b0 : decide (x8_1 < (l0_1.length : Int)) = true := decide_eq_true c4; clear c4
    by_cases c5 : x3_1.length < 17592186044416
    ·rw [if_pos c5] at H
     have LMc5 := am c5; clear c5; obtain ⟨y537, hy537⟩ : ∃ y_ : List Int, y_ = (x3_1 ++ [x8_1]) := ⟨_, rfl⟩
     replace H : (spec_peAll.l0 k1 y537 (l0_1.length : Int) (wrap64 (x8_1 + 1))) = some r := by (try rw [hy537]); first | with_reducible exact H | exact (Option.bind_some _ _).symm.trans H | exact H
     have Ny537 := am hy537; clear hy537; have H' := am H; clear H
     go_wp2_with (first | ((with_reducible refine gate_builtin (b := .append) (xs := #[.tmp 11, .tmp 13]) rfl ?_); at_builtin; refine Kd.R_append (Kd.int .i64) (w0 := w) w.heap.size rfl (.tmp 11) (.tmp 13) 24 3 (.int .i64 0) 8 rfl Try.underlying24 info3 rfl (by decide) (by omega) u3 x3_1 x8_1 [.int .i64 x8_1] (fun _ => True) (fun _ => False) rfl rfl ?aP (fun _ hk => hk.elim) ?aF ?aO ?aB ?aS ?aL ?_; (case aP => exact rfl); (case aB => exact (Bq)); (case aF => exact (fun _ _ => trivial)); (case aO => exact (Rz HO_3.out)); (case aS => exact (below_size (w := w) (Bq))); (case aL => have := LMc5.out; omega); intro v538 w6 ho hb hg hat; rw [← Ny537.out] at ho; have n0_ := am (blk_grown (g := gb536) (o := .cells #[.int .i64 a0_0, .slice A0_1 l0_1.length c0_1] 33 (0, 0)) (Kz BK536.out) hg (Kd.R_ne HO_3.out BK536.out (by decide))); have n1_ := am (hb); have n2_ := am (ho); clear BK536 HB HO_3; revert n0_ n1_ n2_; intro BK536 HB HO539; clear ho hb hg hat))
     go_roundg k1
     case measure => have := HK1.out; omega
     case rel => exact ⟨(y537), (wrap64 (x8_1 + 1)), wZ, H', ⟨by have := HK1.out; omega⟩, ⟨Rz HO539.out⟩, ⟨Kz BK536.out⟩, ⟨Bq⟩⟩
    ·rw [if_neg c5] at H
     exact absurd H (by simp)
   ·rw [if_neg c4] at H
    have c4b0 : decide (x8_1 < (l0_1.length : Int)) = false := decide_eq_false c4; clear c4; obtain rfl := Option.some.inj H
    go_wp2
    go_ret
    exact ⟨_, eZ, Rz HO_3.out, Bq⟩

mutual
def spec_peDegrees.l0 : Nat → List Int → List Int → Int → Int → Int → List (List Int) → Option (List Int)
 | 0, _, _, _, _, _, _ => none
 | k + 1, x5, x13, x14, x15, x541000, x541001 => if x15 < x14 then (if 0 ≤ x15 then (if x15 < (x13.length : Int) then (if 0 ≤ (rd x13 x15) then (if (rd x13 x15) < (x541001.length : Int) then (spec_peDegrees.l1 k x5 x13 x14 x15 (rd_L3 x541001 (rd x13 x15)) ((rd_L3 x541001 (rd x13 x15)).length : Int) 0 x541000 x541001) else (none)) else (none)) else (none)) else (none)) else (some x5)
def spec_peDegrees.l1 : Nat → List Int → List Int → Int → Int → List Int → Int → Int → Int → List (List Int) → Option (List Int)
 | 0, _, _, _, _, _, _, _, _, _ => none
 | k + 1, x5, x13, x14, x15, x23, x24, x25, x541000, x541001 => if x25 < x24 then (if 0 ≤ x25 then (if x25 < (x23.length : Int) then (if 0 ≤ (rd x23 x25) then (if (rd x23 x25) < (x5.length : Int) then (spec_peDegrees.l1 k (x5.set ((rd x23 x25) : Int).toNat (wrap64 ((rd x5 (rd x23 x25)) + 1))) x13 x14 x15 x23 x24 (wrap64 (x25 + 1)) x541000 x541001) else (none)) else (none)) else (none)) else (none)) else (spec_peDegrees.l0 k x5 x13 x14 (wrap64 (x15 + 1)) x541000 x541001)
end
def spec_peDegrees.f (k : Nat) (a0_0 : Int) (l0_1 : List (List Int)) (l1 : List Int) : Option (List Int) := if 0 ≤ a0_0 then (if (a0_0 : Int).toNat ≤ 35184372088832 then (spec_peDegrees.l0 k (List.replicate (a0_0 : Int).toNat 0) l1 (l1.length : Int) 0 a0_0 l0_1) else (none)) else (none)
theorem spec_peDegrees.calls (k : Nat) (a0_0 : Int) (A0_1 : Option Addr) (c0_1 : Nat) (l0_1 : List (List Int)) (A1 : Option Addr) (c1 : Nat) (l1 : List Int) (r : List Int) (w : World) (hr0_1 : Kd.C (Kd.slice 3 (Kd.int .i64)) w A0_1 l0_1.length l0_1) (hc0_1 : l0_1.length ≤ c0_1) (hr1 : Kd.C (Kd.int .i64) w A1 l1.length l1) (hc1 : l1.length ≤ c1) (h : spec_peDegrees.f k a0_0 l0_1 l1 = some r) :
  Calls Try.prog 182 #[.agg #[.int .i64 a0_0, .slice A0_1 l0_1.length c0_1], .slice A1 l1.length c1] w fun e w' => ∃ v0_ : Value, e = .returned (v0_) ∧ Kd.R (Kd.int .i64) 3 w' w.heap.size (fun _ => True) v0_ r ∧ Below w.heap.size w w' := by
 have hu33 := Try.underlying33; have HR0_1 := am hr0_1; have HC0_1 := am hc0_1; clear hr0_1 hc0_1; have HR1 := am hr1; have HC1 := am hc1; clear hr1 hc1; have HB := am (Below.refl w.heap.size w); have H : (if 0 ≤ a0_0 then (if (a0_0 : Int).toNat ≤ 35184372088832 then (spec_peDegrees.l0 k (List.replicate (a0_0 : Int).toNat 0) l1 (l1.length : Int) 0 a0_0 l0_1) else (none)) else (none)) = some r := h; clear h
 by_cases c3 : 0 ≤ a0_0
 ·rw [if_pos c3] at H
  have c3b0 := eq_true c3; have c3b1 : decide (0 ≤ a0_0) = true := decide_eq_true c3; clear c3
  by_cases c4 : (a0_0 : Int).toNat ≤ 35184372088832
  ·rw [if_pos c4] at H
   have c4b0 := eq_true c4; have c4b1 : decide ((a0_0 : Int).toNat ≤ 35184372088832) = true := decide_eq_true c4; clear c4; obtain ⟨y541, hy541⟩ : ∃ y_ : List Int, y_ = (List.replicate (a0_0 : Int).toNat 0) := ⟨_, rfl⟩
   replace H : (spec_peDegrees.l0 k y541 l1 (l1.length : Int) 0 a0_0 l0_1) = some r := by (try rw [hy541]); first | with_reducible exact H | exact (Option.bind_some _ _).symm.trans H | exact H
   have Ny541 := am hy541; clear hy541; have H' := am H; clear H
   go_enter Try.func182, Try.ntmps182
   go_wp2_with (first | ((with_reducible refine gate_dst (N := 2) rfl ?_); refine bE 2 #[.int .i64 a0_0, .slice A0_1 l0_1.length c0_1] 33 ?_; intro gb540 hg w5 hbox hb; have n0_ := Bb HB hb; have n1_ := am (hbox); have n2_ := Gl HB hg; have n3_ := Gl HB hg; clear HB; revert n0_ n1_ n2_ n3_; intro HB BK540 GW540 GE540; clear hb hbox hg; obtain ⟨hcz6_0, hcz6_1, hfz6_0, hfz6_1⟩ := cf2 (w := w5) BK540) | ((with_reducible refine gate_dst (N := 12) rfl ?_); refine Kd.R_make (Kd.int .i64) _ 3 rfl (N := 12) rfl 24 _ _ rfl a0_0 rfl rfl Try.underlying24 (.int .i64 0) 8 info3 rfl (by decide) (by omega) 0 (ok := fun _ => True) (okp := fun _ => True) rfl (fun _ hk => hk) trivial (dT) (Nat.le_trans (Nat.mul_le_mul_right _ (dT : a0_0.toNat ≤ 35184372088832)) (by omega)) (Below.refl _ _) (Nat.le_refl _) ?_; intro v542 w7 ho8 hb hg_ hnew_; clear hg_ hnew_; (first | rw [← Ny541.out] at ho8 | (simp only [Int.reduceToNat] at ho8; rw [← Ny541.out] at ho8)); have n0_ := Rm ho8 HB; have n1_ := Kb BK540 hb; have n2_ := Bc HB hb; clear BK540 HB; revert n0_ n1_ n2_; intro HO543 BK540 HB; clear hb ho8))
   (try simp only [aP])
   go_loopg [15] k (fun kq v15 w' => ∃ (x5_1 : List Int) (x15_1 : Int), v15 = .int .i64 x15_1 ∧ Aside0 (spec_peDegrees.l0 kq x5_1 l1 (l1.length : Int) x15_1 a0_0 l0_1 = some r) ∧ Aside0 (kq ≤ k) ∧ Aside0 (Kd.R (Kd.int .i64) 3 w' w.heap.size (fun _ => True) v542 x5_1) ∧ Aside0 (w'.heap[gb540]? = some (.cells #[.int .i64 a0_0, (.slice A0_1 l0_1.length c0_1)] 33 (0, 0))) ∧ Aside0 (Below w.heap.size w w'))
   case atStart => exact ⟨(y541), (0), wZ, H', ⟨Nat.le_refl _⟩, ⟨Rz HO543.out⟩, ⟨Kz BK540.out⟩, ⟨Bq⟩⟩
   case round =>
    clear H'
    try clear c1
    try clear p2
    try clear c3
    try clear c3b0
    try clear c3b1
    try clear c4
    try clear c4b0
    try clear c4b1
    obtain ⟨x5_1, x15_1, rfl, HA, HK1, HO_5, BK540, HB⟩ := hrel; cases gk with
    | zero => exact absurd HA.out (by simp [spec_peDegrees.l0])
    | succ k1 =>
     have H := HA.out; clear HA
     simp only [spec_peDegrees.l0] at H
     by_cases c9 : x15_1 < (l1.length : Int)
     ·rw [if_pos c9] at H
      have c9b0 : decide (x15_1 < (l1.length : Int)) = true := decide_eq_true c9; clear c9
      by_cases c10 : 0 ≤ x15_1
      ·rw [if_pos c10] at H
       have c10b0 : decide (0 ≤ x15_1) = true := decide_eq_true c10; clear c10
       by_cases c11 : x15_1 < (l1.length : Int)
       ·rw [if_pos c11] at H
        have c11b0 : decide (x15_1 < (l1.length : Int)) = true := decide_eq_true c11; clear c11
        by_cases c12 : 0 ≤ (rd l1 x15_1)
        ·rw [if_pos c12] at H
         have c12b0 : decide (0 ≤ (rd l1 x15_1)) = true := decide_eq_true c12; clear c12
         by_cases c13 : (rd l1 x15_1) < (l0_1.length : Int)
         ·rw [if_pos c13] at H
          have c13b0 : decide ((rd l1 x15_1) < (l0_1.length : Int)) = true := decide_eq_true c13; clear c13; have H' := am H; clear H; have p544 : 0 ≤ (x15_1 : Int) := dT; have q544 : x15_1 < (l1.length : Int) := dT; obtain ⟨ad544, e544, hx544_0⟩ := Kd.at_int HR1.out x15_1 p544 q544; cases e544; replace hx544_0 := (HB.out.cell (World.block_lt_of_cell? w _ hx544_0)).trans hx544_0; replace p544 := eq_true p544; replace q544 := eq_true q544; obtain ⟨hcz14_0, hcz14_1, hfz14_0, hfz14_1⟩ := cf2 (w := wr) BK540; have p545 : 0 ≤ ((rd l1 x15_1) : Int) := dT; have q545 : (rd l1 x15_1) < (l0_1.length : Int) := dT; obtain ⟨ad545, A545_0, c545_0, e545, hx545_0, hl545_0, hi545_0⟩ := at_L3 HR0_1.out (rd l1 x15_1) p545 q545; cases e545; replace hx545_0 := (HB.out.cell (World.block_lt_of_cell? w _ hx545_0)).trans hx545_0; have HR545_0 := am hi545_0; have HC545_0 := am hl545_0; clear hi545_0 hl545_0; replace p545 := eq_true p545; replace q545 := eq_true q545
          go_wp2
          go_loopg [25] k1 (fun kq v25 w' => ∃ (x5_2 : List Int) (x25_2 : Int), v25 = .int .i64 x25_2 ∧ Aside0 (spec_peDegrees.l1 kq x5_2 l1 (l1.length : Int) x15_1 (rd_L3 l0_1 (rd l1 x15_1)) ((rd_L3 l0_1 (rd l1 x15_1)).length : Int) x25_2 a0_0 l0_1 = some r) ∧ Aside0 (kq ≤ k1) ∧ Aside0 (Kd.R (Kd.int .i64) 3 w' w.heap.size (fun _ => True) v542 x5_2) ∧ Aside0 (w'.heap[gb540]? = some (.cells #[.int .i64 a0_0, (.slice (some ad545) l0_1.length c0_1)] 33 (0, 0))) ∧ Aside0 (Below w.heap.size w w'))
          case atStart => exact ⟨(x5_1), (0), wZ, H', ⟨Nat.le_refl _⟩, ⟨Rz HO_5.out⟩, ⟨Kz BK540.out⟩, ⟨Bq⟩⟩
          case round =>
           clear H'
           try clear c1
           try clear p2
           try clear c3
           try clear c3b0
           try clear c3b1
           try clear c4
           try clear c4b0
           try clear c4b1
           try clear c5
           try clear p5
           try clear q5
           try clear hx5
           try clear c9
           try clear c9b0
           try clear c10
           try clear c10b0
           try clear c11
           try clear c11b0
           try clear c12
           try clear c12b0
           try clear c13
           try clear c13b0
           try clear hx544_0
           try clear hx545_0
           try clear p2
           try clear p544
           try clear p545
           try clear q544
           try clear q545
           obtain ⟨x5_2, x25_2, rfl, HA, HK2, HO_5, BK540, HB⟩ := hrel; cases gk with
           | zero => exact absurd HA.out (by simp [spec_peDegrees.l1])
           | succ k2 =>
            have H := HA.out; clear HA
            simp only [spec_peDegrees.l1] at H
            by_cases c15 : x25_2 < ((rd_L3 l0_1 (rd l1 x15_1)).length : Int)
            ·rw [if_pos c15] at H
             have c15b0 : decide (x25_2 < ((rd_L3 l0_1 (rd l1 x15_1)).length : Int)) = true := decide_eq_true c15; clear c15
             by_cases c16 : 0 ≤ x25_2
             ·rw [if_pos c16] at H
              have c16b0 : decide (0 ≤ x25_2) = true := decide_eq_true c16; clear c16
              by_cases c17 : x25_2 < ((rd_L3 l0_1 (rd l1 x15_1)).length : Int)
              ·rw [if_pos c17] at H
               have c17b0 : decide (x25_2 < ((rd_L3 l0_1 (rd l1 x15_1)).length : Int)) = true := decide_eq_true c17; clear c17
               by_cases c18 : 0 ≤ (rd (rd_L3 l0_1 (rd l1 x15_1)) x25_2)
               ·rw [if_pos c18] at H
                have c18b0 : decide (0 ≤ (rd (rd_L3 l0_1 (rd l1 x15_1)) x25_2)) = true := decide_eq_true c18; clear c18
                by_cases c19 : (rd (rd_L3 l0_1 (rd l1 x15_1)) x25_2) < (x5_2.length : Int)
                ·rw [if_pos c19] at H
                 have c19b0 : decide ((rd (rd_L3 l0_1 (rd l1 x15_1)) x25_2) < (x5_2.length : Int)) = true := decide_eq_true c19; clear c19; obtain ⟨y548, hy548⟩ : ∃ y_ : List Int, y_ = (x5_2.set ((rd (rd_L3 l0_1 (rd l1 x15_1)) x25_2) : Int).toNat (wrap64 ((rd x5_2 (rd (rd_L3 l0_1 (rd l1 x15_1)) x25_2)) + 1))) := ⟨_, rfl⟩
                 replace H : (spec_peDegrees.l1 k2 y548 l1 (l1.length : Int) x15_1 (rd_L3 l0_1 (rd l1 x15_1)) ((rd_L3 l0_1 (rd l1 x15_1)).length : Int) (wrap64 (x25_2 + 1)) a0_0 l0_1) = some r := by (try rw [hy548]); first | with_reducible exact H | exact (Option.bind_some _ _).symm.trans H | exact H
                 have Ny548 := am hy548; clear hy548; have H' := am H; clear H; have p546 : 0 ≤ (x25_2 : Int) := dT; have q546 : x25_2 < ((rd_L3 l0_1 (rd l1 x15_1)).length : Int) := dT; obtain ⟨ad546, e546, hx546_0⟩ := Kd.at_int HR545_0.out x25_2 p546 q546; cases e546; replace hx546_0 := (HB.out.cell (World.block_lt_of_cell? w _ hx546_0)).trans hx546_0; replace p546 := eq_true p546; replace q546 := eq_true q546; obtain ⟨Ao21, co21, eo21⟩ := Kd.R_slice HO_5.out; subst eo21; obtain ⟨ad547, e547, hx547_0⟩ := Kd.at_int (Kd.R_reads' HO_5.out).2.2 (rd (rd_L3 l0_1 (rd l1 x15_1)) x25_2) dT dT; cases e547; have p547 := eT (0 ≤ ((rd (rd_L3 l0_1 (rd l1 x15_1)) x25_2) : Int)); have q547 := eT ((rd (rd_L3 l0_1 (rd l1 x15_1)) x25_2) < (x5_2.length : Int)); have p20 : 0 ≤ ((rd (rd_L3 l0_1 (rd l1 x15_1)) x25_2) : Int) := dT; have q20 : ((rd (rd_L3 l0_1 (rd l1 x15_1)) x25_2) : Int) < ((x5_2.length : Int) : Int) := dT; obtain ⟨go20, co20, eo20, gb20, gl20, cl20, HG20⟩ := Kd.R_form HO_5.out (by omega)
                 (first | cases eo20 | (injection eo20 with ea_ en_ ec_; (first | subst ea_ | (injection ea_ with ea_; subst ea_)); subst ec_; clear en_))
                 have GB20 := am gb20; have GG20 := am HG20; clear gb20 gl20 HG20
                 (first | simp only [add_plain] at hx547_0 | skip)
                 obtain ⟨hx20_0, hf20_0⟩ := Kd.R_celln 0 HO_5.out ((rd (rd_L3 l0_1 (rd l1 x15_1)) x25_2) : Int) p20 q20; replace p20 := eq_true p20; replace q20 := eq_true q20; have HP22 := Kd.R_putg HO_5.out ((rd (rd_L3 l0_1 (rd l1 x15_1)) x25_2) : Int) (wrap64 ((rd x5_2 (rd (rd_L3 l0_1 (rd l1 x15_1)) x25_2)) + 1))
                 go_wp2_with (first | ((with_reducible refine gate_store (t := 3) (p := 34) rfl ?_); refine store_event (t := 3) (p := 34) (v := ?vo_w23) (w1 := (wr.setCell ⟨go20, ((rd (rd_L3 l0_1 (rd l1 x15_1)) x25_2) : Int).toNat, none⟩ (.int .i64 (wrap64 ((rd x5_2 (rd (rd_L3 l0_1 (rd l1 x15_1)) x25_2)) + 1))))) ?hg ?ho ?hn ?hr ?_; (case ho => rfl); (case hg => rfl); (case hn => rfl); (case hr => first | (go_simp; done) | (go_simp; rfl)); intro w23 hw; have hg : wr.grownBy w23 (some go20) := (by rw [hw]; exact HP22.2); have hp_ : Kd.R (Kd.int .i64) 3 w23 w.heap.size (fun _ => True) (.slice (some ⟨go20, 0, none⟩) x5_2.length co21) y548 := (by rw [hw, Ny548.out]; exact HP22.1); clear HP22; have n0_ := am (hp_); have n1_ := am (blk_grown (g := gb540) (o := .cells #[.int .i64 a0_0, .slice (some ad545) l0_1.length c0_1] 33 (0, 0)) (Kz BK540.out) hg (Kd.R_ne HO_5.out BK540.out (by decide))); have n2_ := am ((by rw [hw]; exact below_set (HB.out) GB20.out : Below w.heap.size w w23)); clear HO_5 BK540 HB; revert n0_ n1_ n2_; intro HO_5 BK540 HB; clear hg hw hp_))
                 go_roundg k2
                 case measure => have := HK1.out; have := HK2.out; omega
                 case rel => exact ⟨(y548), (wrap64 (x25_2 + 1)), wZ, H', ⟨by have := HK1.out; have := HK2.out; omega⟩, ⟨Rz HO_5.out⟩, ⟨Kz BK540.out⟩, ⟨Bq⟩⟩
                ·rw [if_neg c19] at H
                 exact absurd H (by simp)
               ·rw [if_neg c18] at H
                exact absurd H (by simp)
              ·rw [if_neg c17] at H
               exact absurd H (by simp)
             ·rw [if_neg c16] at H
              exact absurd H (by simp)
            ·rw [if_neg c15] at H
             have c15b0 : decide (x25_2 < ((rd_L3 l0_1 (rd l1 x15_1)).length : Int)) = false := decide_eq_false c15; clear c15; have H' := am H; clear H
             go_wp2
             go_roundg k2
             case measure => have := HK1.out; have := HK2.out; omega
             case rel => exact ⟨(x5_2), (wrap64 (x15_1 + 1)), wZ, H', ⟨by have := HK1.out; have := HK2.out; omega⟩, ⟨Rz HO_5.out⟩, ⟨Kz BK540.out⟩, ⟨Bq⟩⟩
         ·rw [if_neg c13] at H
          exact absurd H (by simp)
        ·rw [if_neg c12] at H
         exact absurd H (by simp)
       ·rw [if_neg c11] at H
        exact absurd H (by simp)
      ·rw [if_neg c10] at H
       exact absurd H (by simp)
     ·rw [if_neg c9] at H
      have c9b0 : decide (x15_1 < (l1.length : Int)) = false := decide_eq_false c9; clear c9; obtain rfl := Option.some.inj H
      go_wp2
      go_ret
      exact ⟨_, eZ, Rz HO_5.out, Bq⟩
  ·rw [if_neg c4] at H
   exact absurd H (by simp)
 ·rw [if_neg c3] at H
  exact absurd H (by simp)

def spec_peFree.l0 : Nat → List Int → List Int → Int → Int → Option (List Int)
 | 0, _, _, _, _ => none
 | k + 1, x5, x10, x11, x12 => if x12 < x11 then (if 0 ≤ x12 then (if x12 < (x10.length : Int) then (if (rd x10 x12) = 1 then (if x5.length < 17592186044416 then (spec_peFree.l0 k (x5 ++ [x12]) x10 x11 (wrap64 (x12 + 1))) else (none)) else (spec_peFree.l0 k x5 x10 x11 (wrap64 (x12 + 1)))) else (none)) else (none)) else (some x5)
def spec_peFree.f (k : Nat) (a0_0 : Int) (l0_1 : List (List Int)) (l1 : List Int) : Option (List Int) := (spec_peDegrees.f k a0_0 l0_1 l1).bind fun t550 => (spec_peFree.l0 k ([] : List Int) t550 (t550.length : Int) 0)
theorem spec_peFree.calls (k : Nat) (a0_0 : Int) (A0_1 : Option Addr) (c0_1 : Nat) (l0_1 : List (List Int)) (A1 : Option Addr) (c1 : Nat) (l1 : List Int) (r : List Int) (w : World) (hr0_1 : Kd.C (Kd.slice 3 (Kd.int .i64)) w A0_1 l0_1.length l0_1) (hc0_1 : l0_1.length ≤ c0_1) (hr1 : Kd.C (Kd.int .i64) w A1 l1.length l1) (hc1 : l1.length ≤ c1) (h : spec_peFree.f k a0_0 l0_1 l1 = some r) :
  Calls Try.prog 149 #[.agg #[.int .i64 a0_0, .slice A0_1 l0_1.length c0_1], .slice A1 l1.length c1] w fun e w' => ∃ v0_ : Value, e = .returned (v0_) ∧ Kd.R (Kd.int .i64) 3 w' w.heap.size (fun _ => True) v0_ r ∧ Below w.heap.size w w' := by
 have hu33 := Try.underlying33; have HR0_1 := am hr0_1; have HC0_1 := am hc0_1; clear hr0_1 hc0_1; have HR1 := am hr1; have HC1 := am hc1; clear hr1 hc1; have HB := am (Below.refl w.heap.size w); have H : ((spec_peDegrees.f k a0_0 l0_1 l1).bind fun t550 => (spec_peFree.l0 k ([] : List Int) t550 (t550.length : Int) 0)) = some r := h; clear h; obtain ⟨t550, A3, H⟩ := ob H; (try dsimp -simprocs only at H); have H' := am H; clear H
 go_enter Try.func149, Try.ntmps149
 go_wp2_with (first | ((with_reducible refine gate_dst (N := 2) rfl ?_); refine bE 2 #[.int .i64 a0_0, .slice A0_1 l0_1.length c0_1] 33 ?_; intro gb549 hg w4 hbox hb; have n0_ := Bb HB hb; have n1_ := am (hbox); have n2_ := Gl HB hg; have n3_ := Gl HB hg; clear HB; revert n0_ n1_ n2_ n3_; intro HB BK549 GW549 GE549; clear hb hbox hg; obtain ⟨hcz5_0, hcz5_1, hfz5_0, hfz5_1⟩ := cf2 (w := w4) BK549) | ((with_reducible refine gate_callee (f := 182) rfl ?_); refine gL (some 10) Try.func182 #[.agg #[.int .i64 a0_0, .slice A0_1 l0_1.length c0_1], .slice A1 l1.length c1] ?_; (with_reducible refine (spec_peDegrees.calls k a0_0 _ _ l0_1 _ _ l1 t550 _ ?side1 ?side2 ?side3 ?side4 A3.out).mono ?_); (case side1 => exact Cz (Kd.C_below HR0_1.out HB.out)); (case side2 => exact HC0_1.out); (case side3 => exact Cz (Kd.C_below HR1.out HB.out)); (case side4 => exact HC1.out); rintro e w6 ⟨v551, rfl, ho0, hb⟩; refine ⟨_, rfl, ?_⟩; have n0_ := Rm ho0 HB; have n1_ := Kb BK549 hb; have n2_ := Bc HB hb; clear BK549 HB; revert n0_ n1_ n2_; intro HO552 BK549 HB; (try clear hb); (try clear hb2); (try clear hk); (try clear hi); (try clear ho0); obtain ⟨Ao7, co7, eo7⟩ := Kd.R_slice HO552.out; subst eo7))
 (try simp only [aP])
 go_loopg [5, 12] k (fun kq v5 v12 w' => ∃ (x5_1 : List Int) (x12_1 : Int), v12 = .int .i64 x12_1 ∧ Aside0 (spec_peFree.l0 kq x5_1 t550 (t550.length : Int) x12_1 = some r) ∧ Aside0 (kq ≤ k) ∧ Aside0 (Kd.R (Kd.int .i64) 3 w' w.heap.size (fun k_ => some k_ ≠ ((.slice Ao7 t550.length co7) : Value).ownBlock) v5 x5_1) ∧ Aside0 (Kd.R (Kd.int .i64) 3 w' w.heap.size (fun k_ => some k_ ≠ (v5 : Value).ownBlock) (.slice Ao7 t550.length co7) t550) ∧ Aside0 (w'.heap[gb549]? = some (.cells #[.int .i64 a0_0, (.slice A0_1 l0_1.length c0_1)] 33 (0, 0))) ∧ Aside0 (Below w.heap.size w w'))
 case atStart => exact ⟨(([] : List Int)), (0), wZ, H', ⟨Nat.le_refl _⟩, ⟨nZ⟩, ⟨Rz (Kd.R_mono HO552.out (fun _ hk => (by simp [Value.ownBlock])))⟩, ⟨Kz BK549.out⟩, ⟨Bq⟩⟩
 case round =>
  clear H'
  try clear c1
  try clear p2
  obtain ⟨x5_1, x12_1, rfl, HA, HK1, HO_5, HO_10, BK549, HB⟩ := hrel; cases gk with
  | zero => exact absurd HA.out (by simp [spec_peFree.l0])
  | succ k1 =>
   have H := HA.out; clear HA
   simp only [spec_peFree.l0] at H
   by_cases c8 : x12_1 < (t550.length : Int)
   ·rw [if_pos c8] at H
    have c8b0 : decide (x12_1 < (t550.length : Int)) = true := decide_eq_true c8; clear c8
    by_cases c9 : 0 ≤ x12_1
    ·rw [if_pos c9] at H
     have c9b0 : decide (0 ≤ x12_1) = true := decide_eq_true c9; clear c9
     by_cases c10 : x12_1 < (t550.length : Int)
     ·rw [if_pos c10] at H
      have c10b0 : decide (x12_1 < (t550.length : Int)) = true := decide_eq_true c10; clear c10
      by_cases c11 : (rd t550 x12_1) = 1
      ·rw [if_pos c11] at H
       have c11b0 : ((rd t550 x12_1) == 1) = true := beq_iff_eq.mpr c11; have c11b1 : ((rd t550 x12_1) != 1) = false := bne_eq_false_iff_eq.mpr c11; clear c11
       by_cases c12 : x5_1.length < 17592186044416
       ·rw [if_pos c12] at H
        have LMc12 := am c12; clear c12; obtain ⟨y554, hy554⟩ : ∃ y_ : List Int, y_ = (x5_1 ++ [x12_1]) := ⟨_, rfl⟩
        replace H : (spec_peFree.l0 k1 y554 t550 (t550.length : Int) (wrap64 (x12_1 + 1))) = some r := by (try rw [hy554]); first | with_reducible exact H | exact (Option.bind_some _ _).symm.trans H | exact H
        have Ny554 := am hy554; clear hy554; have H' := am H; clear H; obtain ⟨ad553, e553, hx553_0⟩ := Kd.at_int (Kd.R_reads' HO_10.out).2.2 x12_1 dT dT; cases e553; have p553 := eT (0 ≤ (x12_1 : Int)); have q553 := eT (x12_1 < (t550.length : Int))
        go_wp2_with (first | ((with_reducible refine gate_builtin (b := .append) (xs := #[.tmp 19, .tmp 21]) rfl ?_); at_builtin; refine Kd.R_append (Kd.int .i64) (w0 := w) w.heap.size rfl (.tmp 19) (.tmp 21) 24 3 (.int .i64 0) 8 rfl Try.underlying24 info3 rfl (by decide) (by omega) u5 x5_1 x12_1 [.int .i64 x12_1] (fun k_ => some k_ ≠ (.slice (some ad553) t550.length co7 : Value).ownBlock) (fun _ => False) rfl rfl ?aP (fun _ hk => hk.elim) ?aF ?aO ?aB ?aS ?aL ?_; (case aP => exact rfl); (case aB => exact (Bq)); (case aF => exact (fun k_ hk => Kd.fresh' (Kd.R_lt (Rz HO_10.out)) k_ hk)); (case aO => exact (Rz HO_5.out)); (case aS => exact (below_size (w := w) (Bq))); (case aL => have := LMc12.out; omega); intro v555 w13 ho hb hg hat; rw [← Ny554.out] at ho; have n0_ := am (Kd.R_after (ok := (fun _ => True)) (Rz (Kd.R_mono HO_10.out (fun _ hk => ⟨trivial, hk⟩))) hg hat); have n1_ := am (blk_grown (g := gb549) (o := .cells #[.int .i64 a0_0, .slice A0_1 l0_1.length c0_1] 33 (0, 0)) (Kz BK549.out) hg (Kd.R_ne HO_5.out BK549.out (by decide))); have n2_ := am (hb); have n3_ := am (ho); clear HO_10 BK549 HB HO_5; revert n0_ n1_ n2_ n3_; intro HO_10 BK549 HB HO556; clear ho hb hg hat))
        go_roundg k1
        case measure => have := HK1.out; omega
        case rel => exact ⟨(y554), (wrap64 (x12_1 + 1)), wZ, H', ⟨by have := HK1.out; omega⟩, ⟨Rz HO556.out⟩, ⟨Rz (Kd.R_mono HO_10.out (fun _ hk => hk.2))⟩, ⟨Kz BK549.out⟩, ⟨Bq⟩⟩
       ·rw [if_neg c12] at H
        exact absurd H (by simp)
      ·rw [if_neg c11] at H
       have c11b0 : ((rd t550 x12_1) == 1) = false := beq_eq_false_iff_ne.mpr c11; have c11b1 : ((rd t550 x12_1) != 1) = true := bne_iff_ne.mpr c11; have H' := am H; clear H; obtain ⟨ad553, e553, hx553_0⟩ := Kd.at_int (Kd.R_reads' HO_10.out).2.2 x12_1 dT dT; cases e553; have p553 := eT (0 ≤ (x12_1 : Int)); have q553 := eT (x12_1 < (t550.length : Int))
       go_wp2
       go_roundg k1
       case measure => have := HK1.out; omega
       case rel => exact ⟨(x5_1), (wrap64 (x12_1 + 1)), wZ, H', ⟨by have := HK1.out; omega⟩, ⟨Rz HO_5.out⟩, ⟨Rz HO_10.out⟩, ⟨Kz BK549.out⟩, ⟨Bq⟩⟩
     ·rw [if_neg c10] at H
      exact absurd H (by simp)
    ·rw [if_neg c9] at H
     exact absurd H (by simp)
   ·rw [if_neg c8] at H
    have c8b0 : decide (x12_1 < (t550.length : Int)) = false := decide_eq_false c8; clear c8; obtain rfl := Option.some.inj H
    go_wp2
    go_ret
    exact ⟨_, eZ, Rz (Kd.R_mono HO_5.out (fun _ hk => trivial)), Bq⟩

def spec_l1Has.l0 : Nat → Int → List Int → Int → Int → Option (Bool)
 | 0, _, _, _, _ => none
 | k + 1, x1, x7, x8, x9 => if x9 < x8 then (if 0 ≤ x9 then (if x9 < (x7.length : Int) then (if (rd x7 x9) = x1 then (some true) else (spec_l1Has.l0 k x1 x7 x8 (wrap64 (x9 + 1)))) else (none)) else (none)) else (some false)
def spec_l1Has.f (k : Nat) (l0 : List Int) (a1 : Int) : Option (Bool) := spec_l1Has.l0 k a1 l0 (l0.length : Int) 0
theorem spec_l1Has.calls (k : Nat) (A0 : Option Addr) (c0 : Nat) (l0 : List Int) (a1 : Int) (r : Bool) (w : World) (hr0 : Kd.C (Kd.int .i64) w A0 l0.length l0) (hc0 : l0.length ≤ c0) (h : spec_l1Has.f k l0 a1 = some r) :
  Calls Try.prog 160 #[.slice A0 l0.length c0, .int .i64 a1] w fun e w' => e = .returned (.bool r) ∧ Drawn0 w w' := by
 have HR0 := am hr0; have HC0 := am hc0; clear hr0 hc0; have H : (spec_l1Has.l0 k a1 l0 (l0.length : Int) 0) = some r := h; clear h; have H' := am H; clear H
 go_enter Try.func160, Try.ntmps160
 go_wp2
 go_loopg [9] k (fun kq v9 w' => ∃ (x9_1 : Int), v9 = .int .i64 x9_1 ∧ Aside0 (spec_l1Has.l0 kq a1 l0 (l0.length : Int) x9_1 = some r) ∧ Aside0 (kq ≤ k) ∧ Drawn0 w w')
 case atStart => exact ⟨(0), wZ, H', ⟨Nat.le_refl _⟩, by repeat (first | exact Drawn0.refl _ | apply Drawn0.step)⟩
 case round =>
  clear H'
  try clear c1
  try clear p2
  obtain ⟨x9_1, rfl, HA, HK1, ⟨m1, rfl⟩⟩ := hrel; cases gk with
  | zero => exact absurd HA.out (by simp [spec_l1Has.l0])
  | succ k1 =>
   have H := HA.out; clear HA
   simp only [spec_l1Has.l0] at H
   by_cases c3 : x9_1 < (l0.length : Int)
   ·rw [if_pos c3] at H
    have c3b0 : decide (x9_1 < (l0.length : Int)) = true := decide_eq_true c3; clear c3
    by_cases c4 : 0 ≤ x9_1
    ·rw [if_pos c4] at H
     have c4b0 : decide (0 ≤ x9_1) = true := decide_eq_true c4; clear c4
     by_cases c5 : x9_1 < (l0.length : Int)
     ·rw [if_pos c5] at H
      have c5b0 : decide (x9_1 < (l0.length : Int)) = true := decide_eq_true c5; clear c5
      by_cases c6 : (rd l0 x9_1) = a1
      ·rw [if_pos c6] at H
       have c6b0 : ((rd l0 x9_1) == a1) = true := beq_iff_eq.mpr c6; have c6b1 : ((rd l0 x9_1) != a1) = false := bne_eq_false_iff_eq.mpr c6; clear c6; obtain rfl := Option.some.inj H; obtain ⟨ad557, e557, hx557_0⟩ := Kd.at_int HR0.out x9_1 dT dT; cases e557; have p557 := eT (0 ≤ (x9_1 : Int)); have q557 := eT (x9_1 < (l0.length : Int))
       go_wp2
       go_ret
       exact ⟨by first | rfl | (simp; done) | (simp [*]; done), by repeat (first | exact Drawn0.refl _ | apply Drawn0.step)⟩
      ·rw [if_neg c6] at H
       have c6b0 : ((rd l0 x9_1) == a1) = false := beq_eq_false_iff_ne.mpr c6; have c6b1 : ((rd l0 x9_1) != a1) = true := bne_iff_ne.mpr c6; have H' := am H; clear H; obtain ⟨ad557, e557, hx557_0⟩ := Kd.at_int HR0.out x9_1 dT dT; cases e557; have p557 := eT (0 ≤ (x9_1 : Int)); have q557 := eT (x9_1 < (l0.length : Int))
       go_wp2
       go_roundg k1
       case measure => have := HK1.out; omega
       case rel => exact ⟨(wrap64 (x9_1 + 1)), wZ, H', ⟨by have := HK1.out; omega⟩, by repeat (first | exact Drawn0.refl _ | apply Drawn0.step)⟩
     ·rw [if_neg c5] at H
      exact absurd H (by simp)
    ·rw [if_neg c4] at H
     exact absurd H (by simp)
   ·rw [if_neg c3] at H
    have c3b0 : decide (x9_1 < (l0.length : Int)) = false := decide_eq_false c3; clear c3; obtain rfl := Option.some.inj H
    go_wp2
    go_ret
    exact ⟨by first | rfl | (simp; done) | (simp [*]; done), by repeat (first | exact Drawn0.refl _ | apply Drawn0.step)⟩

def spec_peWith.l0 : Nat → Int → List Int → Int → Int → Int → List (List Int) → Option (Int)
 | 0, _, _, _, _, _, _ => none
 | k + 1, x2, x9, x10, x11, x559000, x559001 => if x11 < x10 then (if 0 ≤ x11 then (if x11 < (x9.length : Int) then (if 0 ≤ (rd x9 x11) then (if (rd x9 x11) < (x559001.length : Int) then ((spec_l1Has.f k (rd_L3 x559001 (rd x9 x11)) x2).bind fun t561 => (if t561 = true then (some (rd x9 x11)) else (spec_peWith.l0 k x2 x9 x10 (wrap64 (x11 + 1)) x559000 x559001))) else (none)) else (none)) else (none)) else (none)) else (some (-1))
def spec_peWith.f (k : Nat) (a0_0 : Int) (l0_1 : List (List Int)) (l1 : List Int) (a2 : Int) : Option (Int) := spec_peWith.l0 k a2 l1 (l1.length : Int) 0 a0_0 l0_1
theorem spec_peWith.calls (k : Nat) (a0_0 : Int) (A0_1 : Option Addr) (c0_1 : Nat) (l0_1 : List (List Int)) (A1 : Option Addr) (c1 : Nat) (l1 : List Int) (a2 : Int) (r : Int) (w : World) (hr0_1 : Kd.C (Kd.slice 3 (Kd.int .i64)) w A0_1 l0_1.length l0_1) (hc0_1 : l0_1.length ≤ c0_1) (hr1 : Kd.C (Kd.int .i64) w A1 l1.length l1) (hc1 : l1.length ≤ c1) (h : spec_peWith.f k a0_0 l0_1 l1 a2 = some r) :
  Calls Try.prog 150 #[.agg #[.int .i64 a0_0, .slice A0_1 l0_1.length c0_1], .slice A1 l1.length c1, .int .i64 a2] w fun e w' => e = .returned (.int .i64 r) ∧ Below w.heap.size w w' := by
 have hu33 := Try.underlying33; have HR0_1 := am hr0_1; have HC0_1 := am hc0_1; clear hr0_1 hc0_1; have HR1 := am hr1; have HC1 := am hc1; clear hr1 hc1; have HB := am (Below.refl w.heap.size w); have H : (spec_peWith.l0 k a2 l1 (l1.length : Int) 0 a0_0 l0_1) = some r := h; clear h; have H' := am H; clear H
 go_enter Try.func150, Try.ntmps150
 go_wp2_with (first | ((with_reducible refine gate_dst (N := 3) rfl ?_); refine bE 3 #[.int .i64 a0_0, .slice A0_1 l0_1.length c0_1] 33 ?_; intro gb558 hg w4 hbox hb; have n0_ := Bb HB hb; have n1_ := am (hbox); have n2_ := Gl HB hg; have n3_ := Gl HB hg; clear HB; revert n0_ n1_ n2_ n3_; intro HB BK558 GW558 GE558; clear hb hbox hg))
 (try simp only [aP])
 go_loopg [11] k (fun kq v11 w' => ∃ (x11_1 : Int), v11 = .int .i64 x11_1 ∧ Aside0 (spec_peWith.l0 kq a2 l1 (l1.length : Int) x11_1 a0_0 l0_1 = some r) ∧ Aside0 (kq ≤ k) ∧ Aside0 (w'.heap[gb558]? = some (.cells #[.int .i64 a0_0, (.slice A0_1 l0_1.length c0_1)] 33 (0, 0))) ∧ Aside0 (Below w.heap.size w w'))
 case atStart => exact ⟨(0), wZ, H', ⟨Nat.le_refl _⟩, ⟨Kz BK558.out⟩, ⟨Bq⟩⟩
 case round =>
  clear H'
  try clear c1
  try clear p2
  obtain ⟨x11_1, rfl, HA, HK1, BK558, HB⟩ := hrel; cases gk with
  | zero => exact absurd HA.out (by simp [spec_peWith.l0])
  | succ k1 =>
   have H := HA.out; clear HA
   simp only [spec_peWith.l0] at H
   by_cases c5 : x11_1 < (l1.length : Int)
   ·rw [if_pos c5] at H
    have c5b0 : decide (x11_1 < (l1.length : Int)) = true := decide_eq_true c5; clear c5
    by_cases c6 : 0 ≤ x11_1
    ·rw [if_pos c6] at H
     have c6b0 : decide (0 ≤ x11_1) = true := decide_eq_true c6; clear c6
     by_cases c7 : x11_1 < (l1.length : Int)
     ·rw [if_pos c7] at H
      have c7b0 : decide (x11_1 < (l1.length : Int)) = true := decide_eq_true c7; clear c7
      by_cases c8 : 0 ≤ (rd l1 x11_1)
      ·rw [if_pos c8] at H
       have c8b0 : decide (0 ≤ (rd l1 x11_1)) = true := decide_eq_true c8; clear c8
       by_cases c9 : (rd l1 x11_1) < (l0_1.length : Int)
       ·rw [if_pos c9] at H
        have c9b0 : decide ((rd l1 x11_1) < (l0_1.length : Int)) = true := decide_eq_true c9; clear c9; obtain ⟨t561, A10, H⟩ := ob H; (try dsimp -simprocs only at H)
        by_cases c11 : t561 = true
        ·subst c11
         rw [if_pos rfl] at H; obtain rfl := Option.some.inj H; have p559 : 0 ≤ (x11_1 : Int) := dT; have q559 : x11_1 < (l1.length : Int) := dT; obtain ⟨ad559, e559, hx559_0⟩ := Kd.at_int HR1.out x11_1 p559 q559; cases e559; replace hx559_0 := (HB.out.cell (World.block_lt_of_cell? w _ hx559_0)).trans hx559_0; replace p559 := eq_true p559; replace q559 := eq_true q559; obtain ⟨hcz12_0, hcz12_1, hfz12_0, hfz12_1⟩ := cf2 (w := wr) BK558; have p560 : 0 ≤ ((rd l1 x11_1) : Int) := dT; have q560 : (rd l1 x11_1) < (l0_1.length : Int) := dT; obtain ⟨ad560, A560_0, c560_0, e560, hx560_0, hl560_0, hi560_0⟩ := at_L3 HR0_1.out (rd l1 x11_1) p560 q560; cases e560; replace hx560_0 := (HB.out.cell (World.block_lt_of_cell? w _ hx560_0)).trans hx560_0; have HR560_0 := am hi560_0; have HC560_0 := am hl560_0; clear hi560_0 hl560_0; replace p560 := eq_true p560; replace q560 := eq_true q560
         go_wp2_with (first | ((with_reducible refine gate_callee (f := 160) rfl ?_); refine gL (some 21) Try.func160 #[.slice A560_0 (rd_L3 l0_1 (rd l1 x11_1)).length c560_0, .int .i64 a2] ?_; (with_reducible refine (spec_l1Has.calls k1 _ _ (rd_L3 l0_1 (rd l1 x11_1)) a2 true _ ?side1 ?side2 A10.out).mono ?_); (case side1 => exact Cz (Kd.C_below HR560_0.out HB.out)); (case side2 => exact HC560_0.out); rintro e w' ⟨rfl, ⟨nd, rfl⟩⟩; refine ⟨_, rfl, ?_⟩))
         go_ret
         exact ⟨eZ, Bq⟩
        ·replace c11 := Bool.eq_false_iff.mpr c11
         subst c11
         rw [if_neg Bool.false_ne_true] at H; have H' := am H; clear H; have p559 : 0 ≤ (x11_1 : Int) := dT; have q559 : x11_1 < (l1.length : Int) := dT; obtain ⟨ad559, e559, hx559_0⟩ := Kd.at_int HR1.out x11_1 p559 q559; cases e559; replace hx559_0 := (HB.out.cell (World.block_lt_of_cell? w _ hx559_0)).trans hx559_0; replace p559 := eq_true p559; replace q559 := eq_true q559; obtain ⟨hcz13_0, hcz13_1, hfz13_0, hfz13_1⟩ := cf2 (w := wr) BK558; have p560 : 0 ≤ ((rd l1 x11_1) : Int) := dT; have q560 : (rd l1 x11_1) < (l0_1.length : Int) := dT; obtain ⟨ad560, A560_0, c560_0, e560, hx560_0, hl560_0, hi560_0⟩ := at_L3 HR0_1.out (rd l1 x11_1) p560 q560; cases e560; replace hx560_0 := (HB.out.cell (World.block_lt_of_cell? w _ hx560_0)).trans hx560_0; have HR560_0 := am hi560_0; have HC560_0 := am hl560_0; clear hi560_0 hl560_0; replace p560 := eq_true p560; replace q560 := eq_true q560
         go_wp2_with (first | ((with_reducible refine gate_callee (f := 160) rfl ?_); refine gL (some 21) Try.func160 #[.slice A560_0 (rd_L3 l0_1 (rd l1 x11_1)).length c560_0, .int .i64 a2] ?_; (with_reducible refine (spec_l1Has.calls k1 _ _ (rd_L3 l0_1 (rd l1 x11_1)) a2 false _ ?side1 ?side2 A10.out).mono ?_); (case side1 => exact Cz (Kd.C_below HR560_0.out HB.out)); (case side2 => exact HC560_0.out); rintro e w' ⟨rfl, ⟨nd, rfl⟩⟩; refine ⟨_, rfl, ?_⟩))
         go_roundg k1
         case measure => have := HK1.out; omega
         case rel => exact ⟨(wrap64 (x11_1 + 1)), wZ, H', ⟨by have := HK1.out; omega⟩, ⟨Kz BK558.out⟩, ⟨Bq⟩⟩
       ·rw [if_neg c9] at H
        exact absurd H (by simp)
      ·rw [if_neg c8] at H
       exact absurd H (by simp)
     ·rw [if_neg c7] at H
      exact absurd H (by simp)
    ·rw [if_neg c6] at H
     exact absurd H (by simp)
   ·rw [if_neg c5] at H
    have c5b0 : decide (x11_1 < (l1.length : Int)) = false := decide_eq_false c5; clear c5; obtain rfl := Option.some.inj H
    go_wp2
    go_ret
    exact ⟨eZ, Bq⟩

def spec_l1Drop.l0 : Nat → Int → List Int → List Int → Int → Int → Option (List Int)
 | 0, _, _, _, _, _ => none
 | k + 1, x1, x5, x8, x9, x10 => if x10 < x9 then (if 0 ≤ x10 then (if x10 < (x8.length : Int) then (if (rd x8 x10) = x1 then (spec_l1Drop.l0 k x1 x5 x8 x9 (wrap64 (x10 + 1))) else (if x5.length < 17592186044416 then (spec_l1Drop.l0 k x1 (x5 ++ [rd x8 x10]) x8 x9 (wrap64 (x10 + 1))) else (none))) else (none)) else (none)) else (some x5)
def spec_l1Drop.f (k : Nat) (l0 : List Int) (a1 : Int) : Option (List Int) := spec_l1Drop.l0 k a1 ([] : List Int) l0 (l0.length : Int) 0
theorem spec_l1Drop.calls (k : Nat) (A0 : Option Addr) (c0 : Nat) (l0 : List Int) (a1 : Int) (r : List Int) (w : World) (hr0 : Kd.C (Kd.int .i64) w A0 l0.length l0) (hc0 : l0.length ≤ c0) (h : spec_l1Drop.f k l0 a1 = some r) :
  Calls Try.prog 151 #[.slice A0 l0.length c0, .int .i64 a1] w fun e w' => ∃ v0_ : Value, e = .returned (v0_) ∧ Kd.R (Kd.int .i64) 3 w' w.heap.size (fun _ => True) v0_ r ∧ Below w.heap.size w w' := by
 have HR0 := am hr0; have HC0 := am hc0; clear hr0 hc0; have HB := am (Below.refl w.heap.size w); have H : (spec_l1Drop.l0 k a1 ([] : List Int) l0 (l0.length : Int) 0) = some r := h; clear h; have H' := am H; clear H
 go_enter Try.func151, Try.ntmps151
 go_wp2
 go_loopg [5, 10] k (fun kq v5 v10 w' => ∃ (x5_1 : List Int) (x10_1 : Int), v10 = .int .i64 x10_1 ∧ Aside0 (spec_l1Drop.l0 kq a1 x5_1 l0 (l0.length : Int) x10_1 = some r) ∧ Aside0 (kq ≤ k) ∧ Aside0 (Kd.R (Kd.int .i64) 3 w' w.heap.size (fun _ => True) v5 x5_1) ∧ Aside0 (Below w.heap.size w w'))
 case atStart => exact ⟨(([] : List Int)), (0), wZ, H', ⟨Nat.le_refl _⟩, ⟨nZ⟩, ⟨Bz HB.out⟩⟩
 case round =>
  clear H'
  try clear c1
  try clear p2
  obtain ⟨x5_1, x10_1, rfl, HA, HK1, HO_5, HB⟩ := hrel; cases gk with
  | zero => exact absurd HA.out (by simp [spec_l1Drop.l0])
  | succ k1 =>
   have H := HA.out; clear HA
   simp only [spec_l1Drop.l0] at H
   by_cases c3 : x10_1 < (l0.length : Int)
   ·rw [if_pos c3] at H
    have c3b0 : decide (x10_1 < (l0.length : Int)) = true := decide_eq_true c3; clear c3
    by_cases c4 : 0 ≤ x10_1
    ·rw [if_pos c4] at H
     have c4b0 : decide (0 ≤ x10_1) = true := decide_eq_true c4; clear c4
     by_cases c5 : x10_1 < (l0.length : Int)
     ·rw [if_pos c5] at H
      have c5b0 : decide (x10_1 < (l0.length : Int)) = true := decide_eq_true c5; clear c5
      by_cases c6 : (rd l0 x10_1) = a1
      ·rw [if_pos c6] at H
       have c6b0 : ((rd l0 x10_1) == a1) = true := beq_iff_eq.mpr c6; have c6b1 : ((rd l0 x10_1) != a1) = false := bne_eq_false_iff_eq.mpr c6; clear c6; have H' := am H; clear H; have p562 : 0 ≤ (x10_1 : Int) := dT; have q562 : x10_1 < (l0.length : Int) := dT; obtain ⟨ad562, e562, hx562_0⟩ := Kd.at_int HR0.out x10_1 p562 q562; cases e562; replace hx562_0 := (HB.out.cell (World.block_lt_of_cell? w _ hx562_0)).trans hx562_0; replace p562 := eq_true p562; replace q562 := eq_true q562
       go_wp2
       go_roundg k1
       case measure => have := HK1.out; omega
       case rel => exact ⟨(x5_1), (wrap64 (x10_1 + 1)), wZ, H', ⟨by have := HK1.out; omega⟩, ⟨Rz HO_5.out⟩, ⟨Bz HB.out⟩⟩
      ·rw [if_neg c6] at H
       have c6b0 : ((rd l0 x10_1) == a1) = false := beq_eq_false_iff_ne.mpr c6; have c6b1 : ((rd l0 x10_1) != a1) = true := bne_iff_ne.mpr c6
       by_cases c7 : x5_1.length < 17592186044416
       ·rw [if_pos c7] at H
        have LMc7 := am c7; clear c7; obtain ⟨y563, hy563⟩ : ∃ y_ : List Int, y_ = (x5_1 ++ [rd l0 x10_1]) := ⟨_, rfl⟩
        replace H : (spec_l1Drop.l0 k1 a1 y563 l0 (l0.length : Int) (wrap64 (x10_1 + 1))) = some r := by (try rw [hy563]); first | with_reducible exact H | exact (Option.bind_some _ _).symm.trans H | exact H
        have Ny563 := am hy563; clear hy563; have H' := am H; clear H; have p562 : 0 ≤ (x10_1 : Int) := dT; have q562 : x10_1 < (l0.length : Int) := dT; obtain ⟨ad562, e562, hx562_0⟩ := Kd.at_int HR0.out x10_1 p562 q562; cases e562; replace hx562_0 := (HB.out.cell (World.block_lt_of_cell? w _ hx562_0)).trans hx562_0; replace p562 := eq_true p562; replace q562 := eq_true q562
        go_wp2_with (first | ((with_reducible refine gate_builtin (b := .append) (xs := #[.tmp 17, .tmp 19]) rfl ?_); at_builtin; refine Kd.R_append (Kd.int .i64) (w0 := w) w.heap.size rfl (.tmp 17) (.tmp 19) 24 3 (.int .i64 0) 8 rfl Try.underlying24 info3 rfl (by decide) (by omega) u5 x5_1 (rd l0 x10_1) [.int .i64 (rd l0 x10_1)] (fun _ => True) (fun _ => False) rfl rfl ?aP (fun _ hk => hk.elim) ?aF ?aO ?aB ?aS ?aL ?_; (case aP => exact rfl); (case aB => exact (Bz HB.out)); (case aF => exact (fun _ _ => trivial)); (case aO => exact (Rz HO_5.out)); (case aS => exact (below_size (Bz HB.out))); (case aL => have := LMc7.out; omega); intro v564 w8 ho hb hg hat; rw [← Ny563.out] at ho; have n0_ := am (hb); have n1_ := am (ho); clear HB HO_5; revert n0_ n1_; intro HB HO565; clear ho hb hg hat))
        go_roundg k1
        case measure => have := HK1.out; omega
        case rel => exact ⟨(y563), (wrap64 (x10_1 + 1)), wZ, H', ⟨by have := HK1.out; omega⟩, ⟨Rz HO565.out⟩, ⟨Bz HB.out⟩⟩
       ·rw [if_neg c7] at H
        exact absurd H (by simp)
     ·rw [if_neg c5] at H
      exact absurd H (by simp)
    ·rw [if_neg c4] at H
     exact absurd H (by simp)
   ·rw [if_neg c3] at H
    have c3b0 : decide (x10_1 < (l0.length : Int)) = false := decide_eq_false c3; clear c3; obtain rfl := Option.some.inj H
    go_wp2
    go_ret
    exact ⟨_, eZ, Rz HO_5.out, Bz HB.out⟩

mutual
def spec_pePeel.l0 : Nat → List Int → Bool → List (S118) → List Int → Int → Int → List (List Int) → Option ((List (S118)) × List Int)
 | 0, _, _, _, _, _, _, _ => none
 | k + 1, x1, x2, x8, x9, x10, x567000, x567001 => if x2 = true then (spec_pePeel.j1 k x1 x2 x8 x9 x10 true x567000 x567001) else (spec_pePeel.j1 k x1 x2 x8 x9 x10 (decide (x10 < (x1.length : Int))) x567000 x567001)
def spec_pePeel.j1 : Nat → List Int → Bool → List (S118) → List Int → Int → Bool → Int → List (List Int) → Option ((List (S118)) × List Int)
 | 0, _, _, _, _, _, _, _, _ => none
 | k + 1, x1, x2, x8, x9, x10, x22, x567000, x567001 => if x22 = true then ((spec_peFree.f k x567000 x567001 x9).bind fun t570 => (if (t570.length : Int) = 0 then (some (x8, x9)) else (if x10 < (x1.length : Int) then (if 0 ≤ x10 then (if 0 ≤ (Int.tmod (rd x1 x10) (t570.length : Int)) then (if (Int.tmod (rd x1 x10) (t570.length : Int)) < (t570.length : Int) then ((spec_peWith.f k x567000 x567001 x9 (rd t570 (Int.tmod (rd x1 x10) (t570.length : Int)))).bind fun t575 => (if x8.length < 8796093022208 then ((spec_l1Drop.f k x9 t575).bind fun t581 => (spec_pePeel.l0 k x1 x2 (x8 ++ [(⟨t575, rd t570 (Int.tmod (rd x1 x10) (t570.length : Int))⟩ : S118)]) t581 (wrap64 (x10 + 1)) x567000 x567001)) else (none))) else (none)) else (none)) else (none)) else (if 0 < (t570.length : Int) then ((spec_peWith.f k x567000 x567001 x9 (rd t570 0)).bind fun t585 => (if x8.length < 8796093022208 then ((spec_l1Drop.f k x9 t585).bind fun t591 => (spec_pePeel.l0 k x1 x2 (x8 ++ [(⟨t585, rd t570 0⟩ : S118)]) t591 (wrap64 (x10 + 1)) x567000 x567001)) else (none))) else (none))))) else (some (x8, x9))
end
def spec_pePeel.f (k : Nat) (a0_0 : Int) (l0_1 : List (List Int)) (l1 : List Int) (a2 : Bool) : Option ((List (S118)) × List Int) := (spec_peAll.f k a0_0 l0_1).bind fun t567 => (spec_pePeel.l0 k l1 a2 ([] : List (S118)) t567 0 a0_0 l0_1)
def spec_pePeel.T11 : Bool × List (List Nat × List Nat) := (true, [([], []), ([], []), ([], []), ([], []), ([2, 3], [2, 3]), ([4], [4]), ([0, 1, 5], [0, 1, 5]), ([], []), ([], []), ([7, 8], [7, 8]), ([9], [9]), ([6, 10], [6, 10]), ([], []), ([12, 11, 6, 0, 1, 2, 3, 4, 5, 6, 7, 8, 9, 10, 11, 12], [11, 12])])
def spec_pePeel.B11 : List Nat := [0, 0, 0, 0, 12, 28, 63, 0, 0, 384, 896, 2047, 0, 8191]
theorem spec_pePeel.tab11 : rtab .any (opsOf Try.f82 11) = spec_pePeel.T11 := by kernel_rfl
theorem spec_pePeel.bits11 : waitsOk spec_pePeel.T11.2 spec_pePeel.B11 = true := by kernel_rfl
theorem spec_pePeel.calls (k : Nat) (a0_0 : Int) (A0_1 : Option Addr) (c0_1 : Nat) (l0_1 : List (List Int)) (A1 : Option Addr) (c1 : Nat) (l1 : List Int) (a2 : Bool) (r1 : List (S118)) (r2 : List Int) (w : World) (hr0_1 : Kd.C (Kd.slice 3 (Kd.int .i64)) w A0_1 l0_1.length l0_1) (hc0_1 : l0_1.length ≤ c0_1) (hr1 : Kd.C (Kd.int .i64) w A1 l1.length l1) (hc1 : l1.length ≤ c1) (h : spec_pePeel.f k a0_0 l0_1 l1 a2 = some (r1, r2)) :
  Calls Try.prog 82 #[.agg #[.int .i64 a0_0, .slice A0_1 l0_1.length c0_1], .slice A1 l1.length c1, .bool a2] w fun e w' => ∃ v0_ v1_ : Value, e = .returned (.tuple #[v0_, v1_]) ∧ Kd.R k118 118 w' w.heap.size (fun _ => True) v0_ r1 ∧ Kd.R (Kd.int .i64) 3 w' w.heap.size (fun _ => True) v1_ r2 ∧ Below w.heap.size w w' := by
 have hu33 := Try.underlying33; have hu118 := Try.underlying118; have HR0_1 := am hr0_1; have HC0_1 := am hc0_1; clear hr0_1 hc0_1; have HR1 := am hr1; have HC1 := am hc1; clear hr1 hc1; have HB := am (Below.refl w.heap.size w); have H : ((spec_peAll.f k a0_0 l0_1).bind fun t567 => (spec_pePeel.l0 k l1 a2 ([] : List (S118)) t567 0 a0_0 l0_1)) = some (r1, r2) := h; clear h; obtain ⟨t567, A4, H⟩ := ob H; (try dsimp -simprocs only at H); have H' := am H; clear H
 go_enter Try.func82, Try.ntmps82
 go_wp2_with (first | ((with_reducible refine gate_dst (N := 3) rfl ?_); (try (refine gate_guard (by rfl) ?_; dsimp only)); refine bE 3 #[.int .i64 a0_0, .slice A0_1 l0_1.length c0_1] 33 ?_; intro gb566 hg w5 hbox hb; have n0_ := Bb HB hb; have n1_ := am (hbox); have n2_ := Gl HB hg; have n3_ := Gl HB hg; clear HB; revert n0_ n1_ n2_ n3_; intro HB BK566 GW566 GE566; clear hb hbox hg; obtain ⟨hcz6_0, hcz6_1, hfz6_0, hfz6_1⟩ := cf2 (w := w5) BK566) | ((with_reducible refine gate_callee (f := 148) rfl ?_); refine gL (some 15) Try.func148 #[.agg #[.int .i64 a0_0, .slice A0_1 l0_1.length c0_1]] ?_; (with_reducible refine (spec_peAll.calls k a0_0 _ _ l0_1 t567 _ ?side1 ?side2 A4.out).mono ?_); (case side1 => exact Cz (Kd.C_below HR0_1.out HB.out)); (case side2 => exact HC0_1.out); rintro e w7 ⟨v568, rfl, ho0, hb⟩; refine ⟨_, rfl, ?_⟩; have n0_ := Rm ho0 HB; have n1_ := Kb BK566 hb; have n2_ := Bc HB hb; clear BK566 HB; revert n0_ n1_ n2_; intro HO569 BK566 HB; (try clear hb); (try clear hb2); (try clear hk); (try clear hi); (try clear ho0)))
 (try simp only [aP])
 go_loopg [8, 9, 10] k (fun kq v8 v9 v10 w' => ∃ (x8_1 : List (S118)) (x9_1 : List Int) (x10_1 : Int), v10 = .int .i64 x10_1 ∧ Aside0 (spec_pePeel.l0 kq l1 a2 x8_1 x9_1 x10_1 a0_0 l0_1 = some (r1, r2)) ∧ Aside0 (kq ≤ k) ∧ Aside0 (Kd.R k118 118 w' w.heap.size (fun _ => True) v8 x8_1) ∧ Aside0 (Kd.R (Kd.int .i64) 3 w' w.heap.size (fun _ => True) v9 x9_1) ∧ Aside0 (w'.heap[gb566]? = some (.cells #[.int .i64 a0_0, (.slice A0_1 l0_1.length c0_1)] 33 (0, 0))) ∧ Aside0 (Below w.heap.size w w'))
 case atStart => exact ⟨(([] : List (S118))), (t567), (0), wZ, H', ⟨Nat.le_refl _⟩, ⟨nZ⟩, ⟨Rz HO569.out⟩, ⟨Kz BK566.out⟩, ⟨Bq⟩⟩
 case round =>
  clear H'
  try clear c1
  try clear p2
  obtain ⟨x8_1, x9_1, x10_1, rfl, HA, HK1, HO_8, HO_9, BK566, HB⟩ := hrel; cases gk with
  | zero => exact absurd HA.out (by simp [spec_pePeel.l0])
  | succ k1 =>
   have H := HA.out; clear HA
   simp only [spec_pePeel.l0] at H
   have HC8 := am H; clear H
   go_upto_region 4 with (fail)
   go_cut [22] (fun v22 wc => ∃ (kq : Nat) (x22_7 : Bool), v22 = .bool x22_7 ∧ Aside0 (spec_pePeel.j1 kq l1 a2 x8_1 x9_1 x10_1 x22_7 a0_0 l0_1 = some (r1, r2)) ∧ Aside0 (kq ≤ k1) ∧ Aside0 (Kd.R k118 118 wc w.heap.size (fun _ => True) u8 x8_1) ∧ Aside0 (Kd.R (Kd.int .i64) 3 wc w.heap.size (fun _ => True) u9 x9_1) ∧ Aside0 (wc.heap[gb566]? = some (.cells #[.int .i64 a0_0, (.slice A0_1 l0_1.length c0_1)] 33 (0, 0))) ∧ Aside0 (Below w.heap.size w wc))
   case first =>
    have H := HC8.out; clear HC8
    by_cases c9 : a2 = true
    ·subst c9
     rw [if_pos rfl] at H; have H' := am H; clear H
     go_wp2
     go_meet
     case rel => exact ⟨_, (true), wZ, H', ⟨by have := HK1.out; first | omega | exact Nat.le_refl _⟩, ⟨Rz HO_8.out⟩, ⟨Rz HO_9.out⟩, ⟨Kz BK566.out⟩, ⟨Bq⟩⟩
    ·replace c9 := Bool.eq_false_iff.mpr c9
     subst c9
     rw [if_neg Bool.false_ne_true] at H; have H' := am H; clear H
     go_wp2
     go_meet
     case rel => exact ⟨_, (decide (x10_1 < (l1.length : Int))), wZ, H', ⟨by have := HK1.out; first | omega | exact Nat.le_refl _⟩, ⟨Rz HO_8.out⟩, ⟨Rz HO_9.out⟩, ⟨Kz BK566.out⟩, ⟨Bq⟩⟩
   case rest =>
    clear HC8
    try clear c1
    try clear p2
    try clear c8
    try clear c9
    try clear p2
    obtain ⟨kq, x22_7, rfl, HA, HJ7, HO_8, HO_9, BK566, HB⟩ := hcut; cases kq with
    | zero => exact absurd HA.out (by simp [spec_pePeel.j1])
    | succ kj7 =>
     have H := HA.out; clear HA
     simp only [spec_pePeel.j1] at H
     by_cases c10 : x22_7 = true
     ·subst c10
      rw [if_pos rfl] at H; obtain ⟨t570, A11, H⟩ := ob H; (try dsimp -simprocs only at H)
      by_cases c12 : (t570.length : Int) = 0
      ·rw [if_pos c12] at H
       have c12b0 : ((t570.length : Int) == 0) = true := beq_iff_eq.mpr c12; have c12b1 : ((t570.length : Int) != 0) = false := bne_eq_false_iff_eq.mpr c12; clear c12
       simp only [Option.some.injEq, Prod.mk.injEq] at H
       obtain ⟨rfl, rfl⟩ := H; obtain ⟨hcz13_0, hcz13_1, hfz13_0, hfz13_1⟩ := cf2 (w := wc) BK566; obtain ⟨Ao14, co14, eo14⟩ := Kd.R_slice HO_9.out; subst eo14
       go_wp2_with (first | ((with_reducible refine gate_callee (f := 149) rfl ?_); refine gL (some 27) Try.func149 #[.agg #[.int .i64 a0_0, .slice A0_1 l0_1.length c0_1], .slice Ao14 x9_1.length co14] ?_; (with_reducible refine (spec_peFree.calls kj7 a0_0 _ _ l0_1 _ _ x9_1 t570 _ ?side1 ?side2 ?side3 ?side4 A11.out).mono ?_); (case side1 => exact Cz (Kd.C_below HR0_1.out HB.out)); (case side2 => exact HC0_1.out); (case side3 => exact Cz ((Kd.R_reads' HO_9.out).2.2)); (case side4 => exact (Kd.R_reads' HO_9.out).2.1); rintro e w15 ⟨v571, rfl, ho0, hb⟩; refine ⟨_, rfl, ?_⟩; have n0_ := Rb HO_8 hb; have n1_ := Re HO_9 (Kd.R_base ho0) hb; have n2_ := Rm (Kd.R_new' ho0 (Kd.R_lt (Rz HO_9.out))) HB; have n3_ := Kb BK566 hb; have n4_ := Bc HB hb; clear HO_8 HO_9 BK566 HB; revert n0_ n1_ n2_ n3_ n4_; intro HO_8 HO_9 HO572 BK566 HB; (try clear hb); (try clear hb2); (try clear hk); (try clear hi); (try clear ho0); obtain ⟨Ao16, co16, eo16⟩ := Kd.R_slice HO572.out; subst eo16))
       go_ret2
       exact ⟨_, _, eZ, Rz HO_8.out, Rz (Kd.R_mono HO_9.out (fun _ hk => trivial)), Bq⟩
      ·rw [if_neg c12] at H
       have c12b0 : ((t570.length : Int) == 0) = false := beq_eq_false_iff_ne.mpr c12; have c12b1 : ((t570.length : Int) != 0) = true := bne_iff_ne.mpr c12
       have c12b2 : ¬ (t570 = []) := fun h_ => c12 (by rw [h_]; rfl)
       by_cases c17 : x10_1 < (l1.length : Int)
       ·rw [if_pos c17] at H
        have c17b0 : decide (x10_1 < (l1.length : Int)) = true := decide_eq_true c17; clear c17
        by_cases c18 : 0 ≤ x10_1
        ·rw [if_pos c18] at H
         have c18b0 : decide (0 ≤ x10_1) = true := decide_eq_true c18; clear c18; obtain ⟨ji19, hji19⟩ : ∃ j_ : Int, (Int.tmod (rd l1 x10_1) (t570.length : Int)) = j_ := ⟨_, rfl⟩
         replace H : (if 0 ≤ (ji19) then (if (ji19) < (t570.length : Int) then ((spec_peWith.f kj7 a0_0 l0_1 x9_1 (rd t570 (ji19))).bind fun t575 => (if x8_1.length < 8796093022208 then ((spec_l1Drop.f kj7 x9_1 t575).bind fun t581 => (spec_pePeel.l0 kj7 l1 a2 (x8_1 ++ [(⟨t575, rd t570 (ji19)⟩ : S118)]) t581 (wrap64 (x10_1 + 1)) a0_0 l0_1)) else (none))) else (none)) else (none)) = some (r1, r2) := by first | (rw [hji19] at H; exact H) | (simp only [hji19] at H ⊢; exact H)
         (try rw [hji19] at A11)
         by_cases c20 : 0 ≤ (ji19)
         ·rw [if_pos c20] at H
          have c20b0 : decide (0 ≤ (ji19)) = true := decide_eq_true c20; clear c20
          by_cases c21 : (ji19) < (t570.length : Int)
          ·rw [if_pos c21] at H
           have c21b0 : decide ((ji19) < (t570.length : Int)) = true := decide_eq_true c21; clear c21; obtain ⟨t575, A22, H⟩ := ob H; (try dsimp -simprocs only at H)
           by_cases c23 : x8_1.length < 8796093022208
           ·rw [if_pos c23] at H
            have LMc23 := am c23; clear c23; obtain ⟨y578, hy578⟩ : ∃ y_ : List (S118), y_ = (x8_1 ++ [(⟨t575, rd t570 (ji19)⟩ : S118)]) := ⟨_, rfl⟩
            replace H : ((spec_l1Drop.f kj7 x9_1 t575).bind fun t581 => (spec_pePeel.l0 kj7 l1 a2 y578 t581 (wrap64 (x10_1 + 1)) a0_0 l0_1)) = some (r1, r2) := by (try rw [hy578]); first | with_reducible exact H | exact (Option.bind_some _ _).symm.trans H | exact H
            have Ny578 := am hy578; clear hy578; obtain ⟨t581, A24, H⟩ := ob H; (try dsimp -simprocs only at H); have H' := am H; clear H; obtain ⟨hcz25_0, hcz25_1, hfz25_0, hfz25_1⟩ := cf2 (w := wc) BK566; obtain ⟨Ao26, co26, eo26⟩ := Kd.R_slice HO_9.out; subst eo26
            try go_wp2_with (first | ((with_reducible refine gate_callee (f := 149) rfl ?_); refine gL (some 27) Try.func149 #[.agg #[.int .i64 a0_0, .slice A0_1 l0_1.length c0_1], .slice Ao26 x9_1.length co26] ?_; (with_reducible refine (spec_peFree.calls kj7 a0_0 _ _ l0_1 _ _ x9_1 t570 _ ?side1 ?side2 ?side3 ?side4 A11.out).mono ?_); (case side1 => exact Cz (Kd.C_below HR0_1.out HB.out)); (case side2 => exact HC0_1.out); (case side3 => exact Cz ((Kd.R_reads' HO_9.out).2.2)); (case side4 => exact (Kd.R_reads' HO_9.out).2.1); rintro e w27 ⟨v571, rfl, ho0, hb⟩; refine ⟨_, rfl, ?_⟩; have n0_ := Rb HO_8 hb; have n1_ := Re HO_9 (Kd.R_base ho0) hb; have n2_ := Rm (Kd.R_new' ho0 (Kd.R_lt (Rz HO_9.out))) HB; have n3_ := Kb BK566 hb; have n4_ := Bc HB hb; clear HO_8 HO_9 BK566 HB; revert n0_ n1_ n2_ n3_ n4_; intro HO_8 HO_9 HO572 BK566 HB; (try clear hb); (try clear hb2); (try clear hk); (try clear hi); (try clear ho0); obtain ⟨Ao28, co28, eo28⟩ := Kd.R_slice HO572.out; subst eo28; have p573 : 0 ≤ (x10_1 : Int) := dT; have q573 : x10_1 < (l1.length : Int) := dT; obtain ⟨ad573, e573, hx573_0⟩ := Kd.at_int HR1.out x10_1 p573 q573; cases e573; replace hx573_0 := (HB.out.cell (World.block_lt_of_cell? w _ hx573_0)).trans hx573_0; replace p573 := eq_true p573; replace q573 := eq_true q573))
            have n0_ := am (Kd.R_drew HO_8.out); have n1_ := am (Kd.R_drew HO_9.out); have n2_ := am (Kd.R_drew HO572.out); have n3_ := am (blk_drew BK566.out); have n4_ := am (below_drew1 HB.out); clear HO_8 HO_9 HO572 BK566 HB; revert n0_ n1_ n2_ n3_ n4_; intro HO_8 HO_9 HO572 BK566 HB; obtain ⟨ad574, e574, hx574_0⟩ := Kd.at_int (Kd.R_reads' HO572.out).2.2 (ji19) dT dT; cases e574; have p574 := eT (0 ≤ ((ji19) : Int)); have q574 := eT ((ji19) < (t570.length : Int)); have p576 : 0 ≤ ((ji19) : Int) := dT; have q576 : (ji19) < (t570.length : Int) := dT; obtain ⟨ad576, e576, hx576_0⟩ := Kd.at_int (Kd.R_reads' HO572.out).2.2 (ji19) p576 q576; obtain rfl : ad574 = ad576 := (by injection e576); replace p576 := eq_true p576; replace q576 := eq_true q576; refine start_ (n := 14) (S := fun w' => w'.cell? ⟨gb566, 0, none⟩ = some (.int .i64 a0_0) ∧ w'.cell? ⟨gb566, 1, none⟩ = some (.slice A0_1 l0_1.length c0_1) ∧ w'.cell? (ad574.add ((ji19)).toNat) = some (.int .i64 (rd t570 (ji19))) ∧ w'.cell? (ad574.add ((ji19)).toNat) = some (.int .i64 (rd t570 (ji19)))) (ds := []) (bA 14 0) (by kernel_rfl) rfl rfl ⟨cz BK566 0, cz BK566 1, hx574_0, hx576_0⟩ (fun hHeld => ?_); refine with_tabW spec_pePeel.tab11 spec_pePeel.bits11 (fun HT_ HW_ => ?_); generalize w27.drew = w29 at HO_8 HO_9 HO572 BK566 HB hx574_0 hx576_0 hHeld ⊢; refine pZ 1 (some 43) (bA 14 2) HT_.out ?_; refine pZ 2 (some 44) (bA 14 6) HT_.out ?_; refine pZ 3 (some 45) (bA 14 14) HT_.out ?_; refine pZ 4 (some 46) (bA 14 30) HT_.out ?_; refine pZ 7 (some 49) (bA 14 158) HT_.out ?_; refine pZ 8 (some 50) (bA 14 414) HT_.out ?_; refine pZ 9 (some 51) (bA 14 926) HT_.out ?_; refine tZ4 0 (some 42) (bA 14 927) HT_.out HW_.out hHeld ?_; refine tZ4 5 (some 47) (bA 14 959) HT_.out HW_.out hHeld ?_; refine tZ4 10 (some 52) (bA 14 1983) HT_.out HW_.out hHeld ?_; refine join_ (σ := Nat) 1 (bA 14 8191) (fun s_ => [(48, .int .i64 t575), (13, .pointer (some ⟨s_, 0, none⟩)), (53, .agg #[.int .i64 t575, .int .i64 (rd t570 (ji19))])]) (fun s_ w' => (w'.cell? ⟨gb566, 0, none⟩ = some (.int .i64 a0_0) ∧ w'.cell? ⟨gb566, 1, none⟩ = some (.slice A0_1 l0_1.length c0_1) ∧ w'.cell? (ad574.add ((ji19)).toNat) = some (.int .i64 (rd t570 (ji19))) ∧ w'.cell? (ad574.add ((ji19)).toNat) = some (.int .i64 (rd t570 (ji19)))) ∧ (Kd.R (Kd.int .i64) 3 w' w.heap.size (fun k_ => some k_ ≠ (.slice Ao26 x9_1.length co26 : Value).ownBlock) (.slice (some ad574) t570.length co28) t570) ∧ (Kd.R k118 118 w' w.heap.size (fun k_ => k_ ≠ s_) u8 x8_1) ∧ (Kd.R (Kd.int .i64) 3 w' w.heap.size (fun k_ => some k_ ≠ (.slice (some ad574) t570.length co28 : Value).ownBlock) (.slice Ao26 x9_1.length co26) x9_1) ∧ (w'.heap[gb566]? = some (.cells #[.int .i64 a0_0, .slice A0_1 l0_1.length c0_1] 33 (0, 0))) ∧ (w'.heap[s_]? = some (.cells #[.int .i64 0, .int .i64 0] 118 (0, 0))) ∧ (w.heap.size ≤ s_) ∧ (w.heap.size ≤ s_) ∧ (gb566 ≠ s_) ∧ (s_ ≠ gb566) ∧ (Below w.heap.size w w')) ?_ ?_
            rotate_left
            ·intro hCont
             refine two_ (i := 6) (j := 12) (Ni := some 48) (Nj := some 13) (bA 14 2047) (bA 14 6079) rfl rfl rfl rfl (two_of HT_.out (by kernel_rfl)) (by decide) (by decide) (fun K hK => ?_) (fun K hK => ?_)
             ·skip
              refine goes_ Try.func150 (by kernel_rfl) rfl #[.agg #[.int .i64 a0_0, .slice A0_1 l0_1.length c0_1], .slice Ao26 x9_1.length co26, .int .i64 (rd t570 (ji19))] (by rfl) rfl rfl (by (try simp only [List.map_toArray, List.map_cons, List.map_nil]); first | done | (simp only [hji19]; rfl) | rfl | (simp only [List.length_drop, List.length_take]; rfl)) ?_
              with_reducible refine (spec_peWith.calls kj7 a0_0 _ _ l0_1 _ _ x9_1 (rd t570 (ji19)) t575 _ ?side1 ?side2 ?side3 ?side4 A22.out).mono ?_
              (case side1 => exact Cz (Kd.C_below HR0_1.out HB.out))
              (case side2 => exact HC0_1.out)
              (case side3 => exact Cz ((Kd.R_reads' HO_9.out).2.2))
              (case side4 => exact (Kd.R_reads' HO_9.out).2.1)
              rintro e w30 ⟨rfl, hb⟩; have HS2_ := (hb.cell (World.block_lt_of_cell? _ _ (hHeld.2.2.1))).trans (hHeld.2.2.1); have HS3_ := (hb.cell (World.block_lt_of_cell? _ _ (hHeld.2.2.2))).trans (hHeld.2.2.2); refine ⟨_, rfl, ?_⟩; have n0_ := Rb HO_8 hb; have n1_ := Rb HO_9 hb; have n2_ := Rb HO572 hb; have n3_ := Kb BK566 hb; have n4_ := Bc HB hb; clear HO_8 HO_9 HO572 BK566 HB; revert n0_ n1_ n2_ n3_ n4_; intro HO_8 HO_9 HO572 BK566 HB
              (try clear hb)
              (try clear hb2)
              (try clear hk)
              (try clear hi)
              refine hK.out _ _ ⟨cz BK566 0, cz BK566 1, HS2_, HS3_⟩ (fun hHeld => ?_); clear hK K; refine norm_ (a' := ?_) ?_ ?_; rotate_left; show Act.put _ (some 48) _ = _; simp only [aP, i64_w, i32_w]; rfl; refine pZ 11 (some 53) (bA 14 4095) HT_.out ?_; refine oZ 12 (some 13) (bA 14 8191) HT_.out (fun K hK => ?_); refine box_step ?hg (N := 13) ?hd (cs := #[.int .i64 0, .int .i64 0]) (t := 118) ?hr ?_; (case hd => rfl); (case hg => rfl); (case hr => first | (go_simp; done) | (go_simp; rfl)); intro gb577 hg w31 hbox hb; have HS2_ := (hb.cell (World.block_lt_of_cell? _ _ (hHeld.2.2.1))).trans (hHeld.2.2.1); have HS3_ := (hb.cell (World.block_lt_of_cell? _ _ (hHeld.2.2.2))).trans (hHeld.2.2.2); have n0_ := am (Kd.R_below (Kd.R_elderB (Rz HO_8.out) gb577 (Nat.le_of_eq hg.symm)) hb); have n1_ := Rb HO_9 hb; have n2_ := Rb HO572 hb; have n3_ := Kb BK566 hb; have n4_ := Bc HB hb; have n5_ := am (hbox); have n6_ := Gm HB hg; have n7_ := Gm HB hg; have n8_ := Nl BK566 hg; have n9_ := Ng BK566 hg; clear HO_8 HO_9 HO572 BK566 HB; revert n0_ n1_ n2_ n3_ n4_ n5_ n6_ n7_ n8_ n9_; intro HO_8 HO_9 HO572 BK566 HB BK577 GW577 GE577 NB566_577 NB577_566; clear hb hbox hg; refine hK.out _ _ ⟨cz BK566 0, cz BK566 1, HS2_, HS3_⟩ (fun hHeld => ?_); clear hK K; refine norm_ (a' := ?_) ?_ ?_; rotate_left; show Act.put _ (some 13) _ = _; simp only [aP, i64_w, i32_w]; rfl; exact norm_ (by simp only [putAll, aP]) (hCont (gb577) _ ⟨hHeld, (Rz (Kd.R_mono HO572.out (fun _ hk => hk.2))), (Rz (Kd.R_mono HO_8.out (fun _ hk => hk.2))), (Rz (Kd.R_mono HO_9.out (fun _ hk => hk.2))), (Kz BK566.out), (Kz BK577.out), GW577.out, GE577.out, NB566_577.out, NB577_566.out, (Bq)⟩)
             ·skip
              refine box_step ?hg (N := 13) ?hd (cs := #[.int .i64 0, .int .i64 0]) (t := 118) ?hr ?_; (case hd => rfl); (case hg => rfl); (case hr => first | (go_simp; done) | (go_simp; rfl)); intro gb577 hg w30 hbox hb; have HS2_ := (hb.cell (World.block_lt_of_cell? _ _ (hHeld.2.2.1))).trans (hHeld.2.2.1); have HS3_ := (hb.cell (World.block_lt_of_cell? _ _ (hHeld.2.2.2))).trans (hHeld.2.2.2); have n0_ := am (Kd.R_below (Kd.R_elderB (Rz HO_8.out) gb577 (Nat.le_of_eq hg.symm)) hb); have n1_ := Rb HO_9 hb; have n2_ := Rb HO572 hb; have n3_ := Kb BK566 hb; have n4_ := Bc HB hb; have n5_ := am (hbox); have n6_ := Gm HB hg; have n7_ := Gm HB hg; have n8_ := Nl BK566 hg; have n9_ := Ng BK566 hg; clear HO_8 HO_9 HO572 BK566 HB; revert n0_ n1_ n2_ n3_ n4_ n5_ n6_ n7_ n8_ n9_; intro HO_8 HO_9 HO572 BK566 HB BK577 GW577 GE577 NB566_577 NB577_566; clear hb hbox hg; refine hK.out _ _ ⟨cz BK566 0, cz BK566 1, HS2_, HS3_⟩ (fun hHeld => ?_); clear hK K; refine norm_ (a' := ?_) ?_ ?_; rotate_left; show Act.put _ (some 13) _ = _; simp only [aP, i64_w, i32_w]; rfl; refine oZ 6 (some 48) (bA 14 6143) HT_.out (fun K hK => ?_); refine goes_ Try.func150 (by kernel_rfl) rfl #[.agg #[.int .i64 a0_0, .slice A0_1 l0_1.length c0_1], .slice Ao26 x9_1.length co26, .int .i64 (rd t570 (ji19))] (by rfl) rfl rfl (by (try simp only [List.map_toArray, List.map_cons, List.map_nil]); first | done | (simp only [hji19]; rfl) | rfl | (simp only [List.length_drop, List.length_take]; rfl)) ?_
              with_reducible refine (spec_peWith.calls kj7 a0_0 _ _ l0_1 _ _ x9_1 (rd t570 (ji19)) t575 _ ?side1 ?side2 ?side3 ?side4 A22.out).mono ?_
              (case side1 => exact Cz (Kd.C_below HR0_1.out HB.out))
              (case side2 => exact HC0_1.out)
              (case side3 => exact Cz ((Kd.R_reads' HO_9.out).2.2))
              (case side4 => exact (Kd.R_reads' HO_9.out).2.1)
              rintro e w31 ⟨rfl, hb⟩; have HS2_ := (hb.cell (World.block_lt_of_cell? _ _ (hHeld.2.2.1))).trans (hHeld.2.2.1); have HS3_ := (hb.cell (World.block_lt_of_cell? _ _ (hHeld.2.2.2))).trans (hHeld.2.2.2); refine ⟨_, rfl, ?_⟩; have n0_ := Rb HO_8 hb; have n1_ := Rb HO_9 hb; have n2_ := Rb HO572 hb; have n3_ := Kb BK566 hb; have n4_ := Kb BK577 hb; have n5_ := Bc HB hb; clear HO_8 HO_9 HO572 BK566 BK577 HB; revert n0_ n1_ n2_ n3_ n4_ n5_; intro HO_8 HO_9 HO572 BK566 BK577 HB
              (try clear hb)
              (try clear hb2)
              (try clear hk)
              (try clear hi)
              refine hK.out _ _ ⟨cz BK566 0, cz BK566 1, HS2_, HS3_⟩ (fun hHeld => ?_); clear hK K; refine norm_ (a' := ?_) ?_ ?_; rotate_left; show Act.put _ (some 48) _ = _; simp only [aP, i64_w, i32_w]; rfl; refine pZ 11 (some 53) (bA 14 8191) HT_.out ?_; exact norm_ (by simp only [putAll, aP]) (hCont (gb577) _ ⟨hHeld, (Rz (Kd.R_mono HO572.out (fun _ hk => hk.2))), (Rz (Kd.R_mono HO_8.out (fun _ hk => hk.2))), (Rz (Kd.R_mono HO_9.out (fun _ hk => hk.2))), (Kz BK566.out), (Kz BK577.out), GW577.out, GE577.out, NB566_577.out, NB577_566.out, (Bq)⟩)
            rintro gb577 w32 ⟨hS_, h0_, h1_, h2_, h3_, h4_, h5_, h6_, h7_, h8_, h9_⟩; have n0_ : Aside0 (Kd.R (Kd.int .i64) 3 w32 w.heap.size (fun k_ => some k_ ≠ (.slice Ao26 x9_1.length co26 : Value).ownBlock) (.slice (some ad574) t570.length co28) t570) := ⟨h0_⟩; have n1_ : Aside0 (Kd.R k118 118 w32 w.heap.size (fun k_ => k_ ≠ gb577) u8 x8_1) := ⟨h1_⟩; have n2_ : Aside0 (Kd.R (Kd.int .i64) 3 w32 w.heap.size (fun k_ => some k_ ≠ (.slice (some ad574) t570.length co28 : Value).ownBlock) (.slice Ao26 x9_1.length co26) x9_1) := ⟨h2_⟩; have n3_ : Aside0 (w32.heap[gb566]? = some (.cells #[.int .i64 a0_0, .slice A0_1 l0_1.length c0_1] 33 (0, 0))) := ⟨h3_⟩; have n4_ : Aside0 (w32.heap[gb577]? = some (.cells #[.int .i64 0, .int .i64 0] 118 (0, 0))) := ⟨h4_⟩; have n5_ : Aside0 (w.heap.size ≤ gb577) := ⟨h5_⟩; have n6_ : Aside0 (w.heap.size ≤ gb577) := ⟨h6_⟩; have n7_ : Aside0 (gb566 ≠ gb577) := ⟨h7_⟩; have n8_ : Aside0 (gb577 ≠ gb566) := ⟨h8_⟩; have n9_ : Aside0 (Below w.heap.size w w32) := ⟨h9_⟩; clear HO_8 HO_9 HO572 BK566 HB; clear h0_ h1_ h2_ h3_ h4_ h5_ h6_ h7_ h8_ h9_; revert n0_ n1_ n2_ n3_ n4_ n5_ n6_ n7_ n8_ n9_; intro HO572 HO_8 HO_9 BK566 BK577 GW577 GE577 NB566_577 NB577_566 HB; have hHeld : w32.cell? ⟨gb566, 0, none⟩ = some (.int .i64 a0_0) ∧ w32.cell? ⟨gb566, 1, none⟩ = some (.slice A0_1 l0_1.length c0_1) ∧ w32.cell? (ad574.add ((ji19)).toNat) = some (.int .i64 (rd t570 (ji19))) ∧ w32.cell? (ad574.add ((ji19)).toNat) = some (.int .i64 (rd t570 (ji19))) := hS_; refine norm_ (a' := ?_) ?_ ?_
            rotate_left
            ·simp only [putAll, aP]
             rfl
            refine oZ 13 none (bA 14 16383) HT_.out (fun K hK => ?_); have hs33 : w32.cell? ⟨gb577, 0, none⟩ = some (.int .i64 0) := cz BK577 0; have hfs33 := blk_frozen BK577.out 0; have hns33_0 := NB566_577.out; have hms33_0 := NB577_566.out; have hs34 : w32.cell? ⟨gb577, 1, none⟩ = some (.int .i64 0) := cz BK577 1; have hfs34 := blk_frozen BK577.out 1; have hns34_0 := NB566_577.out; have hms34_0 := NB577_566.out; refine skip_ (w1 := ?_) (by rfl) rfl ?_ ?_
            rotate_left
            ·go_simp
             rfl
            refine hK.out _ _ ⟨((cell_far (p := ⟨gb577, _, none⟩) NB566_577.out _).trans (((cell_far (p := ⟨gb577, _, none⟩) NB566_577.out _).trans (hHeld.1)))), ((cell_far (p := ⟨gb577, _, none⟩) NB566_577.out _).trans (((cell_far (p := ⟨gb577, _, none⟩) NB566_577.out _).trans (hHeld.2.1)))), ((cell_far (p := ⟨gb577, _, none⟩) (by first | exact Kd.own_blk (Kd.R_ne HO572.out BK577.out (by decide)) | (rw [add_block]; exact Kd.own_blk (Kd.R_ne HO572.out BK577.out (by decide))) | (show (Addr.add _ _).block ≠ _; rw [add_block]; exact Kd.own_blk (Kd.R_ne HO572.out BK577.out (by decide))) | (dsimp only; exact Kd.own_blk (Kd.R_ne HO572.out BK577.out (by decide)))) _).trans (((cell_far (p := ⟨gb577, _, none⟩) (by first | exact Kd.own_blk (Kd.R_ne HO572.out BK577.out (by decide)) | (rw [add_block]; exact Kd.own_blk (Kd.R_ne HO572.out BK577.out (by decide))) | (show (Addr.add _ _).block ≠ _; rw [add_block]; exact Kd.own_blk (Kd.R_ne HO572.out BK577.out (by decide))) | (dsimp only; exact Kd.own_blk (Kd.R_ne HO572.out BK577.out (by decide)))) _).trans (hHeld.2.2.1)))), ((cell_far (p := ⟨gb577, _, none⟩) (by first | exact Kd.own_blk (Kd.R_ne HO572.out BK577.out (by decide)) | (rw [add_block]; exact Kd.own_blk (Kd.R_ne HO572.out BK577.out (by decide))) | (show (Addr.add _ _).block ≠ _; rw [add_block]; exact Kd.own_blk (Kd.R_ne HO572.out BK577.out (by decide))) | (dsimp only; exact Kd.own_blk (Kd.R_ne HO572.out BK577.out (by decide)))) _).trans (((cell_far (p := ⟨gb577, _, none⟩) (by first | exact Kd.own_blk (Kd.R_ne HO572.out BK577.out (by decide)) | (rw [add_block]; exact Kd.own_blk (Kd.R_ne HO572.out BK577.out (by decide))) | (show (Addr.add _ _).block ≠ _; rw [add_block]; exact Kd.own_blk (Kd.R_ne HO572.out BK577.out (by decide))) | (dsimp only; exact Kd.own_blk (Kd.R_ne HO572.out BK577.out (by decide)))) _).trans (hHeld.2.2.2))))⟩ (fun hHeld => ?_); clear hK K; refine done_ (done_of HT_.out (by kernel_rfl)) ?_; have hnb35 := NB577_566.out; have hnc35 := NB566_577.out; obtain ⟨hcz36_0, hcz36_1, hfz36_0, hfz36_1⟩ := cf2 (w := w32) BK577
            try go_wp2_with (first | ((with_reducible refine gate_builtin (b := .append) (xs := #[.tmp 54, .tmp 56]) rfl ?_); (try (refine gate_guard (by rfl) ?_; dsimp only)); at_builtin; refine Kd.R_append k118 (w0 := w) w.heap.size rfl (.tmp 54) (.tmp 56) 111 118 (.agg #[(.int .i64 0), (.int .i64 0)]) 16 rfl Try.underlying111 info118 rfl (by decide) (by omega) u8 x8_1 (⟨t575, rd t570 (ji19)⟩ : S118) [.int .i64 t575, .int .i64 (rd t570 (ji19))] (fun k_ => k_ ≠ gb577) (fun _ => False) rfl (by first | (go_simp; done) | (go_simp; rfl)) ?aP (fun _ hk => hk.elim) ?aF ?aO ?aB ?aS ?aL ?_; (case aP => exact k118_mkM _ _ _ (⟨t575, rd t570 (ji19)⟩ : S118)); (case aB => exact (Bq)); (case aF => exact (fun k_ hk => Kd.freshB (g := gb577) (o := .cells #[.int .i64 t575, .int .i64 (rd t570 (ji19))] 118 (0, 0)) (by refine bp ?_; refine blk_put (cs := #[.int .i64 t575, .int .i64 0]) ?_ 1 _ rfl; refine bp ?_; refine blk_put (cs := #[.int .i64 0, .int .i64 0]) ?_ 0 _ rfl; exact Kz BK577.out) k_ hk)); (case aO => exact (Rz (Kd.R_mono (Kd.R_far (p := ⟨gb577, 1, none⟩) (Kd.R_far (p := ⟨gb577, 0, none⟩) (Kd.R_mono HO_8.out (fun k_ hk => (⟨hk, hk⟩ : _ ∧ k_ ≠ gb577))) (fun _ hk => hk.2) (.int .i64 t575)) (fun _ hk => hk.2) (.int .i64 (rd t570 (ji19)))) (fun _ hk => hk.1)))); (case aS => exact (below_size (w := w) (Bq))); (case aL => have := LMc23.out; omega); intro v579 w37 ho hb hg hat; rw [← Ny578.out] at ho; have n0_ := am (Kd.R_over' (Rz (Kd.R_mono (Kd.R_far (p := ⟨gb577, 1, none⟩) (Kd.R_far (p := ⟨gb577, 0, none⟩) (Kd.R_types HO_9.out BK577.out (by decide)) (fun _ hk => hk.2) (.int .i64 t575)) (fun _ hk => hk.2) (.int .i64 (rd t570 (ji19)))) (fun _ h_ => h_.1))) (Kd.R_typed (Rz (Kd.R_mono (Kd.R_far (p := ⟨gb577, 1, none⟩) (Kd.R_far (p := ⟨gb577, 0, none⟩) (Kd.R_mono HO_8.out (fun k_ hk => (⟨hk, hk⟩ : _ ∧ k_ ≠ gb577))) (fun _ hk => hk.2) (.int .i64 t575)) (fun _ hk => hk.2) (.int .i64 (rd t570 (ji19)))) (fun _ h_ => h_.1)))) (by decide) hg); have n1_ := am (blk_grown (g := gb566) (o := .cells #[.int .i64 a0_0, .slice A0_1 l0_1.length c0_1] 33 (0, 0)) (by refine bp ?_; refine blk_far ?_ NB566_577.out _; refine bp ?_; refine blk_far ?_ NB566_577.out _; exact Kz BK566.out) hg (Kd.R_ne HO_8.out BK566.out (by decide))); have n2_ := am (Kd.R_over' (Rz (Kd.R_mono (Kd.R_far (p := ⟨gb577, 1, none⟩) (Kd.R_far (p := ⟨gb577, 0, none⟩) (Kd.R_types HO572.out BK577.out (by decide)) (fun _ hk => hk.2) (.int .i64 t575)) (fun _ hk => hk.2) (.int .i64 (rd t570 (ji19)))) (fun _ h_ => h_.1))) (Kd.R_typed (Rz (Kd.R_mono (Kd.R_far (p := ⟨gb577, 1, none⟩) (Kd.R_far (p := ⟨gb577, 0, none⟩) (Kd.R_mono HO_8.out (fun k_ hk => (⟨hk, hk⟩ : _ ∧ k_ ≠ gb577))) (fun _ hk => hk.2) (.int .i64 t575)) (fun _ hk => hk.2) (.int .i64 (rd t570 (ji19)))) (fun _ h_ => h_.1)))) (by decide) hg); have n3_ := am (blk_grown (g := gb577) (o := .cells #[.int .i64 t575, .int .i64 (rd t570 (ji19))] 118 (0, 0)) (by refine bp ?_; refine blk_put (cs := #[.int .i64 t575, .int .i64 0]) ?_ 1 _ rfl; refine bp ?_; refine blk_put (cs := #[.int .i64 0, .int .i64 0]) ?_ 0 _ rfl; exact Kz BK577.out) hg (Kd.R_away HO_8.out (fun _ hk => hk))); have n4_ := am (hb); have n5_ := am (ho); clear HO_9 BK566 HO572 BK577 HB HO_8; revert n0_ n1_ n2_ n3_ n4_ n5_; intro HO_9 BK566 HO572 BK577 HB HO580; clear ho hb hg hat; obtain ⟨hcz38_0, hcz38_1, hfz38_0, hfz38_1⟩ := cf2 (w := w37) BK577) | ((with_reducible refine gate_callee (f := 151) rfl ?_); refine gL (some 61) Try.func151 #[.slice Ao26 x9_1.length co26, .int .i64 t575] ?_; (with_reducible refine (spec_l1Drop.calls kj7 _ _ x9_1 t575 t581 _ ?side1 ?side2 A24.out).mono ?_); (case side1 => exact Cz ((Kd.R_reads' HO_9.out).2.2)); (case side2 => exact (Kd.R_reads' HO_9.out).2.1); rintro e w39 ⟨v582, rfl, ho0, hb⟩; refine ⟨_, rfl, ?_⟩; have n0_ := Re HO_9 (Kd.R_base ho0) hb; have n1_ := Re HO572 (Kd.R_base ho0) hb; have n2_ := Rb HO580 hb; have n3_ := Rm (Kd.R_new' (Kd.R_new' ho0 (Kd.R_lt (Rz HO_9.out))) (Kd.R_lt (Rz HO572.out))) HB; have n4_ := Kb BK566 hb; have n5_ := Kb BK577 hb; have n6_ := Bc HB hb; clear HO_9 HO572 HO580 BK566 BK577 HB; revert n0_ n1_ n2_ n3_ n4_ n5_ n6_; intro HO_9 HO572 HO580 HO583 BK566 BK577 HB; (try clear hb); (try clear hb2); (try clear hk); (try clear hi); (try clear ho0)))
            go_roundg kj7
            case measure => have := HK1.out; have := HJ7.out; omega
            case rel => exact ⟨(y578), (t581), (wrap64 (x10_1 + 1)), wZ, H', ⟨by have := HK1.out; have := HJ7.out; omega⟩, ⟨Rz (Kd.R_mono HO580.out (fun _ hk => trivial))⟩, ⟨Rz (Kd.R_mono HO583.out (fun _ hk => trivial))⟩, ⟨Kz BK566.out⟩, ⟨Bq⟩⟩
           ·rw [if_neg c23] at H
            exact absurd H (by simp)
          ·rw [if_neg c21] at H
           exact absurd H (by simp)
         ·rw [if_neg c20] at H
          exact absurd H (by simp)
        ·rw [if_neg c18] at H
         exact absurd H (by simp)
       ·rw [if_neg c17] at H
        have c17b0 : decide (x10_1 < (l1.length : Int)) = false := decide_eq_false c17; clear c17
        by_cases c40 : 0 < (t570.length : Int)
        ·rw [if_pos c40] at H
         have c40b0 : decide (0 < (t570.length : Int)) = true := decide_eq_true c40; have c40b1 : decide (0 < t570.length) = true := decide_eq_true (by omega); clear c40; obtain ⟨t585, A41, H⟩ := ob H; (try dsimp -simprocs only at H)
         by_cases c42 : x8_1.length < 8796093022208
         ·rw [if_pos c42] at H
          have LMc42 := am c42; clear c42; obtain ⟨y588, hy588⟩ : ∃ y_ : List (S118), y_ = (x8_1 ++ [(⟨t585, rd t570 0⟩ : S118)]) := ⟨_, rfl⟩
          replace H : ((spec_l1Drop.f kj7 x9_1 t585).bind fun t591 => (spec_pePeel.l0 kj7 l1 a2 y588 t591 (wrap64 (x10_1 + 1)) a0_0 l0_1)) = some (r1, r2) := by (try rw [hy588]); first | with_reducible exact H | exact (Option.bind_some _ _).symm.trans H | exact H
          have Ny588 := am hy588; clear hy588; obtain ⟨t591, A43, H⟩ := ob H; (try dsimp -simprocs only at H); have H' := am H; clear H; obtain ⟨hcz44_0, hcz44_1, hfz44_0, hfz44_1⟩ := cf2 (w := wc) BK566; obtain ⟨Ao45, co45, eo45⟩ := Kd.R_slice HO_9.out; subst eo45
          try go_wp2_with (first | ((with_reducible refine gate_callee (f := 149) rfl ?_); refine gL (some 27) Try.func149 #[.agg #[.int .i64 a0_0, .slice A0_1 l0_1.length c0_1], .slice Ao45 x9_1.length co45] ?_; (with_reducible refine (spec_peFree.calls kj7 a0_0 _ _ l0_1 _ _ x9_1 t570 _ ?side1 ?side2 ?side3 ?side4 A11.out).mono ?_); (case side1 => exact Cz (Kd.C_below HR0_1.out HB.out)); (case side2 => exact HC0_1.out); (case side3 => exact Cz ((Kd.R_reads' HO_9.out).2.2)); (case side4 => exact (Kd.R_reads' HO_9.out).2.1); rintro e w46 ⟨v571, rfl, ho0, hb⟩; refine ⟨_, rfl, ?_⟩; have n0_ := Rb HO_8 hb; have n1_ := Re HO_9 (Kd.R_base ho0) hb; have n2_ := Rm (Kd.R_new' ho0 (Kd.R_lt (Rz HO_9.out))) HB; have n3_ := Kb BK566 hb; have n4_ := Bc HB hb; clear HO_8 HO_9 BK566 HB; revert n0_ n1_ n2_ n3_ n4_; intro HO_8 HO_9 HO572 BK566 HB; (try clear hb); (try clear hb2); (try clear hk); (try clear hi); (try clear ho0); obtain ⟨Ao47, co47, eo47⟩ := Kd.R_slice HO572.out; subst eo47))
          have n0_ := am (Kd.R_drew HO_8.out); have n1_ := am (Kd.R_drew HO_9.out); have n2_ := am (Kd.R_drew HO572.out); have n3_ := am (blk_drew BK566.out); have n4_ := am (below_drew1 HB.out); clear HO_8 HO_9 HO572 BK566 HB; revert n0_ n1_ n2_ n3_ n4_; intro HO_8 HO_9 HO572 BK566 HB; have p584 : 0 ≤ (0 : Int) := (by omega); have q584 : 0 < (t570.length : Int) := dT; obtain ⟨ad584, e584, hx584_0⟩ := Kd.at_int (Kd.R_reads' HO572.out).2.2 0 p584 q584; cases e584; have qi584 : (0 < t570.length) = True := eq_true (by omega)
          (try rw [show ((0 : Int)).toNat = 0 from rfl] at hx584_0)
          (try rw [Addr.add_zero'] at hx584_0)
          replace p584 := eq_true p584; replace q584 := eq_true q584; have p586 : 0 ≤ (0 : Int) := (by omega); have q586 : 0 < (t570.length : Int) := dT; obtain ⟨ad586, e586, hx586_0⟩ := Kd.at_int (Kd.R_reads' HO572.out).2.2 0 p586 q586; obtain rfl : ad584 = ad586 := (by injection e586); have qi586 : (0 < t570.length) = True := eq_true (by omega)
          (try rw [show ((0 : Int)).toNat = 0 from rfl] at hx586_0)
          (try rw [Addr.add_zero'] at hx586_0)
          replace p586 := eq_true p586; replace q586 := eq_true q586; refine start_ (n := 14) (S := fun w' => w'.cell? ⟨gb566, 0, none⟩ = some (.int .i64 a0_0) ∧ w'.cell? ⟨gb566, 1, none⟩ = some (.slice A0_1 l0_1.length c0_1) ∧ w'.cell? ad584 = some (.int .i64 (rd t570 0)) ∧ w'.cell? ad584 = some (.int .i64 (rd t570 0))) (ds := []) (bA 14 0) (by kernel_rfl) rfl rfl ⟨cz BK566 0, cz BK566 1, hx584_0, hx586_0⟩ (fun hHeld => ?_); refine with_tabW spec_pePeel.tab11 spec_pePeel.bits11 (fun HT_ HW_ => ?_); generalize w46.drew = w48 at HO_8 HO_9 HO572 BK566 HB hx584_0 hx586_0 hHeld ⊢; refine pZ 1 (some 43) (bA 14 2) HT_.out ?_; refine pZ 2 (some 44) (bA 14 6) HT_.out ?_; refine pZ 3 (some 45) (bA 14 14) HT_.out ?_; refine pZ 4 (some 46) (bA 14 30) HT_.out ?_; refine pZ 7 (some 49) (bA 14 158) HT_.out ?_; refine pZ 8 (some 50) (bA 14 414) HT_.out ?_; refine pZ 9 (some 51) (bA 14 926) HT_.out ?_; refine tZ4 0 (some 42) (bA 14 927) HT_.out HW_.out hHeld ?_; refine tZ4 5 (some 47) (bA 14 959) HT_.out HW_.out hHeld ?_; refine tZ4 10 (some 52) (bA 14 1983) HT_.out HW_.out hHeld ?_; refine join_ (σ := Nat) 1 (bA 14 8191) (fun s_ => [(48, .int .i64 t585), (13, .pointer (some ⟨s_, 0, none⟩)), (53, .agg #[.int .i64 t585, .int .i64 (rd t570 0)])]) (fun s_ w' => (w'.cell? ⟨gb566, 0, none⟩ = some (.int .i64 a0_0) ∧ w'.cell? ⟨gb566, 1, none⟩ = some (.slice A0_1 l0_1.length c0_1) ∧ w'.cell? ad584 = some (.int .i64 (rd t570 0)) ∧ w'.cell? ad584 = some (.int .i64 (rd t570 0))) ∧ (Kd.R (Kd.int .i64) 3 w' w.heap.size (fun k_ => some k_ ≠ (.slice Ao45 x9_1.length co45 : Value).ownBlock) (.slice (some ad584) t570.length co47) t570) ∧ (Kd.R k118 118 w' w.heap.size (fun k_ => k_ ≠ s_) u8 x8_1) ∧ (Kd.R (Kd.int .i64) 3 w' w.heap.size (fun k_ => some k_ ≠ (.slice (some ad584) t570.length co47 : Value).ownBlock) (.slice Ao45 x9_1.length co45) x9_1) ∧ (w'.heap[gb566]? = some (.cells #[.int .i64 a0_0, .slice A0_1 l0_1.length c0_1] 33 (0, 0))) ∧ (w'.heap[s_]? = some (.cells #[.int .i64 0, .int .i64 0] 118 (0, 0))) ∧ (w.heap.size ≤ s_) ∧ (w.heap.size ≤ s_) ∧ (gb566 ≠ s_) ∧ (s_ ≠ gb566) ∧ (Below w.heap.size w w')) ?_ ?_
          rotate_left
          ·intro hCont
           refine two_ (i := 6) (j := 12) (Ni := some 48) (Nj := some 13) (bA 14 2047) (bA 14 6079) rfl rfl rfl rfl (two_of HT_.out (by kernel_rfl)) (by decide) (by decide) (fun K hK => ?_) (fun K hK => ?_)
           ·skip
            refine gZ Try.func150 #[.agg #[.int .i64 a0_0, .slice A0_1 l0_1.length c0_1], .slice Ao45 x9_1.length co45, .int .i64 (rd t570 0)] ?_
            with_reducible refine (spec_peWith.calls kj7 a0_0 _ _ l0_1 _ _ x9_1 (rd t570 0) t585 _ ?side1 ?side2 ?side3 ?side4 A41.out).mono ?_
            (case side1 => exact Cz (Kd.C_below HR0_1.out HB.out))
            (case side2 => exact HC0_1.out)
            (case side3 => exact Cz ((Kd.R_reads' HO_9.out).2.2))
            (case side4 => exact (Kd.R_reads' HO_9.out).2.1)
            rintro e w49 ⟨rfl, hb⟩; have HS2_ := (hb.cell (World.block_lt_of_cell? _ _ (hHeld.2.2.1))).trans (hHeld.2.2.1); have HS3_ := (hb.cell (World.block_lt_of_cell? _ _ (hHeld.2.2.2))).trans (hHeld.2.2.2); refine ⟨_, rfl, ?_⟩; have n0_ := Rb HO_8 hb; have n1_ := Rb HO_9 hb; have n2_ := Rb HO572 hb; have n3_ := Kb BK566 hb; have n4_ := Bc HB hb; clear HO_8 HO_9 HO572 BK566 HB; revert n0_ n1_ n2_ n3_ n4_; intro HO_8 HO_9 HO572 BK566 HB
            (try clear hb)
            (try clear hb2)
            (try clear hk)
            (try clear hi)
            refine hK.out _ _ ⟨cz BK566 0, cz BK566 1, HS2_, HS3_⟩ (fun hHeld => ?_); clear hK K; refine norm_ (a' := ?_) ?_ ?_; rotate_left; show Act.put _ (some 48) _ = _; simp only [aP, i64_w, i32_w]; rfl; refine pZ 11 (some 53) (bA 14 4095) HT_.out ?_; refine oZ 12 (some 13) (bA 14 8191) HT_.out (fun K hK => ?_); refine box_step ?hg (N := 13) ?hd (cs := #[.int .i64 0, .int .i64 0]) (t := 118) ?hr ?_; (case hd => rfl); (case hg => rfl); (case hr => first | (go_simp; done) | (go_simp; rfl)); intro gb587 hg w50 hbox hb; have HS2_ := (hb.cell (World.block_lt_of_cell? _ _ (hHeld.2.2.1))).trans (hHeld.2.2.1); have HS3_ := (hb.cell (World.block_lt_of_cell? _ _ (hHeld.2.2.2))).trans (hHeld.2.2.2); have n0_ := am (Kd.R_below (Kd.R_elderB (Rz HO_8.out) gb587 (Nat.le_of_eq hg.symm)) hb); have n1_ := Rb HO_9 hb; have n2_ := Rb HO572 hb; have n3_ := Kb BK566 hb; have n4_ := Bc HB hb; have n5_ := am (hbox); have n6_ := Gm HB hg; have n7_ := Gm HB hg; have n8_ := Nl BK566 hg; have n9_ := Ng BK566 hg; clear HO_8 HO_9 HO572 BK566 HB; revert n0_ n1_ n2_ n3_ n4_ n5_ n6_ n7_ n8_ n9_; intro HO_8 HO_9 HO572 BK566 HB BK587 GW587 GE587 NB566_587 NB587_566; clear hb hbox hg; refine hK.out _ _ ⟨cz BK566 0, cz BK566 1, HS2_, HS3_⟩ (fun hHeld => ?_); clear hK K; refine norm_ (a' := ?_) ?_ ?_; rotate_left; show Act.put _ (some 13) _ = _; simp only [aP, i64_w, i32_w]; rfl; exact norm_ (by simp only [putAll, aP]) (hCont (gb587) _ ⟨hHeld, (Rz (Kd.R_mono HO572.out (fun _ hk => hk.2))), (Rz (Kd.R_mono HO_8.out (fun _ hk => hk.2))), (Rz (Kd.R_mono HO_9.out (fun _ hk => hk.2))), (Kz BK566.out), (Kz BK587.out), GW587.out, GE587.out, NB566_587.out, NB587_566.out, (Bq)⟩)
           ·skip
            refine box_step ?hg (N := 13) ?hd (cs := #[.int .i64 0, .int .i64 0]) (t := 118) ?hr ?_; (case hd => rfl); (case hg => rfl); (case hr => first | (go_simp; done) | (go_simp; rfl)); intro gb587 hg w49 hbox hb; have HS2_ := (hb.cell (World.block_lt_of_cell? _ _ (hHeld.2.2.1))).trans (hHeld.2.2.1); have HS3_ := (hb.cell (World.block_lt_of_cell? _ _ (hHeld.2.2.2))).trans (hHeld.2.2.2); have n0_ := am (Kd.R_below (Kd.R_elderB (Rz HO_8.out) gb587 (Nat.le_of_eq hg.symm)) hb); have n1_ := Rb HO_9 hb; have n2_ := Rb HO572 hb; have n3_ := Kb BK566 hb; have n4_ := Bc HB hb; have n5_ := am (hbox); have n6_ := Gm HB hg; have n7_ := Gm HB hg; have n8_ := Nl BK566 hg; have n9_ := Ng BK566 hg; clear HO_8 HO_9 HO572 BK566 HB; revert n0_ n1_ n2_ n3_ n4_ n5_ n6_ n7_ n8_ n9_; intro HO_8 HO_9 HO572 BK566 HB BK587 GW587 GE587 NB566_587 NB587_566; clear hb hbox hg; refine hK.out _ _ ⟨cz BK566 0, cz BK566 1, HS2_, HS3_⟩ (fun hHeld => ?_); clear hK K; refine norm_ (a' := ?_) ?_ ?_; rotate_left; show Act.put _ (some 13) _ = _; simp only [aP, i64_w, i32_w]; rfl; refine oZ 6 (some 48) (bA 14 6143) HT_.out (fun K hK => ?_); refine gZ Try.func150 #[.agg #[.int .i64 a0_0, .slice A0_1 l0_1.length c0_1], .slice Ao45 x9_1.length co45, .int .i64 (rd t570 0)] ?_
            with_reducible refine (spec_peWith.calls kj7 a0_0 _ _ l0_1 _ _ x9_1 (rd t570 0) t585 _ ?side1 ?side2 ?side3 ?side4 A41.out).mono ?_
            (case side1 => exact Cz (Kd.C_below HR0_1.out HB.out))
            (case side2 => exact HC0_1.out)
            (case side3 => exact Cz ((Kd.R_reads' HO_9.out).2.2))
            (case side4 => exact (Kd.R_reads' HO_9.out).2.1)
            rintro e w50 ⟨rfl, hb⟩; have HS2_ := (hb.cell (World.block_lt_of_cell? _ _ (hHeld.2.2.1))).trans (hHeld.2.2.1); have HS3_ := (hb.cell (World.block_lt_of_cell? _ _ (hHeld.2.2.2))).trans (hHeld.2.2.2); refine ⟨_, rfl, ?_⟩; have n0_ := Rb HO_8 hb; have n1_ := Rb HO_9 hb; have n2_ := Rb HO572 hb; have n3_ := Kb BK566 hb; have n4_ := Kb BK587 hb; have n5_ := Bc HB hb; clear HO_8 HO_9 HO572 BK566 BK587 HB; revert n0_ n1_ n2_ n3_ n4_ n5_; intro HO_8 HO_9 HO572 BK566 BK587 HB
            (try clear hb)
            (try clear hb2)
            (try clear hk)
            (try clear hi)
            refine hK.out _ _ ⟨cz BK566 0, cz BK566 1, HS2_, HS3_⟩ (fun hHeld => ?_); clear hK K; refine norm_ (a' := ?_) ?_ ?_; rotate_left; show Act.put _ (some 48) _ = _; simp only [aP, i64_w, i32_w]; rfl; refine pZ 11 (some 53) (bA 14 8191) HT_.out ?_; exact norm_ (by simp only [putAll, aP]) (hCont (gb587) _ ⟨hHeld, (Rz (Kd.R_mono HO572.out (fun _ hk => hk.2))), (Rz (Kd.R_mono HO_8.out (fun _ hk => hk.2))), (Rz (Kd.R_mono HO_9.out (fun _ hk => hk.2))), (Kz BK566.out), (Kz BK587.out), GW587.out, GE587.out, NB566_587.out, NB587_566.out, (Bq)⟩)
          rintro gb587 w51 ⟨hS_, h0_, h1_, h2_, h3_, h4_, h5_, h6_, h7_, h8_, h9_⟩; have n0_ : Aside0 (Kd.R (Kd.int .i64) 3 w51 w.heap.size (fun k_ => some k_ ≠ (.slice Ao45 x9_1.length co45 : Value).ownBlock) (.slice (some ad584) t570.length co47) t570) := ⟨h0_⟩; have n1_ : Aside0 (Kd.R k118 118 w51 w.heap.size (fun k_ => k_ ≠ gb587) u8 x8_1) := ⟨h1_⟩; have n2_ : Aside0 (Kd.R (Kd.int .i64) 3 w51 w.heap.size (fun k_ => some k_ ≠ (.slice (some ad584) t570.length co47 : Value).ownBlock) (.slice Ao45 x9_1.length co45) x9_1) := ⟨h2_⟩; have n3_ : Aside0 (w51.heap[gb566]? = some (.cells #[.int .i64 a0_0, .slice A0_1 l0_1.length c0_1] 33 (0, 0))) := ⟨h3_⟩; have n4_ : Aside0 (w51.heap[gb587]? = some (.cells #[.int .i64 0, .int .i64 0] 118 (0, 0))) := ⟨h4_⟩; have n5_ : Aside0 (w.heap.size ≤ gb587) := ⟨h5_⟩; have n6_ : Aside0 (w.heap.size ≤ gb587) := ⟨h6_⟩; have n7_ : Aside0 (gb566 ≠ gb587) := ⟨h7_⟩; have n8_ : Aside0 (gb587 ≠ gb566) := ⟨h8_⟩; have n9_ : Aside0 (Below w.heap.size w w51) := ⟨h9_⟩; clear HO_8 HO_9 HO572 BK566 HB; clear h0_ h1_ h2_ h3_ h4_ h5_ h6_ h7_ h8_ h9_; revert n0_ n1_ n2_ n3_ n4_ n5_ n6_ n7_ n8_ n9_; intro HO572 HO_8 HO_9 BK566 BK587 GW587 GE587 NB566_587 NB587_566 HB; have hHeld : w51.cell? ⟨gb566, 0, none⟩ = some (.int .i64 a0_0) ∧ w51.cell? ⟨gb566, 1, none⟩ = some (.slice A0_1 l0_1.length c0_1) ∧ w51.cell? ad584 = some (.int .i64 (rd t570 0)) ∧ w51.cell? ad584 = some (.int .i64 (rd t570 0)) := hS_; refine norm_ (a' := ?_) ?_ ?_
          rotate_left
          ·simp only [putAll, aP]
           rfl
          refine oZ 13 none (bA 14 16383) HT_.out (fun K hK => ?_); have hs52 : w51.cell? ⟨gb587, 0, none⟩ = some (.int .i64 0) := cz BK587 0; have hfs52 := blk_frozen BK587.out 0; have hns52_0 := NB566_587.out; have hms52_0 := NB587_566.out; have hs53 : w51.cell? ⟨gb587, 1, none⟩ = some (.int .i64 0) := cz BK587 1; have hfs53 := blk_frozen BK587.out 1; have hns53_0 := NB566_587.out; have hms53_0 := NB587_566.out; refine skip_ (w1 := ?_) (by rfl) rfl ?_ ?_
          rotate_left
          ·go_simp
           rfl
          refine hK.out _ _ ⟨((cell_far (p := ⟨gb587, _, none⟩) NB566_587.out _).trans (((cell_far (p := ⟨gb587, _, none⟩) NB566_587.out _).trans (hHeld.1)))), ((cell_far (p := ⟨gb587, _, none⟩) NB566_587.out _).trans (((cell_far (p := ⟨gb587, _, none⟩) NB566_587.out _).trans (hHeld.2.1)))), ((cell_far (p := ⟨gb587, _, none⟩) (by first | exact Kd.own_blk (Kd.R_ne HO572.out BK587.out (by decide)) | (rw [add_block]; exact Kd.own_blk (Kd.R_ne HO572.out BK587.out (by decide))) | (show (Addr.add _ _).block ≠ _; rw [add_block]; exact Kd.own_blk (Kd.R_ne HO572.out BK587.out (by decide))) | (dsimp only; exact Kd.own_blk (Kd.R_ne HO572.out BK587.out (by decide)))) _).trans (((cell_far (p := ⟨gb587, _, none⟩) (by first | exact Kd.own_blk (Kd.R_ne HO572.out BK587.out (by decide)) | (rw [add_block]; exact Kd.own_blk (Kd.R_ne HO572.out BK587.out (by decide))) | (show (Addr.add _ _).block ≠ _; rw [add_block]; exact Kd.own_blk (Kd.R_ne HO572.out BK587.out (by decide))) | (dsimp only; exact Kd.own_blk (Kd.R_ne HO572.out BK587.out (by decide)))) _).trans (hHeld.2.2.1)))), ((cell_far (p := ⟨gb587, _, none⟩) (by first | exact Kd.own_blk (Kd.R_ne HO572.out BK587.out (by decide)) | (rw [add_block]; exact Kd.own_blk (Kd.R_ne HO572.out BK587.out (by decide))) | (show (Addr.add _ _).block ≠ _; rw [add_block]; exact Kd.own_blk (Kd.R_ne HO572.out BK587.out (by decide))) | (dsimp only; exact Kd.own_blk (Kd.R_ne HO572.out BK587.out (by decide)))) _).trans (((cell_far (p := ⟨gb587, _, none⟩) (by first | exact Kd.own_blk (Kd.R_ne HO572.out BK587.out (by decide)) | (rw [add_block]; exact Kd.own_blk (Kd.R_ne HO572.out BK587.out (by decide))) | (show (Addr.add _ _).block ≠ _; rw [add_block]; exact Kd.own_blk (Kd.R_ne HO572.out BK587.out (by decide))) | (dsimp only; exact Kd.own_blk (Kd.R_ne HO572.out BK587.out (by decide)))) _).trans (hHeld.2.2.2))))⟩ (fun hHeld => ?_); clear hK K; refine done_ (done_of HT_.out (by kernel_rfl)) ?_; have hnb54 := NB587_566.out; have hnc54 := NB566_587.out; obtain ⟨hcz55_0, hcz55_1, hfz55_0, hfz55_1⟩ := cf2 (w := w51) BK587
          try go_wp2_with (first | ((with_reducible refine gate_builtin (b := .append) (xs := #[.tmp 54, .tmp 56]) rfl ?_); (try (refine gate_guard (by rfl) ?_; dsimp only)); at_builtin; refine Kd.R_append k118 (w0 := w) w.heap.size rfl (.tmp 54) (.tmp 56) 111 118 (.agg #[(.int .i64 0), (.int .i64 0)]) 16 rfl Try.underlying111 info118 rfl (by decide) (by omega) u8 x8_1 (⟨t585, rd t570 0⟩ : S118) [.int .i64 t585, .int .i64 (rd t570 0)] (fun k_ => k_ ≠ gb587) (fun _ => False) rfl (by first | (go_simp; done) | (go_simp; rfl)) ?aP (fun _ hk => hk.elim) ?aF ?aO ?aB ?aS ?aL ?_; (case aP => exact k118_mkM _ _ _ (⟨t585, rd t570 0⟩ : S118)); (case aB => exact (Bq)); (case aF => exact (fun k_ hk => Kd.freshB (g := gb587) (o := .cells #[.int .i64 t585, .int .i64 (rd t570 0)] 118 (0, 0)) (by refine bp ?_; refine blk_put (cs := #[.int .i64 t585, .int .i64 0]) ?_ 1 _ rfl; refine bp ?_; refine blk_put (cs := #[.int .i64 0, .int .i64 0]) ?_ 0 _ rfl; exact Kz BK587.out) k_ hk)); (case aO => exact (Rz (Kd.R_mono (Kd.R_far (p := ⟨gb587, 1, none⟩) (Kd.R_far (p := ⟨gb587, 0, none⟩) (Kd.R_mono HO_8.out (fun k_ hk => (⟨hk, hk⟩ : _ ∧ k_ ≠ gb587))) (fun _ hk => hk.2) (.int .i64 t585)) (fun _ hk => hk.2) (.int .i64 (rd t570 0))) (fun _ hk => hk.1)))); (case aS => exact (below_size (w := w) (Bq))); (case aL => have := LMc42.out; omega); intro v589 w56 ho hb hg hat; rw [← Ny588.out] at ho; have n0_ := am (Kd.R_over' (Rz (Kd.R_mono (Kd.R_far (p := ⟨gb587, 1, none⟩) (Kd.R_far (p := ⟨gb587, 0, none⟩) (Kd.R_types HO_9.out BK587.out (by decide)) (fun _ hk => hk.2) (.int .i64 t585)) (fun _ hk => hk.2) (.int .i64 (rd t570 0))) (fun _ h_ => h_.1))) (Kd.R_typed (Rz (Kd.R_mono (Kd.R_far (p := ⟨gb587, 1, none⟩) (Kd.R_far (p := ⟨gb587, 0, none⟩) (Kd.R_mono HO_8.out (fun k_ hk => (⟨hk, hk⟩ : _ ∧ k_ ≠ gb587))) (fun _ hk => hk.2) (.int .i64 t585)) (fun _ hk => hk.2) (.int .i64 (rd t570 0))) (fun _ h_ => h_.1)))) (by decide) hg); have n1_ := am (blk_grown (g := gb566) (o := .cells #[.int .i64 a0_0, .slice A0_1 l0_1.length c0_1] 33 (0, 0)) (by refine bp ?_; refine blk_far ?_ NB566_587.out _; refine bp ?_; refine blk_far ?_ NB566_587.out _; exact Kz BK566.out) hg (Kd.R_ne HO_8.out BK566.out (by decide))); have n2_ := am (Kd.R_over' (Rz (Kd.R_mono (Kd.R_far (p := ⟨gb587, 1, none⟩) (Kd.R_far (p := ⟨gb587, 0, none⟩) (Kd.R_types HO572.out BK587.out (by decide)) (fun _ hk => hk.2) (.int .i64 t585)) (fun _ hk => hk.2) (.int .i64 (rd t570 0))) (fun _ h_ => h_.1))) (Kd.R_typed (Rz (Kd.R_mono (Kd.R_far (p := ⟨gb587, 1, none⟩) (Kd.R_far (p := ⟨gb587, 0, none⟩) (Kd.R_mono HO_8.out (fun k_ hk => (⟨hk, hk⟩ : _ ∧ k_ ≠ gb587))) (fun _ hk => hk.2) (.int .i64 t585)) (fun _ hk => hk.2) (.int .i64 (rd t570 0))) (fun _ h_ => h_.1)))) (by decide) hg); have n3_ := am (blk_grown (g := gb587) (o := .cells #[.int .i64 t585, .int .i64 (rd t570 0)] 118 (0, 0)) (by refine bp ?_; refine blk_put (cs := #[.int .i64 t585, .int .i64 0]) ?_ 1 _ rfl; refine bp ?_; refine blk_put (cs := #[.int .i64 0, .int .i64 0]) ?_ 0 _ rfl; exact Kz BK587.out) hg (Kd.R_away HO_8.out (fun _ hk => hk))); have n4_ := am (hb); have n5_ := am (ho); clear HO_9 BK566 HO572 BK587 HB HO_8; revert n0_ n1_ n2_ n3_ n4_ n5_; intro HO_9 BK566 HO572 BK587 HB HO590; clear ho hb hg hat; obtain ⟨hcz57_0, hcz57_1, hfz57_0, hfz57_1⟩ := cf2 (w := w56) BK587) | ((with_reducible refine gate_callee (f := 151) rfl ?_); refine gL (some 61) Try.func151 #[.slice Ao45 x9_1.length co45, .int .i64 t585] ?_; (with_reducible refine (spec_l1Drop.calls kj7 _ _ x9_1 t585 t591 _ ?side1 ?side2 A43.out).mono ?_); (case side1 => exact Cz ((Kd.R_reads' HO_9.out).2.2)); (case side2 => exact (Kd.R_reads' HO_9.out).2.1); rintro e w58 ⟨v592, rfl, ho0, hb⟩; refine ⟨_, rfl, ?_⟩; have n0_ := Re HO_9 (Kd.R_base ho0) hb; have n1_ := Re HO572 (Kd.R_base ho0) hb; have n2_ := Rb HO590 hb; have n3_ := Rm (Kd.R_new' (Kd.R_new' ho0 (Kd.R_lt (Rz HO_9.out))) (Kd.R_lt (Rz HO572.out))) HB; have n4_ := Kb BK566 hb; have n5_ := Kb BK587 hb; have n6_ := Bc HB hb; clear HO_9 HO572 HO590 BK566 BK587 HB; revert n0_ n1_ n2_ n3_ n4_ n5_ n6_; intro HO_9 HO572 HO590 HO593 BK566 BK587 HB; (try clear hb); (try clear hb2); (try clear hk); (try clear hi); (try clear ho0)))
          go_roundg kj7
          case measure => have := HK1.out; have := HJ7.out; omega
          case rel => exact ⟨(y588), (t591), (wrap64 (x10_1 + 1)), wZ, H', ⟨by have := HK1.out; have := HJ7.out; omega⟩, ⟨Rz (Kd.R_mono HO590.out (fun _ hk => trivial))⟩, ⟨Rz (Kd.R_mono HO593.out (fun _ hk => trivial))⟩, ⟨Kz BK566.out⟩, ⟨Bq⟩⟩
         ·rw [if_neg c42] at H
          exact absurd H (by simp)
        ·rw [if_neg c40] at H
         exact absurd H (by simp)
     ·replace c10 := Bool.eq_false_iff.mpr c10
      subst c10
      rw [if_neg Bool.false_ne_true] at H
      simp only [Option.some.injEq, Prod.mk.injEq] at H
      obtain ⟨rfl, rfl⟩ := H
      go_wp2
      go_ret2
      exact ⟨_, _, eZ, Rz HO_8.out, Rz HO_9.out, Bq⟩

def spec_reValue.l0 : Nat → Int → List Int → Int → Int → Int → Int → Int → List Int → Option (Int)
 | 0, _, _, _, _, _, _, _, _ => none
 | k + 1, x5, x13, x14, x15, x595000, x595001, x595002, x595003 => if x15 < x14 then (if 0 ≤ x15 then (if x15 < (x13.length : Int) then (if 0 ≤ (rd x13 x15) then (if (rd x13 x15) < (x595003.length : Int) then (spec_reValue.l0 k (Go.bits .xor .i64 x5 (rd x595003 (rd x13 x15))) x13 x14 (wrap64 (x15 + 1)) x595000 x595001 x595002 x595003) else (none)) else (none)) else (none)) else (none)) else (some x5)
def spec_reValue.f (k : Nat) (a0_0 : Int) (a0_1 : Int) (a0_2 : Int) (l0_3 : List Int) (a1 : ByteArray) : Option (Int) := (spec_peTriple.f k a0_0 a1 a0_1).bind fun t595 => (spec_reValue.l0 k 0 t595 (t595.length : Int) 0 a0_0 a0_1 a0_2 l0_3)
theorem spec_reValue.calls (k : Nat) (a0_0 : Int) (a0_1 : Int) (a0_2 : Int) (A0_3 : Option Addr) (c0_3 : Nat) (l0_3 : List Int) (a1 : ByteArray) (r : Int) (w : World) (hr0_3 : Kd.C (Kd.int .i64) w A0_3 l0_3.length l0_3) (hc0_3 : l0_3.length ≤ c0_3) (h : spec_reValue.f k a0_0 a0_1 a0_2 l0_3 a1 = some r) :
  Calls Try.prog 112 #[.agg #[.int .i64 a0_0, .int .i64 a0_1, .int .i64 a0_2, .slice A0_3 l0_3.length c0_3], .string a1] w fun e w' => e = .returned (.int .i64 r) ∧ Below w.heap.size w w' := by
 have hu71 := Try.underlying71; have HR0_3 := am hr0_3; have HC0_3 := am hc0_3; clear hr0_3 hc0_3; have HB := am (Below.refl w.heap.size w); have H : ((spec_peTriple.f k a0_0 a1 a0_1).bind fun t595 => (spec_reValue.l0 k 0 t595 (t595.length : Int) 0 a0_0 a0_1 a0_2 l0_3)) = some r := h; clear h; obtain ⟨t595, A3, H⟩ := ob H; (try dsimp -simprocs only at H); have H' := am H; clear H
 go_enter Try.func112, Try.ntmps112
 go_wp2_with (first | ((with_reducible refine gate_dst (N := 2) rfl ?_); refine bE 2 #[.int .i64 a0_0, .int .i64 a0_1, .int .i64 a0_2, .slice A0_3 l0_3.length c0_3] 71 ?_; intro gb594 hg w4 hbox hb; have n0_ := Bb HB hb; have n1_ := am (hbox); have n2_ := Gl HB hg; have n3_ := Gl HB hg; clear HB; revert n0_ n1_ n2_ n3_; intro HB BK594 GW594 GE594; clear hb hbox hg; obtain ⟨hcz5_0, hcz5_1, hcz5_2, hcz5_3, hfz5_0, hfz5_1, hfz5_2, hfz5_3⟩ := cf4 (w := w4) BK594) | ((with_reducible refine gate_callee (f := 135) rfl ?_); refine gL (some 13) Try.func135 #[.int .i64 a0_0, .string a1, .int .i64 a0_1] ?_; (with_reducible refine (spec_peTriple.calls k a0_0 a1 a0_1 t595 _ A3.out).mono ?_); rintro e w6 ⟨v596, rfl, ho0, hb⟩; refine ⟨_, rfl, ?_⟩; have n0_ := Rm ho0 HB; have n1_ := Kb BK594 hb; have n2_ := Bc HB hb; clear BK594 HB; revert n0_ n1_ n2_; intro HO597 BK594 HB; (try clear hb); (try clear hb2); (try clear hk); (try clear hi); (try clear ho0); obtain ⟨Ao7, co7, eo7⟩ := Kd.R_slice HO597.out; subst eo7))
 (try simp only [aP])
 go_loopg [5, 15] k (fun kq v5 v15 w' => ∃ (x5_1 : Int) (x15_1 : Int), v5 = .int .i64 x5_1 ∧ v15 = .int .i64 x15_1 ∧ Aside0 (spec_reValue.l0 kq x5_1 t595 (t595.length : Int) x15_1 a0_0 a0_1 a0_2 l0_3 = some r) ∧ Aside0 (kq ≤ k) ∧ Aside0 (Kd.R (Kd.int .i64) 3 w' w.heap.size (fun _ => True) (.slice Ao7 t595.length co7) t595) ∧ Aside0 (w'.heap[gb594]? = some (.cells #[.int .i64 a0_0, .int .i64 a0_1, .int .i64 a0_2, (.slice A0_3 l0_3.length c0_3)] 71 (0, 0))) ∧ Aside0 (Below w.heap.size w w'))
 case atStart => exact ⟨(0), (0), wZ, wZ, H', ⟨Nat.le_refl _⟩, ⟨Rz HO597.out⟩, ⟨Kz BK594.out⟩, ⟨Bq⟩⟩
 case round =>
  clear H'
  try clear c1
  try clear p2
  obtain ⟨x5_1, x15_1, rfl, rfl, HA, HK1, HO_13, BK594, HB⟩ := hrel; cases gk with
  | zero => exact absurd HA.out (by simp [spec_reValue.l0])
  | succ k1 =>
   have H := HA.out; clear HA
   simp only [spec_reValue.l0] at H
   by_cases c8 : x15_1 < (t595.length : Int)
   ·rw [if_pos c8] at H
    have c8b0 : decide (x15_1 < (t595.length : Int)) = true := decide_eq_true c8; clear c8
    by_cases c9 : 0 ≤ x15_1
    ·rw [if_pos c9] at H
     have c9b0 : decide (0 ≤ x15_1) = true := decide_eq_true c9; clear c9
     by_cases c10 : x15_1 < (t595.length : Int)
     ·rw [if_pos c10] at H
      have c10b0 : decide (x15_1 < (t595.length : Int)) = true := decide_eq_true c10; clear c10
      by_cases c11 : 0 ≤ (rd t595 x15_1)
      ·rw [if_pos c11] at H
       have c11b0 : decide (0 ≤ (rd t595 x15_1)) = true := decide_eq_true c11; clear c11
       by_cases c12 : (rd t595 x15_1) < (l0_3.length : Int)
       ·rw [if_pos c12] at H
        have c12b0 : decide ((rd t595 x15_1) < (l0_3.length : Int)) = true := decide_eq_true c12; clear c12; have H' := am H; clear H; obtain ⟨ad598, e598, hx598_0⟩ := Kd.at_int (Kd.R_reads' HO_13.out).2.2 x15_1 dT dT; cases e598; have p598 := eT (0 ≤ (x15_1 : Int)); have q598 := eT (x15_1 < (t595.length : Int)); obtain ⟨hcz13_0, hcz13_1, hcz13_2, hcz13_3, hfz13_0, hfz13_1, hfz13_2, hfz13_3⟩ := cf4 (w := wr) BK594; have p599 : 0 ≤ ((rd t595 x15_1) : Int) := dT; have q599 : (rd t595 x15_1) < (l0_3.length : Int) := dT; obtain ⟨ad599, e599, hx599_0⟩ := Kd.at_int HR0_3.out (rd t595 x15_1) p599 q599; cases e599; replace hx599_0 := (HB.out.cell (World.block_lt_of_cell? w _ hx599_0)).trans hx599_0; replace p599 := eq_true p599; replace q599 := eq_true q599
        go_wp2
        go_roundg k1
        case measure => have := HK1.out; omega
        case rel => exact ⟨(Go.bits .xor .i64 x5_1 (rd l0_3 (rd t595 x15_1))), (wrap64 (x15_1 + 1)), wZ, wZ, H', ⟨by have := HK1.out; omega⟩, ⟨Rz HO_13.out⟩, ⟨Kz BK594.out⟩, ⟨Bq⟩⟩
       ·rw [if_neg c12] at H
        exact absurd H (by simp)
      ·rw [if_neg c11] at H
       exact absurd H (by simp)
     ·rw [if_neg c10] at H
      exact absurd H (by simp)
    ·rw [if_neg c9] at H
     exact absurd H (by simp)
   ·rw [if_neg c8] at H
    have c8b0 : decide (x15_1 < (t595.length : Int)) = false := decide_eq_false c8; clear c8; obtain rfl := Option.some.inj H
    go_wp2
    go_ret
    exact ⟨eZ, Bq⟩

end Go.Proofs.Ytmehagedoaopeaa.PR
