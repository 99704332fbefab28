import Derived.Test.YtalfkfddpamnjaaGreatCA2
import Derived.Test.YtalfkfddpamnjaaGreatCA3
-- printed by a program of this session (wip/gp) out of the translation; Lean checks it
namespace Go.Proofs.YtalfkfddpamnjaaGreat.PA
open Go.RowKit Go.Proofs.YtalfkfddpamnjaaGreatW.PrintWords Go.Proofs.YtalfkfddpamnjaaGreatW.PrintLast Go.Proofs.YtalfkfddpamnjaaGreatW.PrintMore Go.Proofs.YtalfkfddpamnjaaGreatSq
attribute [local go_sem] max2_int min2_int max_two min_two max_three min_three max_four min_four   -- for this text's walks alone
attribute [local go_sem] Go.Proofs.YtalfkfddpamnjaaGreatGp.str_geq Go.Proofs.YtalfkfddpamnjaaGreatGp.str_gtr Go.Proofs.YtalfkfddpamnjaaGreatGp.str_leq
set_option linter.unusedVariables false
set_option linter.unusedSimpArgs false

set_option maxHeartbeats 8000000
set_option maxRecDepth 100000
mutual
def spec_trOf.l0 : Nat → List ByteArray → List ByteArray → List Bool → List Bool → List Int → List ByteArray → Int → Int → Option (Int × List Int × Int × List Int × ByteArray)
 | 0, _, _, _, _, _, _, _, _ => none
 | k + 1, x0, x3, x4, x5, x6, x13, x14, x15 => if x15 < x14 then (if 0 ≤ x15 then (if x15 < (x13.length : Int) then (if 0 ≤ (wrap64 (x15 + 1)) then (if (wrap64 (x15 + 1)) ≤ (x3.length : Int) then ((some (x3.drop ((wrap64 (x15 + 1)) : Int).toNat : List ByteArray)).bind fun y206 => (spec_trOf.l1 k x0 x3 x4 x5 x6 x15 (rdOf ByteArray.empty x13 x15) x13 x14 x15 y206 (y206.length : Int) 0)) else (none)) else (none)) else (none)) else (none)) else ((spec_biSome.f k x4).bind fun bt197 => ((spec_biSome.f k x5).bind fun bt201 => (some (bt197.1, bt197.2, bt201.1, bt201.2, strOfNums x6))))
def spec_trOf.l1 : Nat → List ByteArray → List ByteArray → List Bool → List Bool → List Int → Int → ByteArray → List ByteArray → Int → Int → List ByteArray → Int → Int → Option (Int × List Int × Int × List Int × ByteArray)
 | 0, _, _, _, _, _, _, _, _, _, _, _, _, _ => none
 | k + 1, x0, x3, x4, x5, x6, x7, x8, x13, x14, x15, x23, x24, x25 => if x25 < x24 then (if 0 ≤ x25 then (if x25 < (x23.length : Int) then (if ((rdOf ByteArray.empty x23 x25).size : Int) = (wrap64 ((x8.size : Int) + 1)) then ((spec_trBegins.f (rdOf ByteArray.empty x23 x25) x8).bind fun t211 => (if t211 = true then (if x4.length < 140737488355328 then (spec_trOf.l1 k x0 x3 (x4 ++ [true]) x5 x6 x7 x8 x13 x14 x15 x23 x24 (wrap64 (x25 + 1))) else (none)) else (spec_trOf.l1 k x0 x3 x4 x5 x6 x7 x8 x13 x14 x15 x23 x24 (wrap64 (x25 + 1))))) else (spec_trOf.l1 k x0 x3 x4 x5 x6 x7 x8 x13 x14 x15 x23 x24 (wrap64 (x25 + 1)))) else (none)) else (none)) else (if x4.length < 140737488355328 then ((some (x4 ++ [false] : List Bool)).bind fun y215 => ((spec_l1HasS.f k x0 x8).bind fun t218 => (if x5.length < 140737488355328 then ((some (x5 ++ [t218] : List Bool)).bind fun y219 => (if x7 > 0 then (if 0 ≤ (wrap64 ((x8.size : Int) - 1)) then (if (wrap64 ((x8.size : Int) - 1)) < (x8.size : Int) then (if x6.length < 140737488355328 then (spec_trOf.l0 k x0 x3 y215 y219 (x6 ++ [bt x8 (wrap64 ((x8.size : Int) - 1))]) x13 x14 (wrap64 (x15 + 1))) else (none)) else (none)) else (none)) else (spec_trOf.l0 k x0 x3 y215 y219 x6 x13 x14 (wrap64 (x15 + 1))))) else (none)))) else (none))
end
def spec_trOf.f (k : Nat) (l0 : List ByteArray) : Option (Int × List Int × Int × List Int × ByteArray) := (spec_trNodes.f k l0).bind fun t194 => (spec_trOf.l0 k l0 t194 ([] : List Bool) ([] : List Bool) ([] : List Int) t194 (t194.length : Int) 0)
theorem spec_trOf.mono_l : ∀ k, (∀ y0 y1 y2 y3 y4 y5 y6 y7, LeO (spec_trOf.l0 k y0 y1 y2 y3 y4 y5 y6 y7) (spec_trOf.l0 (k + 1) y0 y1 y2 y3 y4 y5 y6 y7)) ∧ (∀ y0 y1 y2 y3 y4 y5 y6 y7 y8 y9 y10 y11 y12, LeO (spec_trOf.l1 k y0 y1 y2 y3 y4 y5 y6 y7 y8 y9 y10 y11 y12) (spec_trOf.l1 (k + 1) y0 y1 y2 y3 y4 y5 y6 y7 y8 y9 y10 y11 y12))
 | 0 => ⟨fun _ _ _ _ _ _ _ _ r h => by simp [spec_trOf.l0] at h, fun _ _ _ _ _ _ _ _ _ _ _ _ _ r h => by simp [spec_trOf.l1] at h⟩
 | k + 1 => by
  obtain ⟨ih0, ih1⟩ := spec_trOf.mono_l k; refine ⟨?_, ?_⟩
  ·intro y0 y1 y2 y3 y4 y5 y6 y7
   unfold spec_trOf.l0
   repeat' first | (with_reducible first | exact ih0 _ _ _ _ _ _ _ _ | exact ih1 _ _ _ _ _ _ _ _ _ _ _ _ _ | exact spec_biSome.mono _ _ | exact spec_l1HasS.mono _ _ _ | exact spec_trNodes.mono _ _ | exact LeO.refl _ | exact LeO.none _ | refine LeO.ite ?_ ?_ | refine LeO.bind ?_ (fun _ => ?_)) | exact LeO.none _ | refine LeO.ite ?_ ?_ | refine LeO.bind ?_ (fun _ => ?_)
  ·intro y0 y1 y2 y3 y4 y5 y6 y7 y8 y9 y10 y11 y12
   unfold spec_trOf.l1
   repeat' first | (with_reducible first | exact ih0 _ _ _ _ _ _ _ _ | exact ih1 _ _ _ _ _ _ _ _ _ _ _ _ _ | exact spec_biSome.mono _ _ | exact spec_l1HasS.mono _ _ _ | exact spec_trNodes.mono _ _ | exact LeO.refl _ | exact LeO.none _ | refine LeO.ite ?_ ?_ | refine LeO.bind ?_ (fun _ => ?_)) | exact LeO.none _ | refine LeO.ite ?_ ?_ | refine LeO.bind ?_ (fun _ => ?_)
theorem spec_trOf.mono : ∀ a0 k, LeO (spec_trOf.f k a0) (spec_trOf.f (k + 1) a0) := by
 intro a0 k; obtain ⟨ih0, ih1⟩ := spec_trOf.mono_l k
 unfold spec_trOf.f
 repeat' first | (with_reducible first | exact ih0 _ _ _ _ _ _ _ _ | exact ih1 _ _ _ _ _ _ _ _ _ _ _ _ _ | exact spec_biSome.mono _ _ | exact spec_l1HasS.mono _ _ _ | exact spec_trNodes.mono _ _ | exact LeO.refl _ | exact LeO.none _ | refine LeO.ite ?_ ?_ | refine LeO.bind ?_ (fun _ => ?_)) | exact LeO.none _ | refine LeO.ite ?_ ?_ | refine LeO.bind ?_ (fun _ => ?_)
def spec_trOf.T18 : Bool × List (List Nat × List Nat) := (true, [([], []), ([0], [0]), ([], []), ([2, 1], [2]), ([], []), ([4], [4]), ([1, 3, 5], [1, 3, 5]), ([6, 3, 0, 1, 2, 3, 4, 5, 6], [6])])
def spec_trOf.B18 : List Nat := [0, 1, 0, 7, 0, 16, 63, 127]
theorem spec_trOf.tab18 : rtab .any (opsOf Tryz.f33 18) = spec_trOf.T18 := by kernel_rfl
theorem spec_trOf.bits18 : waitsOk spec_trOf.T18.2 spec_trOf.B18 = true := by kernel_rfl
theorem spec_trOf.calls (k : Nat) (A0 : Option Addr) (c0 : Nat) (l0 : List ByteArray) (r1 : Int) (r2 : List Int) (r3 : Int) (r4 : List Int) (r5 : ByteArray) (w : World) (hr0 : Kd.C Kd.string w A0 l0.length l0) (hc0 : l0.length ≤ c0) (h : spec_trOf.f k l0 = some (r1, r2, r3, r4, r5)) :
  Calls Tryz.prog 33 #[.slice A0 l0.length c0] w fun e w' => ∃ v1_ v3_ : Value, e = .returned (.agg #[.int .i64 r1, v1_, .int .i64 r3, v3_, .string r5]) ∧ Kd.R (Kd.int .i64) 3 w' w.heap.size (fun k_ => some k_ ≠ (v3_ : Value).ownBlock) v1_ r2 ∧ Kd.R (Kd.int .i64) 3 w' w.heap.size (fun k_ => some k_ ≠ (v1_ : Value).ownBlock) v3_ r4 ∧ Below w.heap.size w w' := by
 have hu32 := Tryz.underlying32; have HR0 := am hr0; have HC0 := am hc0; clear hr0 hc0; have HB := am (Below.refl w.heap.size w); have H : ((spec_trNodes.f k l0).bind fun t194 => (spec_trOf.l0 k l0 t194 ([] : List Bool) ([] : List Bool) ([] : List Int) t194 (t194.length : Int) 0)) = some (r1, r2, r3, r4, r5) := h; clear h; replace H := Option.bind_eq_some_iff.mp H; obtain ⟨t194, A20, H⟩ := H; (try dsimp -simprocs only at H); have A2 := am A20; clear A20; have H' := am H; clear H
 go_enter Tryz.func33, Tryz.ntmps33
 go_wp2_with (first | ((with_reducible refine gate_dst (N := 2) rfl ?_); refine bE 2 #[.int .i64 0, .slice none 0 0, .int .i64 0, .slice none 0 0, .string (⟨#[]⟩ : ByteArray)] 32 ?_; intro gb193 hg w3 hbox hb; have n0_ := Bb HB hb; have n1_ := am (hbox); have n2_ := Gl HB hg; have n3_ := Gl HB hg; clear HB; revert n0_ n1_ n2_ n3_; intro HB BK193 GW193 GE193; clear hb hbox hg) | ((with_reducible refine gate_callee (f := 18) rfl ?_); refine gL (some 12) Tryz.func18 #[.slice A0 l0.length c0] ?_; (with_reducible refine (spec_trNodes.calls k _ _ l0 t194 _ ?side1 ?side2 A2.out).mono ?_); (case side1 => exact Cz (Kd.C_below HR0.out HB.out)); (case side2 => exact HC0.out); rintro e w4 ⟨v195, rfl, ho0, hb⟩; refine ⟨_, rfl, ?_⟩; have n0_ := Rm ho0 HB; have n1_ := Kb BK193 hb; have n2_ := Bc HB hb; clear BK193 HB; revert n0_ n1_ n2_; intro HO196 BK193 HB; (try clear hb); (try clear hb2); (try clear hk); (try clear hi); (try clear ho0); obtain ⟨Ao5, co5, eo5⟩ := Kd.R_slice HO196.out; subst eo5))
 (try simp only [aP])
 go_loopg [4, 5, 6, 15] k (fun kq v4 v5 v6 v15 w' => ∃ (x4_1 : List Bool) (x5_1 : List Bool) (x6_1 : List Int) (x15_1 : Int), v15 = .int .i64 x15_1 ∧ Aside0 (spec_trOf.l0 kq l0 t194 x4_1 x5_1 x6_1 t194 (t194.length : Int) x15_1 = some (r1, r2, r3, r4, r5)) ∧ Aside0 (kq ≤ k) ∧ Aside0 (Kd.R Kd.string 9 w' w.heap.size (fun _ => True) (.slice Ao5 t194.length co5) t194) ∧ Aside0 (Kd.R Kd.bool 4 w' w.heap.size (fun k_ => some k_ ≠ (v5 : Value).ownBlock) v4 x4_1) ∧ Aside0 (Kd.R Kd.bool 4 w' w.heap.size (fun k_ => some k_ ≠ (v4 : Value).ownBlock) v5 x5_1) ∧ Aside0 (Kd.R (Kd.int .u8) 5 w' w.heap.size (fun _ => True) v6 x6_1) ∧ Aside0 (Kd.R Kd.string 9 w' w.heap.size (fun _ => True) (.slice Ao5 t194.length co5) t194) ∧ Aside0 (w'.heap[gb193]? = some (.cells #[.int .i64 0, (.slice none 0 0), .int .i64 0, (.slice none 0 0), .string (⟨#[]⟩ : ByteArray)] 32 (0, 0))) ∧ Aside0 (Below w.heap.size w w'))
 case atStart => exact ⟨(([] : List Bool)), (([] : List Bool)), (([] : List Int)), (0), wZ, H', ⟨Nat.le_refl _⟩, ⟨Rz HO196.out⟩, ⟨nZ⟩, ⟨nZ⟩, ⟨nZ⟩, ⟨Rz HO196.out⟩, ⟨Kz BK193.out⟩, ⟨Bq⟩⟩
 case round =>
  clear H'
  try clear c1
  try clear p2
  try clear c3
  obtain ⟨x4_1, x5_1, x6_1, x15_1, rfl, HA, HK1, HO_3, HO_4, HO_5, HO_6, HO_13, BK193, HB⟩ := hrel; cases gk with
  | zero => exact absurd HA.out (by simp [spec_trOf.l0])
  | succ k1 =>
   have H := HA.out; clear HA
   simp only [spec_trOf.l0] at H
   by_cases c6 : x15_1 < (t194.length : Int)
   ·rw [if_pos c6] at H
    have c6b0 : decide (x15_1 < (t194.length : Int)) = true := decide_eq_true c6; clear c6
    by_cases c7 : 0 ≤ x15_1
    ·rw [if_pos c7] at H
     have c7b0 : decide (0 ≤ x15_1) = true := decide_eq_true c7; clear c7
     by_cases c8 : x15_1 < (t194.length : Int)
     ·rw [if_pos c8] at H
      have c8b0 : decide (x15_1 < (t194.length : Int)) = true := decide_eq_true c8; clear c8; obtain ⟨ji9, hji9⟩ : ∃ j_ : Int, (wrap64 (x15_1 + 1)) = j_ := ⟨_, rfl⟩
      replace H : (if 0 ≤ (ji9) then (if (ji9) ≤ (t194.length : Int) then ((some (t194.drop ((ji9) : Int).toNat : List ByteArray)).bind fun y206 => (spec_trOf.l1 k1 l0 t194 x4_1 x5_1 x6_1 x15_1 (rdOf ByteArray.empty t194 x15_1) t194 (t194.length : Int) x15_1 y206 (y206.length : Int) 0)) else (none)) else (none)) = some (r1, r2, r3, r4, r5) := by first | (rw [hji9] at H; exact H) | (simp only [hji9] at H ⊢; exact H)
      have hji9w : (IntKind.i64.wrap (x15_1 + 1)) = ji9 := (i64_w _).trans hji9
      by_cases c10 : 0 ≤ (ji9)
      ·rw [if_pos c10] at H
       have c10b0 := eq_true c10; have c10b1 : decide (0 ≤ (ji9)) = true := decide_eq_true c10; clear c10
       by_cases c11 : (ji9) ≤ (t194.length : Int)
       ·rw [if_pos c11] at H
        have c11b0 := eq_true c11; have c11b1 : decide ((ji9) ≤ (t194.length : Int)) = true := decide_eq_true c11; clear c11; obtain ⟨y206, hy206⟩ : ∃ y_ : List ByteArray, y_ = (t194.drop ((ji9) : Int).toNat) := ⟨_, rfl⟩
        replace H : (spec_trOf.l1 k1 l0 t194 x4_1 x5_1 x6_1 x15_1 (rdOf ByteArray.empty t194 x15_1) t194 (t194.length : Int) x15_1 y206 (y206.length : Int) 0) = some (r1, r2, r3, r4, r5) := by first | (rw [hy206]; with_reducible exact H) | (have H2_ := (Option.bind_some _ _).symm.trans H; rw [hy206]; with_reducible exact H2_) | (have H2_ := (Option.bind_some _ _).symm.trans H; with_reducible exact H2_) | with_reducible exact H | (rw [hy206]; exact H) | exact H
        have Ny206 := am hy206; clear hy206; have H' := am H; clear H; obtain ⟨ad205, e205, hx205_0⟩ := Kd.at_string (Kd.R_reads' HO_13.out).2.2 x15_1 dT dT; cases e205; have p205 := eT (0 ≤ (x15_1 : Int)); have q205 := eT (x15_1 < (t194.length : Int)); have q12 : ((ji9) : Int) ≤ ((t194.length : Int) : Int) := dT; obtain ⟨i012, hi012, _, hsz12, _⟩ := info_parts info9; have hroom12 : t194.length ≤ co5 := (Kd.R_reads' HO_3.out).2.1; have hC12 : Kd.C Kd.string _ (some ad205) t194.length t194 := (Kd.R_reads' HO_3.out).2.2; have q012 : (0 : Int) ≤ ((ji9) : Int) := dT; have hcut12 := cut_from (P := Tryz.prog) 37 9 .i64 Tryz.underlying37 hi012 1 hsz12 (some ad205) t194.length co5 (ji9) q012 q12; have hr12 := Kd.C_drop (m := ((ji9) : Int).toNat) (c := co5) hC12 (by omega) hroom12; obtain ⟨A12, hA12⟩ : ∃ A1, A1 = (if co5 = ((ji9) : Int).toNat then (some ad205) else ((some ad205) : Option Addr).map (·.add (((ji9) : Int).toNat * 1))) := ⟨_, rfl⟩; obtain ⟨c12, hc12⟩ : ∃ c1, c1 = co5 - ((ji9) : Int).toNat := ⟨_, rfl⟩; have hy12 : y206.length = t194.length - ((ji9) : Int).toNat := (by rw [Ny206.out, List.length_drop] <;> omega); rw [show (t194).drop ((ji9) : Int).toNat = y206 from Ny206.out.symm] at hr12; replace hr12 : Kd.C Kd.string _ A12 y206.length y206 := (by rw [hA12]; exact hr12); rw [← hy12, ← hA12, ← hc12] at hcut12; have HR209 := am hr12; have HC209 := am (show y206.length ≤ c12 from by rw [hy12, hc12]; exact Nat.sub_le_sub_right hroom12 _); clear hr12 hC12 hroom12 hi012 hsz12 hc12; have KY12 := am hy12; have KA12 := am hA12; clear hy12 hA12; have KL12 := am (show ((ji9) : Int).toNat ≤ t194.length from by omega); replace q12 := eq_true q12
        go_wp2
        go_loopg [4, 25] k1 (fun kq v4 v25 w' => ∃ (x4_2 : List Bool) (x25_2 : Int), v25 = .int .i64 x25_2 ∧ Aside0 (spec_trOf.l1 kq l0 t194 x4_2 x5_1 x6_1 x15_1 (rdOf ByteArray.empty t194 x15_1) t194 (t194.length : Int) x15_1 y206 (y206.length : Int) x25_2 = some (r1, r2, r3, r4, r5)) ∧ Aside0 (kq ≤ k1) ∧ Aside0 (Kd.R Kd.string 9 w' w.heap.size (fun _ => True) (.slice (some ad205) t194.length co5) t194) ∧ Aside0 (Kd.R Kd.bool 4 w' w.heap.size (fun k_ => some k_ ≠ (u5 : Value).ownBlock) v4 x4_2) ∧ Aside0 (Kd.R Kd.bool 4 w' w.heap.size (fun k_ => some k_ ≠ (v4 : Value).ownBlock) u5 x5_1) ∧ Aside0 (Kd.R (Kd.int .u8) 5 w' w.heap.size (fun _ => True) u6 x6_1) ∧ Aside0 (Kd.R Kd.string 9 w' w.heap.size (fun _ => True) (.slice (some ad205) t194.length co5) t194) ∧ Aside0 (w'.heap[gb193]? = some (.cells #[.int .i64 0, (.slice none 0 0), .int .i64 0, (.slice none 0 0), .string (⟨#[]⟩ : ByteArray)] 32 (0, 0))) ∧ Aside0 (Kd.C Kd.string w' A12 y206.length y206) ∧ Aside0 (Below w.heap.size w w'))
        case atStart => exact ⟨(x4_1), (0), wZ, H', ⟨Nat.le_refl _⟩, ⟨Rz HO_3.out⟩, ⟨Rz HO_4.out⟩, ⟨Rz HO_5.out⟩, ⟨Rz HO_6.out⟩, ⟨Rz HO_13.out⟩, ⟨Kz BK193.out⟩, ⟨by repeat (first | (with_reducible exact HR209.out) | (with_reducible refine Kd.C_alloc ?_ _) | (with_reducible refine Kd.C_drewN ?_ _) | (with_reducible refine Kd.C_drew ?_) | exact HR209.out)⟩, ⟨Bq⟩⟩
        case round =>
         clear H'
         try clear c1
         try clear q1
         try clear p2
         try clear q2
         try clear hx2
         try clear c3
         try clear c6
         try clear c6b0
         try clear p6
         try clear c7
         try clear c7b0
         try clear c8
         try clear c8b0
         try clear c10
         try clear c10b0
         try clear c10b1
         try clear c11
         try clear c11b0
         try clear c11b1
         try clear c12
         try clear q12
         try clear hx205_0
         try clear p2
         try clear p205
         try clear q012
         try clear q12
         try clear q205
         obtain ⟨x4_2, x25_2, rfl, HA, HK2, HO_3, HO_4, HO_5, HO_6, HO_13, BK193, HR209, HB⟩ := hrel; cases gk with
         | zero => exact absurd HA.out (by simp [spec_trOf.l1])
         | succ k2 =>
          have H := HA.out; clear HA
          simp only [spec_trOf.l1] at H
          by_cases c13 : x25_2 < (y206.length : Int)
          ·rw [if_pos c13] at H
           have c13b0 : decide (x25_2 < (y206.length : Int)) = true := decide_eq_true c13; clear c13
           by_cases c14 : 0 ≤ x25_2
           ·rw [if_pos c14] at H
            have c14b0 : decide (0 ≤ x25_2) = true := decide_eq_true c14; clear c14
            by_cases c15 : x25_2 < (y206.length : Int)
            ·rw [if_pos c15] at H
             have c15b0 : decide (x25_2 < (y206.length : Int)) = true := decide_eq_true c15; clear c15
             by_cases c16 : ((rdOf ByteArray.empty y206 x25_2).size : Int) = (wrap64 (((rdOf ByteArray.empty t194 x15_1).size : Int) + 1))
             ·rw [if_pos c16] at H
              have c16b0 : (((rdOf ByteArray.empty y206 x25_2).size : Int) == (wrap64 (((rdOf ByteArray.empty t194 x15_1).size : Int) + 1))) = true := beq_iff_eq.mpr c16; have c16b1 : (((rdOf ByteArray.empty y206 x25_2).size : Int) != (wrap64 (((rdOf ByteArray.empty t194 x15_1).size : Int) + 1))) = false := bne_eq_false_iff_eq.mpr c16; clear c16; replace H := Option.bind_eq_some_iff.mp H; obtain ⟨t211, A170, H⟩ := H; (try dsimp -simprocs only at H); have A17 := am A170; clear A170
              by_cases c18 : t211 = true
              ·subst c18
               rw [if_pos rfl] at H
               by_cases c19 : x4_2.length < 140737488355328
               ·rw [if_pos c19] at H
                have LMc19 := am c19; clear c19; obtain ⟨y212, hy212⟩ : ∃ y_ : List Bool, y_ = (x4_2 ++ [true]) := ⟨_, rfl⟩
                replace H : (spec_trOf.l1 k2 l0 t194 y212 x5_1 x6_1 x15_1 (rdOf ByteArray.empty t194 x15_1) t194 (t194.length : Int) x15_1 y206 (y206.length : Int) (wrap64 (x25_2 + 1))) = some (r1, r2, r3, r4, r5) := by first | (rw [hy212]; with_reducible exact H) | (have H2_ := (Option.bind_some _ _).symm.trans H; rw [hy212]; with_reducible exact H2_) | (have H2_ := (Option.bind_some _ _).symm.trans H; with_reducible exact H2_) | with_reducible exact H | (rw [hy212]; exact H) | exact H
                have Ny212 := am hy212; clear hy212; have H' := am H; clear H; obtain ⟨ad210, e210, hx210_0⟩ := Kd.at_string HR209.out x25_2 dT dT; cases e210; have p210 := eT (0 ≤ (x25_2 : Int)); have q210 := eT (x25_2 < (y206.length : Int))
                go_wp2_with (first | (go_at_call 50; (with_reducible refine (spec_trBegins.calls (rdOf ByteArray.empty y206 x25_2) (rdOf ByteArray.empty t194 x15_1) true _ A17.out).mono ?_); rintro e w' ⟨rfl, ⟨nd, rfl⟩⟩) | ((with_reducible refine gate_builtin (b := .append) (xs := #[.tmp 40, .tmp 41]) rfl ?_); at_builtin; refine Kd.R_append Kd.bool (w0 := w) w.heap.size rfl (.tmp 40) (.tmp 41) 61 4 (.bool false) 1 rfl Tryz.underlying61 info4 rfl (by decide) (by omega) u4 x4_2 true [.bool true] (fun k_ => some k_ ≠ (u5 : Value).ownBlock) (fun _ => False) rfl rfl ?aP (fun _ hk => hk.elim) ?aF ?aO ?aB ?aS ?aL ?_; (case aP => exact rfl); (case aB => exact (Bq)); (case aF => exact (fun k_ hk => Kd.fresh' (Kd.R_lt (Rz HO_5.out)) k_ hk)); (case aO => exact (Rz HO_4.out)); (case aS => exact (below_size (w := w) (Bq))); (case aL => have := LMc19.out; omega); intro v213 w20 ho hb hg hat; rw [← Ny212.out] at ho; have n0_ := am (Kd.R_over' (Rz HO_3.out) (Kd.R_typed (Rz HO_4.out)) (by decide) hg); have n1_ := am (Kd.R_after (ok := (fun _ => True)) (Rz (Kd.R_mono HO_5.out (fun _ hk => ⟨trivial, hk⟩))) hg hat); have n2_ := am (Kd.R_over' (Rz HO_6.out) (Kd.R_typed (Rz HO_4.out)) (by decide) hg); have n3_ := am (Kd.R_over' (Rz HO_13.out) (Kd.R_typed (Rz HO_4.out)) (by decide) hg); have n4_ := am (blk_grown (g := gb193) (o := .cells #[.int .i64 0, .slice none 0 0, .int .i64 0, .slice none 0 0, .string (⟨#[]⟩ : ByteArray)] 32 (0, 0)) (Kz BK193.out) hg (Kd.R_ne HO_4.out BK193.out (by decide))); have n5_ := am (hb); have n6_ := am ((show Kd.C Kd.string w20 (some ad210) y206.length y206 from by rw [Ny206.out, KA12.out]; exact Kd.C_drop (m := ((ji9) : Int).toNat) (c := co5) ((Kd.R_reads' (Kd.R_over' (Rz HO_3.out) (Kd.R_typed (Rz HO_4.out)) (by decide) hg)).2.2) KL12.out ((Kd.R_reads' (Kd.R_over' (Rz HO_3.out) (Kd.R_typed (Rz HO_4.out)) (by decide) hg)).2.1))); have n7_ := am (ho); clear HO_3 HO_5 HO_6 HO_13 BK193 HB HR209 HO_4; revert n0_ n1_ n2_ n3_ n4_ n5_ n6_ n7_; intro HO_3 HO_5 HO_6 HO_13 BK193 HB HR209 HO214; clear ho hb hg hat))
                go_roundg k2
                case measure => have := HK1.out; have := HK2.out; omega
                case rel => exact ⟨(y212), (wrap64 (x25_2 + 1)), wZ, H', ⟨by have := HK1.out; have := HK2.out; omega⟩, ⟨Rz HO_3.out⟩, ⟨Rz HO214.out⟩, ⟨Rz (Kd.R_mono HO_5.out (fun _ hk => hk.2))⟩, ⟨Rz HO_6.out⟩, ⟨Rz HO_13.out⟩, ⟨Kz BK193.out⟩, ⟨by repeat (first | (with_reducible exact HR209.out) | (with_reducible refine Kd.C_alloc ?_ _) | (with_reducible refine Kd.C_drewN ?_ _) | (with_reducible refine Kd.C_drew ?_) | exact HR209.out)⟩, ⟨Bq⟩⟩
               ·rw [if_neg c19] at H
                exact absurd H (by simp)
              ·replace c18 := Bool.eq_false_iff.mpr c18
               subst c18
               rw [if_neg (show ¬ (false = true) by decide)] at H; have H' := am H; clear H; obtain ⟨ad210, e210, hx210_0⟩ := Kd.at_string HR209.out x25_2 dT dT; cases e210; have p210 := eT (0 ≤ (x25_2 : Int)); have q210 := eT (x25_2 < (y206.length : Int))
               go_wp2_with (first | (go_at_call 50; (with_reducible refine (spec_trBegins.calls (rdOf ByteArray.empty y206 x25_2) (rdOf ByteArray.empty t194 x15_1) false _ A17.out).mono ?_); rintro e w' ⟨rfl, ⟨nd, rfl⟩⟩))
               go_roundg k2
               case measure => have := HK1.out; have := HK2.out; omega
               case rel => exact ⟨(x4_2), (wrap64 (x25_2 + 1)), wZ, H', ⟨by have := HK1.out; have := HK2.out; omega⟩, ⟨Rz HO_3.out⟩, ⟨Rz HO_4.out⟩, ⟨Rz HO_5.out⟩, ⟨Rz HO_6.out⟩, ⟨Rz HO_13.out⟩, ⟨Kz BK193.out⟩, ⟨by repeat (first | (with_reducible exact HR209.out) | (with_reducible refine Kd.C_alloc ?_ _) | (with_reducible refine Kd.C_drewN ?_ _) | (with_reducible refine Kd.C_drew ?_) | exact HR209.out)⟩, ⟨Bq⟩⟩
             ·rw [if_neg c16] at H
              have c16b0 : (((rdOf ByteArray.empty y206 x25_2).size : Int) == (wrap64 (((rdOf ByteArray.empty t194 x15_1).size : Int) + 1))) = false := beq_eq_false_iff_ne.mpr c16; have c16b1 : (((rdOf ByteArray.empty y206 x25_2).size : Int) != (wrap64 (((rdOf ByteArray.empty t194 x15_1).size : Int) + 1))) = true := bne_iff_ne.mpr c16; have H' := am H; clear H; obtain ⟨ad210, e210, hx210_0⟩ := Kd.at_string HR209.out x25_2 dT dT; cases e210; have p210 := eT (0 ≤ (x25_2 : Int)); have q210 := eT (x25_2 < (y206.length : Int))
              go_wp2
              go_roundg k2
              case measure => have := HK1.out; have := HK2.out; omega
              case rel => exact ⟨(x4_2), (wrap64 (x25_2 + 1)), wZ, H', ⟨by have := HK1.out; have := HK2.out; omega⟩, ⟨Rz HO_3.out⟩, ⟨Rz HO_4.out⟩, ⟨Rz HO_5.out⟩, ⟨Rz HO_6.out⟩, ⟨Rz HO_13.out⟩, ⟨Kz BK193.out⟩, ⟨by repeat (first | (with_reducible exact HR209.out) | (with_reducible refine Kd.C_alloc ?_ _) | (with_reducible refine Kd.C_drewN ?_ _) | (with_reducible refine Kd.C_drew ?_) | exact HR209.out)⟩, ⟨Bq⟩⟩
            ·rw [if_neg c15] at H
             exact absurd H (by simp)
           ·rw [if_neg c14] at H
            exact absurd H (by simp)
          ·rw [if_neg c13] at H
           have c13b0 : decide (x25_2 < (y206.length : Int)) = false := decide_eq_false c13; clear c13
           by_cases c21 : x4_2.length < 140737488355328
           ·rw [if_pos c21] at H
            have LMc21 := am c21; clear c21; obtain ⟨y215, hy215⟩ : ∃ y_ : List Bool, y_ = (x4_2 ++ [false]) := ⟨_, rfl⟩
            replace H : ((spec_l1HasS.f k2 l0 (rdOf ByteArray.empty t194 x15_1)).bind fun t218 => (if x5_1.length < 140737488355328 then ((some (x5_1 ++ [t218] : List Bool)).bind fun y219 => (if x15_1 > 0 then (if 0 ≤ (wrap64 (((rdOf ByteArray.empty t194 x15_1).size : Int) - 1)) then (if (wrap64 (((rdOf ByteArray.empty t194 x15_1).size : Int) - 1)) < ((rdOf ByteArray.empty t194 x15_1).size : Int) then (if x6_1.length < 140737488355328 then (spec_trOf.l0 k2 l0 t194 y215 y219 (x6_1 ++ [bt (rdOf ByteArray.empty t194 x15_1) (wrap64 (((rdOf ByteArray.empty t194 x15_1).size : Int) - 1))]) t194 (t194.length : Int) (wrap64 (x15_1 + 1))) else (none)) else (none)) else (none)) else (spec_trOf.l0 k2 l0 t194 y215 y219 x6_1 t194 (t194.length : Int) (wrap64 (x15_1 + 1))))) else (none))) = some (r1, r2, r3, r4, r5) := by first | (rw [hy215]; with_reducible exact H) | (have H2_ := (Option.bind_some _ _).symm.trans H; rw [hy215]; with_reducible exact H2_) | (have H2_ := (Option.bind_some _ _).symm.trans H; with_reducible exact H2_) | with_reducible exact H | (rw [hy215]; exact H) | exact H
            have Ny215 := am hy215; clear hy215; replace H := Option.bind_eq_some_iff.mp H; obtain ⟨t218, A220, H⟩ := H; (try dsimp -simprocs only at H); have A22 := am A220; clear A220
            by_cases c23 : x5_1.length < 140737488355328
            ·rw [if_pos c23] at H
             have LMc23 := am c23; clear c23; obtain ⟨y219, hy219⟩ : ∃ y_ : List Bool, y_ = (x5_1 ++ [t218]) := ⟨_, rfl⟩
             replace H : (if x15_1 > 0 then (if 0 ≤ (wrap64 (((rdOf ByteArray.empty t194 x15_1).size : Int) - 1)) then (if (wrap64 (((rdOf ByteArray.empty t194 x15_1).size : Int) - 1)) < ((rdOf ByteArray.empty t194 x15_1).size : Int) then (if x6_1.length < 140737488355328 then (spec_trOf.l0 k2 l0 t194 y215 y219 (x6_1 ++ [bt (rdOf ByteArray.empty t194 x15_1) (wrap64 (((rdOf ByteArray.empty t194 x15_1).size : Int) - 1))]) t194 (t194.length : Int) (wrap64 (x15_1 + 1))) else (none)) else (none)) else (none)) else (spec_trOf.l0 k2 l0 t194 y215 y219 x6_1 t194 (t194.length : Int) (wrap64 (x15_1 + 1)))) = some (r1, r2, r3, r4, r5) := by first | (rw [hy219]; with_reducible exact H) | (have H2_ := (Option.bind_some _ _).symm.trans H; rw [hy219]; with_reducible exact H2_) | (have H2_ := (Option.bind_some _ _).symm.trans H; with_reducible exact H2_) | with_reducible exact H | (rw [hy219]; exact H) | exact H
             have Ny219 := am hy219; clear hy219
             by_cases c24 : x15_1 > 0
             ·rw [if_pos c24] at H
              have c24b0 : decide (0 < x15_1) = true := decide_eq_true c24; clear c24; obtain ⟨ji25, hji25⟩ : ∃ j_ : Int, (wrap64 (((rdOf ByteArray.empty t194 x15_1).size : Int) - 1)) = j_ := ⟨_, rfl⟩
              replace H : (if 0 ≤ (ji25) then (if (ji25) < ((rdOf ByteArray.empty t194 x15_1).size : Int) then (if x6_1.length < 140737488355328 then (spec_trOf.l0 k2 l0 t194 y215 y219 (x6_1 ++ [bt (rdOf ByteArray.empty t194 x15_1) (ji25)]) t194 (t194.length : Int) (wrap64 (x15_1 + 1))) else (none)) else (none)) else (none)) = some (r1, r2, r3, r4, r5) := by first | (rw [hji25] at H; exact H) | (simp only [hji25] at H ⊢; exact H)
              (try rw [hji25] at A22)
              have hji25w : (IntKind.i64.wrap (((rdOf ByteArray.empty t194 x15_1).size : Int) - 1)) = ji25 := (i64_w _).trans hji25
              by_cases c26 : 0 ≤ (ji25)
              ·rw [if_pos c26] at H
               have c26b0 : decide (0 ≤ (ji25)) = true := decide_eq_true c26; clear c26
               by_cases c27 : (ji25) < ((rdOf ByteArray.empty t194 x15_1).size : Int)
               ·rw [if_pos c27] at H
                have c27b0 : decide ((ji25) < ((rdOf ByteArray.empty t194 x15_1).size : Int)) = true := decide_eq_true c27; clear c27
                by_cases c29 : x6_1.length < 140737488355328
                ·rw [if_pos c29] at H
                 have LMc29 := am c29; clear c29; obtain ⟨y222, hy222⟩ : ∃ y_ : List Int, y_ = (x6_1 ++ [bt (rdOf ByteArray.empty t194 x15_1) (ji25)]) := ⟨_, rfl⟩
                 replace H : (spec_trOf.l0 k2 l0 t194 y215 y219 y222 t194 (t194.length : Int) (wrap64 (x15_1 + 1))) = some (r1, r2, r3, r4, r5) := by first | (rw [hy222]; with_reducible exact H) | (have H2_ := (Option.bind_some _ _).symm.trans H; rw [hy222]; with_reducible exact H2_) | (have H2_ := (Option.bind_some _ _).symm.trans H; with_reducible exact H2_) | with_reducible exact H | (rw [hy222]; exact H) | exact H
                 have Ny222 := am hy222; clear hy222; have H' := am H; clear H
                 go_wp2_with (first | ((with_reducible refine gate_builtin (b := .append) (xs := #[.tmp 44, .tmp 45]) rfl ?_); at_builtin; refine Kd.R_append Kd.bool (w0 := w) w.heap.size rfl (.tmp 44) (.tmp 45) 61 4 (.bool false) 1 rfl Tryz.underlying61 info4 rfl (by decide) (by omega) u4 x4_2 false [.bool false] (fun k_ => some k_ ≠ (u5 : Value).ownBlock) (fun _ => False) rfl rfl ?aP (fun _ hk => hk.elim) ?aF ?aO ?aB ?aS ?aL ?_; (case aP => exact rfl); (case aB => exact (Bq)); (case aF => exact (fun k_ hk => Kd.fresh' (Kd.R_lt (Rz HO_5.out)) k_ hk)); (case aO => exact (Rz HO_4.out)); (case aS => exact (below_size (w := w) (Bq))); (case aL => have := LMc21.out; omega); intro v216 w30 ho hb hg hat; rw [← Ny215.out] at ho; have n0_ := am (Kd.R_over' (Rz HO_3.out) (Kd.R_typed (Rz HO_4.out)) (by decide) hg); have n1_ := am (Kd.R_after (ok := (fun _ => True)) (Rz (Kd.R_mono HO_5.out (fun _ hk => ⟨trivial, hk⟩))) hg hat); have n2_ := am (Kd.R_over' (Rz HO_6.out) (Kd.R_typed (Rz HO_4.out)) (by decide) hg); have n3_ := am (Kd.R_over' (Rz HO_13.out) (Kd.R_typed (Rz HO_4.out)) (by decide) hg); have n4_ := am (blk_grown (g := gb193) (o := .cells #[.int .i64 0, .slice none 0 0, .int .i64 0, .slice none 0 0, .string (⟨#[]⟩ : ByteArray)] 32 (0, 0)) (Kz BK193.out) hg (Kd.R_ne HO_4.out BK193.out (by decide))); have n5_ := am (hb); have n6_ := am ((show Kd.C Kd.string w30 A12 y206.length y206 from by rw [Ny206.out, KA12.out]; exact Kd.C_drop (m := ((ji9) : Int).toNat) (c := co5) ((Kd.R_reads' (Kd.R_over' (Rz HO_3.out) (Kd.R_typed (Rz HO_4.out)) (by decide) hg)).2.2) KL12.out ((Kd.R_reads' (Kd.R_over' (Rz HO_3.out) (Kd.R_typed (Rz HO_4.out)) (by decide) hg)).2.1))); have n7_ := am (ho); clear HO_3 HO_5 HO_6 HO_13 BK193 HB HR209 HO_4; revert n0_ n1_ n2_ n3_ n4_ n5_ n6_ n7_; intro HO_3 HO_5 HO_6 HO_13 BK193 HB HR209 HO217; clear ho hb hg hat) | ((with_reducible refine gate_callee (f := 51) rfl ?_); refine gL (some 50) Tryz.func51 #[.slice A0 l0.length c0, .string (rdOf ByteArray.empty t194 x15_1)] ?_; (with_reducible refine (spec_l1HasS.calls k2 _ _ l0 (rdOf ByteArray.empty t194 x15_1) t218 _ ?side1 ?side2 A22.out).mono ?_); (case side1 => exact Cz (Kd.C_below HR0.out HB.out)); (case side2 => exact HC0.out); rintro e w' ⟨rfl, ⟨nd, rfl⟩⟩; refine ⟨_, rfl, ?_⟩) | ((with_reducible refine gate_builtin (b := .append) (xs := #[.tmp 47, .tmp 51]) rfl ?_); at_builtin; refine Kd.R_append Kd.bool (w0 := w) w.heap.size rfl (.tmp 47) (.tmp 51) 61 4 (.bool false) 1 rfl Tryz.underlying61 info4 rfl (by decide) (by omega) u5 x5_1 t218 [.bool t218] (fun k_ => some k_ ≠ (v216 : Value).ownBlock) (fun _ => False) rfl rfl ?aP (fun _ hk => hk.elim) ?aF ?aO ?aB ?aS ?aL ?_; (case aP => exact rfl); (case aB => exact (Bq)); (case aF => exact (fun k_ hk => Kd.fresh' (Kd.R_lt (Rz HO217.out)) k_ hk)); (case aO => exact (Rz (Kd.R_mono HO_5.out (fun _ hk => hk.2)))); (case aS => exact (below_size (w := w) (Bq))); (case aL => have := LMc23.out; omega); intro v220 w31 ho hb hg hat; rw [← Ny219.out] at ho; have n0_ := am (Kd.R_over' (Rz HO_3.out) (Kd.R_typed (Rz HO_5.out)) (by decide) hg); have n1_ := am (Kd.R_over' (Rz HO_6.out) (Kd.R_typed (Rz HO_5.out)) (by decide) hg); have n2_ := am (Kd.R_over' (Rz HO_13.out) (Kd.R_typed (Rz HO_5.out)) (by decide) hg); have n3_ := am (blk_grown (g := gb193) (o := .cells #[.int .i64 0, .slice none 0 0, .int .i64 0, .slice none 0 0, .string (⟨#[]⟩ : ByteArray)] 32 (0, 0)) (Kz BK193.out) hg (Kd.R_ne HO_5.out BK193.out (by decide))); have n4_ := am (Kd.R_after (ok := (fun _ => True)) (Rz (Kd.R_mono HO217.out (fun _ hk => ⟨trivial, hk⟩))) hg hat); have n5_ := am (hb); have n6_ := am ((show Kd.C Kd.string w31 A12 y206.length y206 from by rw [Ny206.out, KA12.out]; exact Kd.C_drop (m := ((ji9) : Int).toNat) (c := co5) ((Kd.R_reads' (Kd.R_over' (Rz HO_3.out) (Kd.R_typed (Rz HO_5.out)) (by decide) hg)).2.2) KL12.out ((Kd.R_reads' (Kd.R_over' (Rz HO_3.out) (Kd.R_typed (Rz HO_5.out)) (by decide) hg)).2.1))); have n7_ := am (ho); clear HO_3 HO_6 HO_13 BK193 HO217 HB HR209 HO_5; revert n0_ n1_ n2_ n3_ n4_ n5_ n6_ n7_; intro HO_3 HO_6 HO_13 BK193 HO217 HB HR209 HO221; clear ho hb hg hat; have p28 : 0 ≤ ((ji25) : Int) := dT; have q28 : (ji25) < ((rdOf ByteArray.empty t194 x15_1).size : Int) := dT; have hx28 := bt_at (rdOf ByteArray.empty t194 x15_1) (ji25); replace p28 := eq_true p28; replace q28 := eq_true q28) | ((with_reducible refine gate_builtin (b := .append) (xs := #[.tmp 55, .tmp 61]) rfl ?_); at_builtin; refine Kd.R_append (Kd.int .u8) (w0 := w) w.heap.size rfl (.tmp 55) (.tmp 61) 62 5 (.int .u8 0) 1 rfl Tryz.underlying62 info5 rfl (by decide) (by omega) u6 x6_1 (bt (rdOf ByteArray.empty t194 x15_1) (ji25)) [.int .u8 (bt (rdOf ByteArray.empty t194 x15_1) (ji25))] (fun _ => True) (fun _ => False) rfl rfl ?aP (fun _ hk => hk.elim) ?aF ?aO ?aB ?aS ?aL ?_; (case aP => exact rfl); (case aB => exact (Bq)); (case aF => exact (fun _ _ => trivial)); (case aO => exact (Rz HO_6.out)); (case aS => exact (below_size (w := w) (Bq))); (case aL => have := LMc29.out; omega); intro v223 w32 ho hb hg hat; rw [← Ny222.out] at ho; have n0_ := am (Kd.R_over' (Rz HO_3.out) (Kd.R_typed (Rz HO_6.out)) (by decide) hg); have n1_ := am (Kd.R_over' (Rz HO_13.out) (Kd.R_typed (Rz HO_6.out)) (by decide) hg); have n2_ := am (blk_grown (g := gb193) (o := .cells #[.int .i64 0, .slice none 0 0, .int .i64 0, .slice none 0 0, .string (⟨#[]⟩ : ByteArray)] 32 (0, 0)) (Kz BK193.out) hg (Kd.R_ne HO_6.out BK193.out (by decide))); have n3_ := am (Kd.R_over' (Rz HO217.out) (Kd.R_typed (Rz HO_6.out)) (by decide) hg); have n4_ := am (Kd.R_over' (Rz HO221.out) (Kd.R_typed (Rz HO_6.out)) (by decide) hg); have n5_ := am (hb); have n6_ := am ((show Kd.C Kd.string w32 A12 y206.length y206 from by rw [Ny206.out, KA12.out]; exact Kd.C_drop (m := ((ji9) : Int).toNat) (c := co5) ((Kd.R_reads' (Kd.R_over' (Rz HO_3.out) (Kd.R_typed (Rz HO_6.out)) (by decide) hg)).2.2) KL12.out ((Kd.R_reads' (Kd.R_over' (Rz HO_3.out) (Kd.R_typed (Rz HO_6.out)) (by decide) hg)).2.1))); have n7_ := am (ho); clear HO_3 HO_13 BK193 HO217 HO221 HB HR209 HO_6; revert n0_ n1_ n2_ n3_ n4_ n5_ n6_ n7_; intro HO_3 HO_13 BK193 HO217 HO221 HB HR209 HO224; clear ho hb hg hat))
                 go_roundg k2
                 case measure => have := HK1.out; have := HK2.out; omega
                 case rel => exact ⟨(y215), (y219), (y222), (wrap64 (x15_1 + 1)), wZ, H', ⟨by have := HK1.out; have := HK2.out; omega⟩, ⟨Rz HO_3.out⟩, ⟨Rz (Kd.R_mono HO217.out (fun _ hk => hk.2))⟩, ⟨Rz HO221.out⟩, ⟨Rz HO224.out⟩, ⟨Rz HO_13.out⟩, ⟨Kz BK193.out⟩, ⟨Bq⟩⟩
                ·rw [if_neg c29] at H
                 exact absurd H (by simp)
               ·rw [if_neg c27] at H
                exact absurd H (by simp)
              ·rw [if_neg c26] at H
               exact absurd H (by simp)
             ·rw [if_neg c24] at H
              have c24b0 : decide (0 < x15_1) = false := decide_eq_false c24; clear c24; have H' := am H; clear H
              go_wp2_with (first | ((with_reducible refine gate_builtin (b := .append) (xs := #[.tmp 44, .tmp 45]) rfl ?_); at_builtin; refine Kd.R_append Kd.bool (w0 := w) w.heap.size rfl (.tmp 44) (.tmp 45) 61 4 (.bool false) 1 rfl Tryz.underlying61 info4 rfl (by decide) (by omega) u4 x4_2 false [.bool false] (fun k_ => some k_ ≠ (u5 : Value).ownBlock) (fun _ => False) rfl rfl ?aP (fun _ hk => hk.elim) ?aF ?aO ?aB ?aS ?aL ?_; (case aP => exact rfl); (case aB => exact (Bq)); (case aF => exact (fun k_ hk => Kd.fresh' (Kd.R_lt (Rz HO_5.out)) k_ hk)); (case aO => exact (Rz HO_4.out)); (case aS => exact (below_size (w := w) (Bq))); (case aL => have := LMc21.out; omega); intro v216 w33 ho hb hg hat; rw [← Ny215.out] at ho; have n0_ := am (Kd.R_over' (Rz HO_3.out) (Kd.R_typed (Rz HO_4.out)) (by decide) hg); have n1_ := am (Kd.R_after (ok := (fun _ => True)) (Rz (Kd.R_mono HO_5.out (fun _ hk => ⟨trivial, hk⟩))) hg hat); have n2_ := am (Kd.R_over' (Rz HO_6.out) (Kd.R_typed (Rz HO_4.out)) (by decide) hg); have n3_ := am (Kd.R_over' (Rz HO_13.out) (Kd.R_typed (Rz HO_4.out)) (by decide) hg); have n4_ := am (blk_grown (g := gb193) (o := .cells #[.int .i64 0, .slice none 0 0, .int .i64 0, .slice none 0 0, .string (⟨#[]⟩ : ByteArray)] 32 (0, 0)) (Kz BK193.out) hg (Kd.R_ne HO_4.out BK193.out (by decide))); have n5_ := am (hb); have n6_ := am ((show Kd.C Kd.string w33 A12 y206.length y206 from by rw [Ny206.out, KA12.out]; exact Kd.C_drop (m := ((ji9) : Int).toNat) (c := co5) ((Kd.R_reads' (Kd.R_over' (Rz HO_3.out) (Kd.R_typed (Rz HO_4.out)) (by decide) hg)).2.2) KL12.out ((Kd.R_reads' (Kd.R_over' (Rz HO_3.out) (Kd.R_typed (Rz HO_4.out)) (by decide) hg)).2.1))); have n7_ := am (ho); clear HO_3 HO_5 HO_6 HO_13 BK193 HB HR209 HO_4; revert n0_ n1_ n2_ n3_ n4_ n5_ n6_ n7_; intro HO_3 HO_5 HO_6 HO_13 BK193 HB HR209 HO217; clear ho hb hg hat) | ((with_reducible refine gate_callee (f := 51) rfl ?_); refine gL (some 50) Tryz.func51 #[.slice A0 l0.length c0, .string (rdOf ByteArray.empty t194 x15_1)] ?_; (with_reducible refine (spec_l1HasS.calls k2 _ _ l0 (rdOf ByteArray.empty t194 x15_1) t218 _ ?side1 ?side2 A22.out).mono ?_); (case side1 => exact Cz (Kd.C_below HR0.out HB.out)); (case side2 => exact HC0.out); rintro e w' ⟨rfl, ⟨nd, rfl⟩⟩; refine ⟨_, rfl, ?_⟩) | ((with_reducible refine gate_builtin (b := .append) (xs := #[.tmp 47, .tmp 51]) rfl ?_); at_builtin; refine Kd.R_append Kd.bool (w0 := w) w.heap.size rfl (.tmp 47) (.tmp 51) 61 4 (.bool false) 1 rfl Tryz.underlying61 info4 rfl (by decide) (by omega) u5 x5_1 t218 [.bool t218] (fun k_ => some k_ ≠ (v216 : Value).ownBlock) (fun _ => False) rfl rfl ?aP (fun _ hk => hk.elim) ?aF ?aO ?aB ?aS ?aL ?_; (case aP => exact rfl); (case aB => exact (Bq)); (case aF => exact (fun k_ hk => Kd.fresh' (Kd.R_lt (Rz HO217.out)) k_ hk)); (case aO => exact (Rz (Kd.R_mono HO_5.out (fun _ hk => hk.2)))); (case aS => exact (below_size (w := w) (Bq))); (case aL => have := LMc23.out; omega); intro v220 w34 ho hb hg hat; rw [← Ny219.out] at ho; have n0_ := am (Kd.R_over' (Rz HO_3.out) (Kd.R_typed (Rz HO_5.out)) (by decide) hg); have n1_ := am (Kd.R_over' (Rz HO_6.out) (Kd.R_typed (Rz HO_5.out)) (by decide) hg); have n2_ := am (Kd.R_over' (Rz HO_13.out) (Kd.R_typed (Rz HO_5.out)) (by decide) hg); have n3_ := am (blk_grown (g := gb193) (o := .cells #[.int .i64 0, .slice none 0 0, .int .i64 0, .slice none 0 0, .string (⟨#[]⟩ : ByteArray)] 32 (0, 0)) (Kz BK193.out) hg (Kd.R_ne HO_5.out BK193.out (by decide))); have n4_ := am (Kd.R_after (ok := (fun _ => True)) (Rz (Kd.R_mono HO217.out (fun _ hk => ⟨trivial, hk⟩))) hg hat); have n5_ := am (hb); have n6_ := am ((show Kd.C Kd.string w34 A12 y206.length y206 from by rw [Ny206.out, KA12.out]; exact Kd.C_drop (m := ((ji9) : Int).toNat) (c := co5) ((Kd.R_reads' (Kd.R_over' (Rz HO_3.out) (Kd.R_typed (Rz HO_5.out)) (by decide) hg)).2.2) KL12.out ((Kd.R_reads' (Kd.R_over' (Rz HO_3.out) (Kd.R_typed (Rz HO_5.out)) (by decide) hg)).2.1))); have n7_ := am (ho); clear HO_3 HO_6 HO_13 BK193 HO217 HB HR209 HO_5; revert n0_ n1_ n2_ n3_ n4_ n5_ n6_ n7_; intro HO_3 HO_6 HO_13 BK193 HO217 HB HR209 HO221; clear ho hb hg hat))
              go_roundg k2
              case measure => have := HK1.out; have := HK2.out; omega
              case rel => exact ⟨(y215), (y219), (x6_1), (wrap64 (x15_1 + 1)), wZ, H', ⟨by have := HK1.out; have := HK2.out; omega⟩, ⟨Rz HO_3.out⟩, ⟨Rz (Kd.R_mono HO217.out (fun _ hk => hk.2))⟩, ⟨Rz HO221.out⟩, ⟨Rz HO_6.out⟩, ⟨Rz HO_13.out⟩, ⟨Kz BK193.out⟩, ⟨Bq⟩⟩
            ·rw [if_neg c23] at H
             exact absurd H (by simp)
           ·rw [if_neg c21] at H
            exact absurd H (by simp)
       ·rw [if_neg c11] at H
        exact absurd H (by simp)
      ·rw [if_neg c10] at H
       exact absurd H (by simp)
     ·rw [if_neg c8] at H
      exact absurd H (by simp)
    ·rw [if_neg c7] at H
     exact absurd H (by simp)
   ·rw [if_neg c6] at H
    have c6b0 : decide (x15_1 < (t194.length : Int)) = false := decide_eq_false c6; clear c6; replace H := Option.bind_eq_some_iff.mp H; obtain ⟨⟨t197, t198⟩, A350, H⟩ := H; (try dsimp -simprocs only at H); have A35 := am A350; clear A350; replace H := Option.bind_eq_some_iff.mp H; obtain ⟨⟨t201, t202⟩, A360, H⟩ := H; (try dsimp -simprocs only at H); have A36 := am A360; clear A360
    simp only [Option.some.injEq, Prod.mk.injEq] at H
    obtain ⟨rfl, rfl, rfl, rfl, rfl⟩ := H; obtain ⟨Ao37, co37, eo37⟩ := Kd.R_slice HO_4.out; subst eo37; obtain ⟨Ao38, co38, eo38⟩ := Kd.R_slice HO_5.out; subst eo38
    try go_wp2
    have n0_ := am (Kd.R_drew HO_3.out); have n1_ := am (Kd.R_drew HO_4.out); have n2_ := am (Kd.R_drew HO_5.out); have n3_ := am (Kd.R_drew HO_6.out); have n4_ := am (Kd.R_drew HO_13.out); have n5_ := am (blk_drew BK193.out); have n6_ := am (below_drew1 HB.out); clear HO_3 HO_4 HO_5 HO_6 HO_13 BK193 HB; revert n0_ n1_ n2_ n3_ n4_ n5_ n6_; intro HO_3 HO_4 HO_5 HO_6 HO_13 BK193 HB; refine start_ (n := 8) (S := fun w' => True) (ds := []) (bA 8 0) (by kernel_rfl) rfl rfl trivial (fun hHeld => ?_); refine with_tabW spec_trOf.tab18 spec_trOf.bits18 (fun HT_ HW_ => ?_); generalize wr.drew = w39 at HO_3 HO_4 HO_5 HO_6 HO_13 BK193 HB hHeld ⊢; refine pZ 0 (some 64) (bA 8 1) HT_.out ?_; refine pZ 2 (some 66) (bA 8 5) HT_.out ?_; refine pZ 4 (some 68) (bA 8 21) HT_.out ?_; refine join_ (σ := Value × Value) 2 (bA 8 63) (fun s_ => [(65, .agg #[.int .i64 t197, s_.1]), (67, .agg #[.int .i64 t201, s_.2]), (69, .string (strOfNums x6_1))]) (fun s_ w' => (Kd.R (Kd.int .i64) 3 w' w.heap.size (fun k_ => some k_ ≠ (s_.2 : Value).ownBlock) s_.1 t198) ∧ (Kd.R (Kd.int .i64) 3 w' w.heap.size (fun k_ => some k_ ≠ (s_.1 : Value).ownBlock) s_.2 t202) ∧ (Kd.R Kd.string 9 w' w.heap.size (fun _ => True) (.slice Ao5 t194.length co5) t194) ∧ (Kd.R Kd.string 9 w' w.heap.size (fun _ => True) (.slice Ao5 t194.length co5) t194) ∧ (Kd.R Kd.bool 4 w' w.heap.size (fun k_ => some k_ ≠ (.slice Ao38 x5_1.length co38 : Value).ownBlock) (.slice Ao37 x4_1.length co37) x4_1) ∧ (Kd.R Kd.bool 4 w' w.heap.size (fun k_ => some k_ ≠ (.slice Ao37 x4_1.length co37 : Value).ownBlock) (.slice Ao38 x5_1.length co38) x5_1) ∧ (Kd.R (Kd.int .u8) 5 w' w.heap.size (fun _ => True) u6 x6_1) ∧ (w'.heap[gb193]? = some (.cells #[.int .i64 0, .slice none 0 0, .int .i64 0, .slice none 0 0, .string (⟨#[]⟩ : ByteArray)] 32 (0, 0))) ∧ (Below w.heap.size w w')) ?_ ?_
    rotate_left
    ·intro hCont
     refine two_ (i := 1) (j := 5) (Ni := some 65) (Nj := some 69) (bA 8 23) (bA 8 53) rfl rfl rfl rfl (two_of HT_.out (by kernel_rfl)) (by decide) (by decide) (fun K hK => ?_) (fun K hK => ?_)
     ·skip
      refine gZ Tryz.func52 #[.slice Ao37 x4_1.length co37] ?_
      with_reducible refine (spec_biSome.calls k1 _ _ x4_1 t197 t198 _ ?side1 ?side2 A35.out).mono ?_
      (case side1 => exact Cz ((Kd.R_reads' HO_4.out).2.2))
      (case side2 => exact (Kd.R_reads' HO_4.out).2.1)
      rintro e w40 ⟨v199, rfl, ho0, hb⟩; refine ⟨_, rfl, ?_⟩; have n0_ := Rb HO_3 hb; have n1_ := Rb HO_4 hb; have n2_ := Rb HO_5 hb; have n3_ := Rb HO_6 hb; have n4_ := Rb HO_13 hb; have n5_ := Rm ho0 HB; have n6_ := Kb BK193 hb; have n7_ := Bc HB hb; clear HO_3 HO_4 HO_5 HO_6 HO_13 BK193 HB; revert n0_ n1_ n2_ n3_ n4_ n5_ n6_ n7_; intro HO_3 HO_4 HO_5 HO_6 HO_13 HO200 BK193 HB
      (try clear hb)
      (try clear hb2)
      (try clear hk)
      (try clear hi)
      (try clear ho0)
      refine hK.out _ _ trivial (fun hHeld => ?_); clear hK K; refine norm_ (a' := ?_) ?_ ?_; rotate_left; show Act.put _ (some 65) _ = _; simp only [aP, i64_w, i32_w]; rfl; refine two_ (i := 3) (j := 5) (Ni := some 67) (Nj := some 69) (bA 8 31) (bA 8 55) rfl rfl rfl rfl (two_of HT_.out (by kernel_rfl)) (by decide) (by decide) (fun K hK => ?_) (fun K hK => ?_)
      ·skip
       refine gZ Tryz.func52 #[.slice Ao38 x5_1.length co38] ?_
       with_reducible refine (spec_biSome.calls k1 _ _ x5_1 t201 t202 _ ?side1 ?side2 A36.out).mono ?_
       (case side1 => exact Cz ((Kd.R_reads' HO_5.out).2.2))
       (case side2 => exact (Kd.R_reads' HO_5.out).2.1)
       rintro e w41 ⟨v203, rfl, ho0, hb⟩; refine ⟨_, rfl, ?_⟩; have n0_ := Rb HO_3 hb; have n1_ := Rb HO_4 hb; have n2_ := Rb HO_5 hb; have n3_ := Rb HO_6 hb; have n4_ := Rb HO_13 hb; have n5_ := Re HO200 (Kd.R_base ho0) hb; have n6_ := Rm (Kd.R_new' ho0 (Kd.R_lt (Rz HO200.out))) HB; have n7_ := Kb BK193 hb; have n8_ := Bc HB hb; clear HO_3 HO_4 HO_5 HO_6 HO_13 HO200 BK193 HB; revert n0_ n1_ n2_ n3_ n4_ n5_ n6_ n7_ n8_; intro HO_3 HO_4 HO_5 HO_6 HO_13 HO200 HO204 BK193 HB
       (try clear hb)
       (try clear hb2)
       (try clear hk)
       (try clear hi)
       (try clear ho0)
       obtain ⟨Ao43, co43, eo43⟩ := Kd.R_slice HO204.out
       (first | subst eo43 | (injection eo43 with f1_ f2_ f3_; have f4_ := f1_.symm; have f5_ := f3_.symm; clear f1_ f2_ f3_; subst f4_; subst f5_))
       obtain ⟨Ao44, co44, eo44⟩ := Kd.R_slice HO200.out
       (first | subst eo44 | (injection eo44 with f1_ f2_ f3_; have f4_ := f1_.symm; have f5_ := f3_.symm; clear f1_ f2_ f3_; subst f4_; subst f5_))
       refine hK.out _ _ trivial (fun hHeld => ?_); clear hK K; refine norm_ (a' := ?_) ?_ ?_; rotate_left; show Act.put _ (some 67) _ = _; simp only [aP, i64_w, i32_w]; rfl; refine oZ 5 (some 69) (bA 8 63) HT_.out (fun K hK => ?_); have hcv42 := own_string (P := Tryz.prog) Tryz.underlying62 Tryz.underlying5 Tryz.underlying9 (Kd.own_of_R HO_6.out); refine value_ (w1 := ?_) (v := ?_) (by rfl) rfl ?_ ?_
       rotate_left 2
       ·go_simp
        constructor
        ·rfl
        ·rfl
       clear hcv42; refine hK.out _ _ trivial (fun hHeld => ?_); clear hK K; refine norm_ (a' := ?_) ?_ ?_; rotate_left; show Act.put _ (some 69) _ = _; simp only [aP, i64_w, i32_w]; rfl; exact norm_ (by simp only [putAll, aP]) (hCont (.slice Ao44 t198.length co44, .slice Ao43 t202.length co43) _ ⟨(Rz (Kd.R_mono HO200.out (fun _ hk => hk.2))), (Rz (Kd.R_mono HO204.out (fun _ hk => hk.2))), (Rz HO_13.out), (Rz HO_3.out), (Rz HO_4.out), (Rz HO_5.out), (Rz HO_6.out), (Kz BK193.out), (Bq)⟩)
      ·skip
       have hcv41 := own_string (P := Tryz.prog) Tryz.underlying62 Tryz.underlying5 Tryz.underlying9 (Kd.own_of_R HO_6.out); refine value_ (w1 := ?_) (v := ?_) (by rfl) rfl ?_ ?_
       rotate_left 2
       ·go_simp
        constructor
        ·rfl
        ·rfl
       clear hcv41; refine hK.out _ _ trivial (fun hHeld => ?_); clear hK K; refine norm_ (a' := ?_) ?_ ?_; rotate_left; show Act.put _ (some 69) _ = _; simp only [aP, i64_w, i32_w]; rfl; refine oZ 3 (some 67) (bA 8 63) HT_.out (fun K hK => ?_); refine gZ Tryz.func52 #[.slice Ao38 x5_1.length co38] ?_
       with_reducible refine (spec_biSome.calls k1 _ _ x5_1 t201 t202 _ ?side1 ?side2 A36.out).mono ?_
       (case side1 => exact Cz ((Kd.R_reads' HO_5.out).2.2))
       (case side2 => exact (Kd.R_reads' HO_5.out).2.1)
       rintro e w42 ⟨v203, rfl, ho0, hb⟩; refine ⟨_, rfl, ?_⟩; have n0_ := Rb HO_3 hb; have n1_ := Rb HO_4 hb; have n2_ := Rb HO_5 hb; have n3_ := Rb HO_6 hb; have n4_ := Rb HO_13 hb; have n5_ := Re HO200 (Kd.R_base ho0) hb; have n6_ := Rm (Kd.R_new' ho0 (Kd.R_lt (Rz HO200.out))) HB; have n7_ := Kb BK193 hb; have n8_ := Bc HB hb; clear HO_3 HO_4 HO_5 HO_6 HO_13 HO200 BK193 HB; revert n0_ n1_ n2_ n3_ n4_ n5_ n6_ n7_ n8_; intro HO_3 HO_4 HO_5 HO_6 HO_13 HO200 HO204 BK193 HB
       (try clear hb)
       (try clear hb2)
       (try clear hk)
       (try clear hi)
       (try clear ho0)
       obtain ⟨Ao43, co43, eo43⟩ := Kd.R_slice HO204.out
       (first | subst eo43 | (injection eo43 with f1_ f2_ f3_; have f4_ := f1_.symm; have f5_ := f3_.symm; clear f1_ f2_ f3_; subst f4_; subst f5_))
       obtain ⟨Ao44, co44, eo44⟩ := Kd.R_slice HO200.out
       (first | subst eo44 | (injection eo44 with f1_ f2_ f3_; have f4_ := f1_.symm; have f5_ := f3_.symm; clear f1_ f2_ f3_; subst f4_; subst f5_))
       refine hK.out _ _ trivial (fun hHeld => ?_); clear hK K; refine norm_ (a' := ?_) ?_ ?_; rotate_left; show Act.put _ (some 67) _ = _; simp only [aP, i64_w, i32_w]; rfl; exact norm_ (by simp only [putAll, aP]) (hCont (.slice Ao44 t198.length co44, .slice Ao43 t202.length co43) _ ⟨(Rz (Kd.R_mono HO200.out (fun _ hk => hk.2))), (Rz (Kd.R_mono HO204.out (fun _ hk => hk.2))), (Rz HO_13.out), (Rz HO_3.out), (Rz HO_4.out), (Rz HO_5.out), (Rz HO_6.out), (Kz BK193.out), (Bq)⟩)
     ·skip
      have hcv40 := own_string (P := Tryz.prog) Tryz.underlying62 Tryz.underlying5 Tryz.underlying9 (Kd.own_of_R HO_6.out); refine value_ (w1 := ?_) (v := ?_) (by rfl) rfl ?_ ?_
      rotate_left 2
      ·go_simp
       constructor
       ·rfl
       ·rfl
      clear hcv40; refine hK.out _ _ trivial (fun hHeld => ?_); clear hK K; refine norm_ (a' := ?_) ?_ ?_; rotate_left; show Act.put _ (some 69) _ = _; simp only [aP, i64_w, i32_w]; rfl; refine oZ 1 (some 65) (bA 8 55) HT_.out (fun K hK => ?_); refine gZ Tryz.func52 #[.slice Ao37 x4_1.length co37] ?_
      with_reducible refine (spec_biSome.calls k1 _ _ x4_1 t197 t198 _ ?side1 ?side2 A35.out).mono ?_
      (case side1 => exact Cz ((Kd.R_reads' HO_4.out).2.2))
      (case side2 => exact (Kd.R_reads' HO_4.out).2.1)
      rintro e w41 ⟨v199, rfl, ho0, hb⟩; refine ⟨_, rfl, ?_⟩; have n0_ := Rb HO_3 hb; have n1_ := Rb HO_4 hb; have n2_ := Rb HO_5 hb; have n3_ := Rb HO_6 hb; have n4_ := Rb HO_13 hb; have n5_ := Rm ho0 HB; have n6_ := Kb BK193 hb; have n7_ := Bc HB hb; clear HO_3 HO_4 HO_5 HO_6 HO_13 BK193 HB; revert n0_ n1_ n2_ n3_ n4_ n5_ n6_ n7_; intro HO_3 HO_4 HO_5 HO_6 HO_13 HO200 BK193 HB
      (try clear hb)
      (try clear hb2)
      (try clear hk)
      (try clear hi)
      (try clear ho0)
      refine hK.out _ _ trivial (fun hHeld => ?_); clear hK K; refine norm_ (a' := ?_) ?_ ?_; rotate_left; show Act.put _ (some 65) _ = _; simp only [aP, i64_w, i32_w]; rfl; refine oZ 3 (some 67) (bA 8 63) HT_.out (fun K hK => ?_); refine gZ Tryz.func52 #[.slice Ao38 x5_1.length co38] ?_
      with_reducible refine (spec_biSome.calls k1 _ _ x5_1 t201 t202 _ ?side1 ?side2 A36.out).mono ?_
      (case side1 => exact Cz ((Kd.R_reads' HO_5.out).2.2))
      (case side2 => exact (Kd.R_reads' HO_5.out).2.1)
      rintro e w42 ⟨v203, rfl, ho0, hb⟩; refine ⟨_, rfl, ?_⟩; have n0_ := Rb HO_3 hb; have n1_ := Rb HO_4 hb; have n2_ := Rb HO_5 hb; have n3_ := Rb HO_6 hb; have n4_ := Rb HO_13 hb; have n5_ := Re HO200 (Kd.R_base ho0) hb; have n6_ := Rm (Kd.R_new' ho0 (Kd.R_lt (Rz HO200.out))) HB; have n7_ := Kb BK193 hb; have n8_ := Bc HB hb; clear HO_3 HO_4 HO_5 HO_6 HO_13 HO200 BK193 HB; revert n0_ n1_ n2_ n3_ n4_ n5_ n6_ n7_ n8_; intro HO_3 HO_4 HO_5 HO_6 HO_13 HO200 HO204 BK193 HB
      (try clear hb)
      (try clear hb2)
      (try clear hk)
      (try clear hi)
      (try clear ho0)
      obtain ⟨Ao43, co43, eo43⟩ := Kd.R_slice HO204.out
      (first | subst eo43 | (injection eo43 with f1_ f2_ f3_; have f4_ := f1_.symm; have f5_ := f3_.symm; clear f1_ f2_ f3_; subst f4_; subst f5_))
      obtain ⟨Ao44, co44, eo44⟩ := Kd.R_slice HO200.out
      (first | subst eo44 | (injection eo44 with f1_ f2_ f3_; have f4_ := f1_.symm; have f5_ := f3_.symm; clear f1_ f2_ f3_; subst f4_; subst f5_))
      refine hK.out _ _ trivial (fun hHeld => ?_); clear hK K; refine norm_ (a' := ?_) ?_ ?_; rotate_left; show Act.put _ (some 67) _ = _; simp only [aP, i64_w, i32_w]; rfl; exact norm_ (by simp only [putAll, aP]) (hCont (.slice Ao44 t198.length co44, .slice Ao43 t202.length co43) _ ⟨(Rz (Kd.R_mono HO200.out (fun _ hk => hk.2))), (Rz (Kd.R_mono HO204.out (fun _ hk => hk.2))), (Rz HO_13.out), (Rz HO_3.out), (Rz HO_4.out), (Rz HO_5.out), (Rz HO_6.out), (Kz BK193.out), (Bq)⟩)
    rintro ⟨v199, v203⟩ w45 ⟨h0_, h1_, h2_, h3_, h4_, h5_, h6_, h7_, h8_⟩; (try dsimp -simprocs only at h0_ h1_ h2_ h3_ h4_ h5_ h6_ h7_ h8_); have n0_ := am h0_; have n1_ := am h1_; have n2_ := am h2_; have n3_ := am h3_; have n4_ := am h4_; have n5_ := am h5_; have n6_ := am h6_; have n7_ := am h7_; have n8_ : Aside0 (Below w.heap.size w w45) := ⟨h8_⟩; clear HO_3 HO_4 HO_5 HO_6 HO_13 BK193 HB; clear h0_ h1_ h2_ h3_ h4_ h5_ h6_ h7_ h8_; revert n0_ n1_ n2_ n3_ n4_ n5_ n6_ n7_ n8_; intro HO200 HO204 HO_13 HO_3 HO_4 HO_5 HO_6 BK193 HB; have hHeld := trivial; obtain ⟨Ao46, co46, eo46⟩ := Kd.R_slice HO204.out
    (first | subst eo46 | (injection eo46 with f1_ f2_ f3_; have f4_ := f1_.symm; have f5_ := f3_.symm; clear f1_ f2_ f3_; subst f4_; subst f5_))
    obtain ⟨Ao47, co47, eo47⟩ := Kd.R_slice HO200.out
    (first | subst eo47 | (injection eo47 with f1_ f2_ f3_; have f4_ := f1_.symm; have f5_ := f3_.symm; clear f1_ f2_ f3_; subst f4_; subst f5_))
    refine norm_ (a' := ?_) ?_ ?_
    rotate_left
    ·simp only [putAll, aP]
     rfl
    refine pZ 6 (some 70) (bA 8 127) HT_.out ?_; refine oZ 7 none (bA 8 255) HT_.out (fun K hK => ?_); have hs48 : w45.cell? ⟨gb193, 0, none⟩ = some (.int .i64 0) := cz BK193 0; have hfs48 := blk_frozen BK193.out 0; have hs49 : w45.cell? ⟨gb193, 1, none⟩ = some (.slice none 0 0) := cz BK193 1; have hfs49 := blk_frozen BK193.out 1; have hs50 : w45.cell? ⟨gb193, 2, none⟩ = some (.int .i64 0) := cz BK193 2; have hfs50 := blk_frozen BK193.out 2; have hs51 : w45.cell? ⟨gb193, 3, none⟩ = some (.slice none 0 0) := cz BK193 3; have hfs51 := blk_frozen BK193.out 3; have hs52 : w45.cell? ⟨gb193, 4, none⟩ = some (.string (⟨#[]⟩ : ByteArray)) := cz BK193 4; have hfs52 := blk_frozen BK193.out 4; refine skip_ (w1 := ?_) (by rfl) rfl ?_ ?_
    rotate_left
    ·go_simp
     rfl
    refine hK.out _ _ trivial (fun hHeld => ?_); clear hK K; refine done_ (done_of HT_.out (by kernel_rfl)) ?_
    try go_wp2
    refine bodyPost_ret (results_cell_row rfl _ _ gb193 32 #[.int .i64 t197, .slice Ao47 t198.length co47, .int .i64 t201, .slice Ao46 t202.length co46, .string (strOfNums x6_1)] (0, 0) _ rfl (by (with_reducible repeat (first | refine blk_drewN ?_ _ | refine blk_drew ?_ | refine blk_alloc ?_ _)); refine blk_put (cs := #[.int .i64 t197, .slice Ao47 t198.length co47, .int .i64 t201, .slice Ao46 t202.length co46, .string (⟨#[]⟩ : ByteArray)]) ?_ 4 _ rfl; (with_reducible repeat (first | refine blk_drewN ?_ _ | refine blk_drew ?_ | refine blk_alloc ?_ _)); refine blk_put (cs := #[.int .i64 t197, .slice Ao47 t198.length co47, .int .i64 t201, .slice none 0 0, .string (⟨#[]⟩ : ByteArray)]) ?_ 3 _ rfl; (with_reducible repeat (first | refine blk_drewN ?_ _ | refine blk_drew ?_ | refine blk_alloc ?_ _)); refine blk_put (cs := #[.int .i64 t197, .slice Ao47 t198.length co47, .int .i64 0, .slice none 0 0, .string (⟨#[]⟩ : ByteArray)]) ?_ 2 _ rfl; (with_reducible repeat (first | refine blk_drewN ?_ _ | refine blk_drew ?_ | refine blk_alloc ?_ _)); refine blk_put (cs := #[.int .i64 t197, .slice none 0 0, .int .i64 0, .slice none 0 0, .string (⟨#[]⟩ : ByteArray)]) ?_ 1 _ rfl; (with_reducible repeat (first | refine blk_drewN ?_ _ | refine blk_drew ?_ | refine blk_alloc ?_ _)); refine blk_put (cs := #[.int .i64 0, .slice none 0 0, .int .i64 0, .slice none 0 0, .string (⟨#[]⟩ : ByteArray)]) ?_ 0 _ rfl; exact Kz BK193.out) Tryz.underlying32 rfl (by kernel_rfl)) rfl ?_; exact ⟨_, _, eZ, Rz (Kd.R_mono (Kd.R_far (p := ⟨gb193, 4, none⟩) (Kd.R_far (p := ⟨gb193, 3, none⟩) (Kd.R_far (p := ⟨gb193, 2, none⟩) (Kd.R_far (p := ⟨gb193, 1, none⟩) (Kd.R_far (p := ⟨gb193, 0, none⟩) (Kd.R_types HO200.out BK193.out (by decide)) (fun _ hk => hk.2) (.int .i64 t197)) (fun _ hk => hk.2) (.slice Ao47 t198.length co47)) (fun _ hk => hk.2) (.int .i64 t201)) (fun _ hk => hk.2) (.slice Ao46 t202.length co46)) (fun _ hk => hk.2) (.string (strOfNums x6_1))) (fun _ hk => hk.1)), Rz (Kd.R_mono (Kd.R_far (p := ⟨gb193, 4, none⟩) (Kd.R_far (p := ⟨gb193, 3, none⟩) (Kd.R_far (p := ⟨gb193, 2, none⟩) (Kd.R_far (p := ⟨gb193, 1, none⟩) (Kd.R_far (p := ⟨gb193, 0, none⟩) (Kd.R_types HO204.out BK193.out (by decide)) (fun _ hk => hk.2) (.int .i64 t197)) (fun _ hk => hk.2) (.slice Ao47 t198.length co47)) (fun _ hk => hk.2) (.int .i64 t201)) (fun _ hk => hk.2) (.slice Ao46 t202.length co46)) (fun _ hk => hk.2) (.string (strOfNums x6_1))) (fun _ hk => hk.1)), Bq⟩

def spec_l1Same.l0 : Nat → List Int → List Int → Int → Int → Option (Bool)
 | 0, _, _, _, _ => none
 | k + 1, x0, x1, x12, x13 => if x13 < x12 then (if 0 ≤ x13 then (if x13 < (x0.length : Int) then (if x13 < (x1.length : Int) then (if (rd x0 x13) = (rd x1 x13) then (spec_l1Same.l0 k x0 x1 x12 (wrap64 (x13 + 1))) else (some false)) else (none)) else (none)) else (none)) else (some true)
def spec_l1Same.f (k : Nat) (l0 : List Int) (l1 : List Int) : Option (Bool) := if (l0.length : Int) = (l1.length : Int) then (spec_l1Same.l0 k l0 l1 (l0.length : Int) 0) else (some false)
theorem spec_l1Same.mono_l : ∀ k, (∀ y0 y1 y2 y3, LeO (spec_l1Same.l0 k y0 y1 y2 y3) (spec_l1Same.l0 (k + 1) y0 y1 y2 y3))
 | 0 => fun _ _ _ _ r h => by simp [spec_l1Same.l0] at h
 | k + 1 => by
  have ih0 := spec_l1Same.mono_l k
  ·intro y0 y1 y2 y3
   unfold spec_l1Same.l0
   repeat' first | (with_reducible first | exact ih0 _ _ _ _ | exact LeO.refl _ | exact LeO.none _ | refine LeO.ite ?_ ?_ | refine LeO.bind ?_ (fun _ => ?_)) | exact LeO.none _ | refine LeO.ite ?_ ?_ | refine LeO.bind ?_ (fun _ => ?_)
theorem spec_l1Same.mono : ∀ a0 a1 k, LeO (spec_l1Same.f k a0 a1) (spec_l1Same.f (k + 1) a0 a1) := by
 intro a0 a1 k; have ih0 := spec_l1Same.mono_l k
 unfold spec_l1Same.f
 repeat' first | (with_reducible first | exact ih0 _ _ _ _ | exact LeO.refl _ | exact LeO.none _ | refine LeO.ite ?_ ?_ | refine LeO.bind ?_ (fun _ => ?_)) | exact LeO.none _ | refine LeO.ite ?_ ?_ | refine LeO.bind ?_ (fun _ => ?_)
theorem spec_l1Same.calls (k : Nat) (A0 : Option Addr) (c0 : Nat) (l0 : List Int) (A1 : Option Addr) (c1 : Nat) (l1 : List Int) (r : Bool) (w : World) (hr0 : Kd.C (Kd.int .i64) w A0 l0.length l0) (hc0 : l0.length ≤ c0) (hr1 : Kd.C (Kd.int .i64) w A1 l1.length l1) (hc1 : l1.length ≤ c1) (h : spec_l1Same.f k l0 l1 = some r) :
  Calls Tryz.prog 53 #[.slice A0 l0.length c0, .slice A1 l1.length c1] w fun e w' => e = .returned (.bool r) ∧ Drawn0 w w' := by
 have HR0 := am hr0; have HC0 := am hc0; clear hr0 hc0; have HR1 := am hr1; have HC1 := am hc1; clear hr1 hc1; have H : (if (l0.length : Int) = (l1.length : Int) then (spec_l1Same.l0 k l0 l1 (l0.length : Int) 0) else (some false)) = some r := h; clear h
 by_cases c3 : (l0.length : Int) = (l1.length : Int)
 ·rw [if_pos c3] at H
  have c3b0 : ((l0.length : Int) == (l1.length : Int)) = true := beq_iff_eq.mpr c3; have c3b1 : ((l0.length : Int) != (l1.length : Int)) = false := bne_eq_false_iff_eq.mpr c3
  have c3b2 : (l0.length == l1.length) = true := by first | simpa using c3 | (simp at c3 ⊢; omega)
  clear c3; have H' := am H; clear H
  go_enter Tryz.func53, Tryz.ntmps53
  go_wp2
  repeat (go_quiet (fail); try go_wp2)
  go_loopg [13] k (fun kq v13 w' => ∃ (x13_1 : Int), v13 = .int .i64 x13_1 ∧ Aside0 (spec_l1Same.l0 kq l0 l1 (l0.length : Int) x13_1 = some r) ∧ Aside0 (kq ≤ k) ∧ Drawn0 w w')
  case atStart => exact ⟨(0), wZ, H', ⟨Nat.le_refl _⟩, by repeat (first | exact Drawn0.refl _ | apply Drawn0.step)⟩
  case round =>
   clear H'
   try clear c1
   try clear p2
   try clear c3
   try clear c3b0
   try clear c3b1
   try clear c3b2
   obtain ⟨x13_1, rfl, HA, HK1, ⟨m1, rfl⟩⟩ := hrel; cases gk with
   | zero => exact absurd HA.out (by simp [spec_l1Same.l0])
   | succ k1 =>
    have H := HA.out; clear HA
    simp only [spec_l1Same.l0] at H
    by_cases c4 : x13_1 < (l0.length : Int)
    ·rw [if_pos c4] at H
     have c4b0 : decide (x13_1 < (l0.length : Int)) = true := decide_eq_true c4; clear c4
     by_cases c5 : 0 ≤ x13_1
     ·rw [if_pos c5] at H
      have c5b0 : decide (0 ≤ x13_1) = true := decide_eq_true c5; clear c5
      by_cases c6 : x13_1 < (l0.length : Int)
      ·rw [if_pos c6] at H
       have c6b0 : decide (x13_1 < (l0.length : Int)) = true := decide_eq_true c6; clear c6
       by_cases c7 : x13_1 < (l1.length : Int)
       ·rw [if_pos c7] at H
        have c7b0 : decide (x13_1 < (l1.length : Int)) = true := decide_eq_true c7; clear c7
        by_cases c8 : (rd l0 x13_1) = (rd l1 x13_1)
        ·rw [if_pos c8] at H
         have c8b0 : ((rd l0 x13_1) == (rd l1 x13_1)) = true := beq_iff_eq.mpr c8; have c8b1 : ((rd l0 x13_1) != (rd l1 x13_1)) = false := bne_eq_false_iff_eq.mpr c8; clear c8; have H' := am H; clear H; obtain ⟨ad225, e225, hx225_0⟩ := Kd.at_int HR0.out x13_1 dT dT; cases e225; have p225 := eT (0 ≤ (x13_1 : Int)); have q225 := eT (x13_1 < (l0.length : Int)); obtain ⟨ad226, e226, hx226_0⟩ := Kd.at_int HR1.out x13_1 dT dT; cases e226; have p226 := eT (0 ≤ (x13_1 : Int)); have q226 := eT (x13_1 < (l1.length : Int))
         go_wp2
         repeat (go_quiet (fail); try go_wp2)
         go_roundg k1
         case measure => have := HK1.out; omega
         case rel => exact ⟨(wrap64 (x13_1 + 1)), wZ, H', ⟨by have := HK1.out; omega⟩, by repeat (first | exact Drawn0.refl _ | apply Drawn0.step)⟩
        ·rw [if_neg c8] at H
         have c8b0 : ((rd l0 x13_1) == (rd l1 x13_1)) = false := beq_eq_false_iff_ne.mpr c8; have c8b1 : ((rd l0 x13_1) != (rd l1 x13_1)) = true := bne_iff_ne.mpr c8; obtain rfl := Option.some.inj H; obtain ⟨ad225, e225, hx225_0⟩ := Kd.at_int HR0.out x13_1 dT dT; cases e225; have p225 := eT (0 ≤ (x13_1 : Int)); have q225 := eT (x13_1 < (l0.length : Int)); obtain ⟨ad226, e226, hx226_0⟩ := Kd.at_int HR1.out x13_1 dT dT; cases e226; have p226 := eT (0 ≤ (x13_1 : Int)); have q226 := eT (x13_1 < (l1.length : Int))
         go_wp2
         repeat (go_quiet (fail); try go_wp2)
         go_ret
         exact ⟨by first | rfl | (simp; done) | (simp [*]; done), by repeat (first | exact Drawn0.refl _ | apply Drawn0.step)⟩
       ·rw [if_neg c7] at H
        exact absurd H (by simp)
      ·rw [if_neg c6] at H
       exact absurd H (by simp)
     ·rw [if_neg c5] at H
      exact absurd H (by simp)
    ·rw [if_neg c4] at H
     have c4b0 : decide (x13_1 < (l0.length : Int)) = false := decide_eq_false c4; clear c4; obtain rfl := Option.some.inj H
     go_wp2
     repeat (go_quiet (fail); try go_wp2)
     go_ret
     exact ⟨by first | rfl | (simp; done) | (simp [*]; done), by repeat (first | exact Drawn0.refl _ | apply Drawn0.step)⟩
 ·rw [if_neg c3] at H
  have c3b0 : ((l0.length : Int) == (l1.length : Int)) = false := beq_eq_false_iff_ne.mpr c3; have c3b1 : ((l0.length : Int) != (l1.length : Int)) = true := bne_iff_ne.mpr c3
  have c3b2 : (l0.length == l1.length) = false := by first | simpa using c3 | (simp at c3 ⊢; omega)
  obtain rfl := Option.some.inj H
  go_enter Tryz.func53, Tryz.ntmps53
  go_wp2
  repeat (go_quiet (fail); try go_wp2)
  go_ret
  exact ⟨by first | rfl | (simp; done) | (simp [*]; done), by repeat (first | exact Drawn0.refl _ | apply Drawn0.step)⟩

def spec_biSame.f (k : Nat) (a0_0 : Int) (l0_1 : List Int) (a1_0 : Int) (l1_1 : List Int) : Option (Bool) := if a0_0 = a1_0 then ((spec_l1Same.f k l0_1 l1_1).bind fun t229 => (some t229)) else (some false)
theorem spec_biSame.mono : ∀ a0 a1 a2 a3 k, LeO (spec_biSame.f k a0 a1 a2 a3) (spec_biSame.f (k + 1) a0 a1 a2 a3) := by
 intro a0 a1 a2 a3 k
 unfold spec_biSame.f
 repeat' first | (with_reducible first | exact spec_l1Same.mono _ _ _ | exact LeO.refl _ | exact LeO.none _ | refine LeO.ite ?_ ?_ | refine LeO.bind ?_ (fun _ => ?_)) | exact LeO.none _ | refine LeO.ite ?_ ?_ | refine LeO.bind ?_ (fun _ => ?_)
theorem spec_biSame.calls (k : Nat) (a0_0 : Int) (A0_1 : Option Addr) (c0_1 : Nat) (l0_1 : List Int) (a1_0 : Int) (A1_1 : Option Addr) (c1_1 : Nat) (l1_1 : List Int) (r : Bool) (w : World) (hr0_1 : Kd.C (Kd.int .i64) w A0_1 l0_1.length l0_1) (hc0_1 : l0_1.length ≤ c0_1) (hr1_1 : Kd.C (Kd.int .i64) w A1_1 l1_1.length l1_1) (hc1_1 : l1_1.length ≤ c1_1) (h : spec_biSame.f k a0_0 l0_1 a1_0 l1_1 = some r) :
  Calls Tryz.prog 34 #[.agg #[.int .i64 a0_0, .slice A0_1 l0_1.length c0_1], .agg #[.int .i64 a1_0, .slice A1_1 l1_1.length c1_1]] w fun e w' => e = .returned (.bool r) ∧ Below w.heap.size w w' := by
 have hu30 := Tryz.underlying30; have HR0_1 := am hr0_1; have HC0_1 := am hc0_1; clear hr0_1 hc0_1; have HR1_1 := am hr1_1; have HC1_1 := am hc1_1; clear hr1_1 hc1_1; have HB := am (Below.refl w.heap.size w); have H : (if a0_0 = a1_0 then ((spec_l1Same.f k l0_1 l1_1).bind fun t229 => (some t229)) else (some false)) = some r := h; clear h
 by_cases c3 : a0_0 = a1_0
 ·rw [if_pos c3] at H
  have c3b0 : (a0_0 == a1_0) = true := beq_iff_eq.mpr c3; have c3b1 : (a0_0 != a1_0) = false := bne_eq_false_iff_eq.mpr c3; clear c3; replace H := Option.bind_eq_some_iff.mp H; obtain ⟨t229, A40, H⟩ := H; (try dsimp -simprocs only at H); have A4 := am A40; clear A40; obtain rfl := Option.some.inj H
  go_enter Tryz.func34, Tryz.ntmps34
  go_wp2_with (first | ((with_reducible refine gate_dst (N := 2) rfl ?_); refine bE 2 #[.int .i64 a0_0, .slice A0_1 l0_1.length c0_1] 30 ?_; intro gb227 hg w5 hbox hb; have n0_ := Bb HB hb; have n1_ := am (hbox); have n2_ := Gl HB hg; have n3_ := Gl HB hg; clear HB; revert n0_ n1_ n2_ n3_; intro HB BK227 GW227 GE227; clear hb hbox hg) | ((with_reducible refine gate_dst (N := 3) rfl ?_); refine bE 3 #[.int .i64 a1_0, .slice A1_1 l1_1.length c1_1] 30 ?_; intro gb228 hg w6 hbox hb; have n0_ := Kb BK227 hb; have n1_ := Bc HB hb; have n2_ := am (hbox); have n3_ := Gm HB hg; have n4_ := Gm HB hg; have n5_ := Nl BK227 hg; have n6_ := Ng BK227 hg; clear BK227 HB; revert n0_ n1_ n2_ n3_ n4_ n5_ n6_; intro BK227 HB BK228 GW228 GE228 NB227_228 NB228_227; clear hb hbox hg; have hnb7 := NB227_228.out; have hnc7 := NB228_227.out; obtain ⟨hcz8_0, hcz8_1, hfz8_0, hfz8_1⟩ := cf2 (w := w6) BK227; obtain ⟨hcz9_0, hcz9_1, hfz9_0, hfz9_1⟩ := cf2 (w := w6) BK228) | (go_at_call 53; (with_reducible refine (spec_l1Same.calls k _ _ l0_1 _ _ l1_1 t229 _ ?side1 ?side2 ?side3 ?side4 A4.out).mono ?_); (case side1 => exact Cz (Kd.C_below HR0_1.out HB.out)); (case side2 => exact HC0_1.out); (case side3 => exact Cz (Kd.C_below HR1_1.out HB.out)); (case side4 => exact HC1_1.out); rintro e w' ⟨rfl, ⟨nd, rfl⟩⟩))
  go_ret
  exact ⟨eZ, Bq⟩
 ·rw [if_neg c3] at H
  have c3b0 : (a0_0 == a1_0) = false := beq_eq_false_iff_ne.mpr c3; have c3b1 : (a0_0 != a1_0) = true := bne_iff_ne.mpr c3; obtain rfl := Option.some.inj H
  go_enter Tryz.func34, Tryz.ntmps34
  go_wp2_with (first | ((with_reducible refine gate_dst (N := 2) rfl ?_); refine bE 2 #[.int .i64 a0_0, .slice A0_1 l0_1.length c0_1] 30 ?_; intro gb227 hg w10 hbox hb; have n0_ := Bb HB hb; have n1_ := am (hbox); have n2_ := Gl HB hg; have n3_ := Gl HB hg; clear HB; revert n0_ n1_ n2_ n3_; intro HB BK227 GW227 GE227; clear hb hbox hg) | ((with_reducible refine gate_dst (N := 3) rfl ?_); refine bE 3 #[.int .i64 a1_0, .slice A1_1 l1_1.length c1_1] 30 ?_; intro gb228 hg w11 hbox hb; have n0_ := Kb BK227 hb; have n1_ := Bc HB hb; have n2_ := am (hbox); have n3_ := Gm HB hg; have n4_ := Gm HB hg; have n5_ := Nl BK227 hg; have n6_ := Ng BK227 hg; clear BK227 HB; revert n0_ n1_ n2_ n3_ n4_ n5_ n6_; intro BK227 HB BK228 GW228 GE228 NB227_228 NB228_227; clear hb hbox hg; have hnb12 := NB227_228.out; have hnc12 := NB228_227.out; obtain ⟨hcz13_0, hcz13_1, hfz13_0, hfz13_1⟩ := cf2 (w := w11) BK227; obtain ⟨hcz14_0, hcz14_1, hfz14_0, hfz14_1⟩ := cf2 (w := w11) BK228))
  go_ret
  exact ⟨eZ, Bq⟩

mutual
def spec_trKeys.j0 : Nat → Bool → Int → List Int → Int → List Int → ByteArray → Option (List ByteArray × Bool)
 | 0, _, _, _, _, _, _ => none
 | k + 1, x19, x231000, x231001, x231002, x231003, x231004 => if x19 = true then (some (([] : List ByteArray), false)) else ((spec_trPaths.f k x231000 x231001 x231002 x231003 x231004).bind fun bt233 => (if bt233.2 = true then (spec_trKeys.l0 k ([] : List ByteArray) bt233.1 (bt233.1.length : Int) 0 x231000 x231001 x231002 x231003 x231004) else (some (([] : List ByteArray), false))))
def spec_trKeys.l0 : Nat → List ByteArray → List ByteArray → Int → Int → Int → List Int → Int → List Int → ByteArray → Option (List ByteArray × Bool)
 | 0, _, _, _, _, _, _, _, _, _ => none
 | k + 1, x6, x27, x28, x29, x231000, x231001, x231002, x231003, x231004 => if x29 < x28 then (if 0 ≤ x29 then (if x29 < (x27.length : Int) then ((spec_biAt.f x231002 x231003 x29).bind fun t238 => (if t238 = true then ((spec_l1PutS.f k x6 (rdOf ByteArray.empty x27 x29)).bind fun t239 => (spec_trKeys.l0 k t239 x27 x28 (wrap64 (x29 + 1)) x231000 x231001 x231002 x231003 x231004)) else (spec_trKeys.l0 k x6 x27 x28 (wrap64 (x29 + 1)) x231000 x231001 x231002 x231003 x231004))) else (none)) else (none)) else ((spec_biKeys.f k x6).bind fun t242 => (if t242 = true then ((spec_trOf.f k x6).bind fun bt243 => ((spec_biSame.f k x231000 x231001 bt243.1 bt243.2.1).bind fun t253 => (if t253 = true then ((spec_biSame.f k x231002 x231003 bt243.2.2.1 bt243.2.2.2.1).bind fun t254 => (if t254 = true then (some (x6, (x231004.toList == bt243.2.2.2.2.toList))) else (some (x6, false)))) else (some (x6, false))))) else (some (([] : List ByteArray), false))))
end
def spec_trKeys.f (k : Nat) (a0_0 : Int) (l0_1 : List Int) (a0_2 : Int) (l0_3 : List Int) (a0_4 : ByteArray) : Option (List ByteArray × Bool) := (spec_biGood.f k a0_0 l0_1).bind fun t231 => (if t231 = true then ((spec_biGood.f k a0_2 l0_3).bind fun t232 => (spec_trKeys.j0 k (!t232) a0_0 l0_1 a0_2 l0_3 a0_4)) else (spec_trKeys.j0 k true a0_0 l0_1 a0_2 l0_3 a0_4))
theorem spec_trKeys.mono_l : ∀ k, (∀ y0 y1 y2 y3 y4 y5, LeO (spec_trKeys.j0 k y0 y1 y2 y3 y4 y5) (spec_trKeys.j0 (k + 1) y0 y1 y2 y3 y4 y5)) ∧ (∀ y0 y1 y2 y3 y4 y5 y6 y7 y8, LeO (spec_trKeys.l0 k y0 y1 y2 y3 y4 y5 y6 y7 y8) (spec_trKeys.l0 (k + 1) y0 y1 y2 y3 y4 y5 y6 y7 y8))
 | 0 => ⟨fun _ _ _ _ _ _ r h => by simp [spec_trKeys.j0] at h, fun _ _ _ _ _ _ _ _ _ r h => by simp [spec_trKeys.l0] at h⟩
 | k + 1 => by
  obtain ⟨ih0, ih1⟩ := spec_trKeys.mono_l k; refine ⟨?_, ?_⟩
  ·intro y0 y1 y2 y3 y4 y5
   unfold spec_trKeys.j0
   repeat' first | (with_reducible first | exact ih0 _ _ _ _ _ _ | exact ih1 _ _ _ _ _ _ _ _ _ | exact spec_biGood.mono _ _ _ | exact spec_biKeys.mono _ _ | exact spec_biSame.mono _ _ _ _ _ | exact spec_l1PutS.mono _ _ _ | exact spec_trOf.mono _ _ | exact spec_trPaths.mono _ _ _ _ _ _ | exact LeO.refl _ | exact LeO.none _ | refine LeO.ite ?_ ?_ | refine LeO.bind ?_ (fun _ => ?_)) | exact LeO.none _ | refine LeO.ite ?_ ?_ | refine LeO.bind ?_ (fun _ => ?_)
  ·intro y0 y1 y2 y3 y4 y5 y6 y7 y8
   unfold spec_trKeys.l0
   repeat' first | (with_reducible first | exact ih0 _ _ _ _ _ _ | exact ih1 _ _ _ _ _ _ _ _ _ | exact spec_biGood.mono _ _ _ | exact spec_biKeys.mono _ _ | exact spec_biSame.mono _ _ _ _ _ | exact spec_l1PutS.mono _ _ _ | exact spec_trOf.mono _ _ | exact spec_trPaths.mono _ _ _ _ _ _ | exact LeO.refl _ | exact LeO.none _ | refine LeO.ite ?_ ?_ | refine LeO.bind ?_ (fun _ => ?_)) | exact LeO.none _ | refine LeO.ite ?_ ?_ | refine LeO.bind ?_ (fun _ => ?_)
theorem spec_trKeys.mono : ∀ a0 a1 a2 a3 a4 k, LeO (spec_trKeys.f k a0 a1 a2 a3 a4) (spec_trKeys.f (k + 1) a0 a1 a2 a3 a4) := by
 intro a0 a1 a2 a3 a4 k; obtain ⟨ih0, ih1⟩ := spec_trKeys.mono_l k
 unfold spec_trKeys.f
 repeat' first | (with_reducible first | exact ih0 _ _ _ _ _ _ | exact ih1 _ _ _ _ _ _ _ _ _ | exact spec_biGood.mono _ _ _ | exact spec_biKeys.mono _ _ | exact spec_biSame.mono _ _ _ _ _ | exact spec_l1PutS.mono _ _ _ | exact spec_trOf.mono _ _ | exact spec_trPaths.mono _ _ _ _ _ _ | exact LeO.refl _ | exact LeO.none _ | refine LeO.ite ?_ ?_ | refine LeO.bind ?_ (fun _ => ?_)) | exact LeO.none _ | refine LeO.ite ?_ ?_ | refine LeO.bind ?_ (fun _ => ?_)
def spec_trKeys.T16 : Bool × List (List Nat × List Nat) := (true, [([], []), ([], []), ([1], [1]), ([], []), ([3], [3]), ([2, 4], [2, 4]), ([5, 5], [5]), ([6], [6]), ([7, 6], [6, 7]), ([6], [6]), ([9, 6], [6, 9]), ([8, 10, 6, 6], [6, 8, 10]), ([6, 11], [6, 11]), ([12, 11], [12]), ([13], [13]), ([14, 13], [13, 14]), ([13], [13]), ([16, 13], [13, 16]), ([15, 17, 13], [13, 15, 17]), ([13, 18], [13, 18]), ([0, 13, 0], [0]), ([19, 20, 0, 1, 2, 3, 4, 5, 6, 7, 8, 9, 10, 11, 12, 13, 14, 15, 16, 17, 18, 19, 20], [19])])
def spec_trKeys.B16 : List Nat := [0, 0, 2, 0, 8, 30, 62, 126, 254, 126, 638, 2046, 4094, 8190, 16382, 32766, 16382, 81918, 262142, 524286, 16383, 2097151]
theorem spec_trKeys.tab16 : rtab .any (opsOf Tryz.f17 16) = spec_trKeys.T16 := by kernel_rfl
theorem spec_trKeys.bits16 : waitsOk spec_trKeys.T16.2 spec_trKeys.B16 = true := by kernel_rfl
theorem spec_trKeys.calls (k : Nat) (a0_0 : Int) (A0_1 : Option Addr) (c0_1 : Nat) (l0_1 : List Int) (a0_2 : Int) (A0_3 : Option Addr) (c0_3 : Nat) (l0_3 : List Int) (a0_4 : ByteArray) (r1 : List ByteArray) (r2 : Bool) (w : World) (hr0_1 : Kd.C (Kd.int .i64) w A0_1 l0_1.length l0_1) (hc0_1 : l0_1.length ≤ c0_1) (hr0_3 : Kd.C (Kd.int .i64) w A0_3 l0_3.length l0_3) (hc0_3 : l0_3.length ≤ c0_3) (h : spec_trKeys.f k a0_0 l0_1 a0_2 l0_3 a0_4 = some (r1, r2)) :
  Calls Tryz.prog 17 #[.agg #[.int .i64 a0_0, .slice A0_1 l0_1.length c0_1, .int .i64 a0_2, .slice A0_3 l0_3.length c0_3, .string a0_4]] w fun e w' => ∃ v0_ : Value, e = .returned (.tuple #[v0_, .bool r2]) ∧ Kd.R Kd.string 9 w' w.heap.size (fun _ => True) v0_ r1 ∧ Below w.heap.size w w' := by
 have hu32 := Tryz.underlying32; have hu30 := Tryz.underlying30; have HR0_1 := am hr0_1; have HC0_1 := am hc0_1; clear hr0_1 hc0_1; have HR0_3 := am hr0_3; have HC0_3 := am hc0_3; clear hr0_3 hc0_3; have HB := am (Below.refl w.heap.size w); have H : ((spec_biGood.f k a0_0 l0_1).bind fun t231 => (if t231 = true then ((spec_biGood.f k a0_2 l0_3).bind fun t232 => (spec_trKeys.j0 k (!t232) a0_0 l0_1 a0_2 l0_3 a0_4)) else (spec_trKeys.j0 k true a0_0 l0_1 a0_2 l0_3 a0_4))) = some (r1, r2) := h; clear h; have HC2 := am H; clear H
 go_enter Tryz.func17, Tryz.ntmps17
 go_upto_region 1 with (first | ((with_reducible refine gate_dst (N := 1) rfl ?_); refine bE 1 #[.int .i64 a0_0, .slice A0_1 l0_1.length c0_1, .int .i64 a0_2, .slice A0_3 l0_3.length c0_3, .string a0_4] 32 ?_; intro gb230 hg w3 hbox hb; have n0_ := Bb HB hb; have n1_ := am (hbox); have n2_ := Gl HB hg; have n3_ := Gl HB hg; clear HB; revert n0_ n1_ n2_ n3_; intro HB BK230 GW230 GE230; clear hb hbox hg))
 (try simp only [aP])
 go_cut [19] (fun v19 wc => ∃ (kq : Nat) (x19_1 : Bool), v19 = .bool x19_1 ∧ Aside0 (spec_trKeys.j0 kq x19_1 a0_0 l0_1 a0_2 l0_3 a0_4 = some (r1, r2)) ∧ Aside0 (kq ≤ k) ∧ Aside0 (wc.heap[gb230]? = some (.cells #[.int .i64 a0_0, (.slice A0_1 l0_1.length c0_1), .int .i64 a0_2, (.slice A0_3 l0_3.length c0_3), .string a0_4] 32 (0, 0))) ∧ Aside0 (Below w.heap.size w wc))
 case first =>
  have H := HC2.out; clear HC2; replace H := Option.bind_eq_some_iff.mp H; obtain ⟨t231, A40, H⟩ := H; (try dsimp -simprocs only at H); have A4 := am A40; clear A40
  by_cases c5 : t231 = true
  ·subst c5
   rw [if_pos rfl] at H; replace H := Option.bind_eq_some_iff.mp H; obtain ⟨t232, A60, H⟩ := H; (try dsimp -simprocs only at H); have A6 := am A60; clear A60; have H' := am H; clear H; obtain ⟨hcz7_0, hcz7_1, hcz7_2, hcz7_3, hcz7_4, hfz7_0, hfz7_1, hfz7_2, hfz7_3, hfz7_4⟩ := cf5 (w := w3) BK230
   go_wp2_with (first | ((with_reducible refine gate_callee (f := 28) rfl ?_); refine gL (some 12) Tryz.func28 #[.agg #[.int .i64 a0_0, .slice A0_1 l0_1.length c0_1]] ?_; (with_reducible refine (spec_biGood.calls k a0_0 _ _ l0_1 true _ ?side1 ?side2 A4.out).mono ?_); (case side1 => exact Cz (Kd.C_below HR0_1.out HB.out)); (case side2 => exact HC0_1.out); rintro e w8 ⟨rfl, hb⟩; refine ⟨_, rfl, ?_⟩; have n0_ := Kb BK230 hb; have n1_ := Bc HB hb; clear BK230 HB; revert n0_ n1_; intro BK230 HB; (try clear hb); (try clear hb2); (try clear hk); (try clear hi); obtain ⟨hcz9_0, hcz9_1, hcz9_2, hcz9_3, hcz9_4, hfz9_0, hfz9_1, hfz9_2, hfz9_3, hfz9_4⟩ := cf5 (w := w8) BK230) | (go_at_call 28; (with_reducible refine (spec_biGood.calls k a0_2 _ _ l0_3 t232 _ ?side1 ?side2 A6.out).mono ?_); (case side1 => exact Cz (Kd.C_below HR0_3.out HB.out)); (case side2 => exact HC0_3.out); rintro e w10 ⟨rfl, hb⟩; have n0_ := Kb BK230 hb; have n1_ := Bc HB hb; clear BK230 HB; revert n0_ n1_; intro BK230 HB; (try clear hb); (try clear hb2); (try clear hk); (try clear hi)))
   go_meet
   case rel => exact ⟨_, (!t232), wZ, H', ⟨by first | omega | exact Nat.le_refl _⟩, ⟨Kz BK230.out⟩, ⟨Bq⟩⟩
  ·replace c5 := Bool.eq_false_iff.mpr c5
   subst c5
   rw [if_neg (show ¬ (false = true) by decide)] at H; have H' := am H; clear H; obtain ⟨hcz11_0, hcz11_1, hcz11_2, hcz11_3, hcz11_4, hfz11_0, hfz11_1, hfz11_2, hfz11_3, hfz11_4⟩ := cf5 (w := w3) BK230
   go_wp2_with (first | ((with_reducible refine gate_callee (f := 28) rfl ?_); refine gL (some 12) Tryz.func28 #[.agg #[.int .i64 a0_0, .slice A0_1 l0_1.length c0_1]] ?_; (with_reducible refine (spec_biGood.calls k a0_0 _ _ l0_1 false _ ?side1 ?side2 A4.out).mono ?_); (case side1 => exact Cz (Kd.C_below HR0_1.out HB.out)); (case side2 => exact HC0_1.out); rintro e w12 ⟨rfl, hb⟩; refine ⟨_, rfl, ?_⟩; have n0_ := Kb BK230 hb; have n1_ := Bc HB hb; clear BK230 HB; revert n0_ n1_; intro BK230 HB; (try clear hb); (try clear hb2); (try clear hk); (try clear hi)))
   go_meet
   case rel => exact ⟨_, (true), wZ, H', ⟨by first | omega | exact Nat.le_refl _⟩, ⟨Kz BK230.out⟩, ⟨Bq⟩⟩
 case rest =>
  clear HC2
  try clear c1
  try clear c2
  try clear p2
  try clear c5
  try clear hcz11_0
  try clear hcz11_1
  try clear hcz11_2
  try clear hcz11_3
  try clear hcz11_4
  try clear hcz7_0
  try clear hcz7_1
  try clear hcz7_2
  try clear hcz7_3
  try clear hcz7_4
  try clear hcz9_0
  try clear hcz9_1
  try clear hcz9_2
  try clear hcz9_3
  try clear hcz9_4
  try clear hfz11_0
  try clear hfz11_1
  try clear hfz11_2
  try clear hfz11_3
  try clear hfz11_4
  try clear hfz7_0
  try clear hfz7_1
  try clear hfz7_2
  try clear hfz7_3
  try clear hfz7_4
  try clear hfz9_0
  try clear hfz9_1
  try clear hfz9_2
  try clear hfz9_3
  try clear hfz9_4
  obtain ⟨kq, x19_1, rfl, HA, HJ1, BK230, HB⟩ := hcut; cases kq with
  | zero => exact absurd HA.out (by simp [spec_trKeys.j0])
  | succ kj1 =>
   have H := HA.out; clear HA
   simp only [spec_trKeys.j0] at H
   by_cases c13 : x19_1 = true
   ·subst c13
    rw [if_pos rfl] at H
    simp only [Option.some.injEq, Prod.mk.injEq] at H
    obtain ⟨rfl, rfl⟩ := H
    go_wp2
    go_ret2
    exact ⟨_, eZ, nZ, Bq⟩
   ·replace c13 := Bool.eq_false_iff.mpr c13
    subst c13
    rw [if_neg (show ¬ (false = true) by decide)] at H; replace H := Option.bind_eq_some_iff.mp H; obtain ⟨⟨t233, t236⟩, A140, H⟩ := H; (try dsimp -simprocs only at H); have A14 := am A140; clear A140
    by_cases c15 : t236 = true
    ·subst c15
     rw [if_pos rfl] at H; have H' := am H; clear H; obtain ⟨hcz16_0, hcz16_1, hcz16_2, hcz16_3, hcz16_4, hfz16_0, hfz16_1, hfz16_2, hfz16_3, hfz16_4⟩ := cf5 (w := wc) BK230
     go_wp2_with (first | ((with_reducible refine gate_callee (f := 29) rfl ?_); refine gL (some 22) Tryz.func29 #[.agg #[.int .i64 a0_0, .slice A0_1 l0_1.length c0_1, .int .i64 a0_2, .slice A0_3 l0_3.length c0_3, .string a0_4]] ?_; (with_reducible refine (spec_trPaths.calls kj1 a0_0 _ _ l0_1 a0_2 _ _ l0_3 a0_4 t233 true _ ?side1 ?side2 ?side3 ?side4 A14.out).mono ?_); (case side1 => exact Cz (Kd.C_below HR0_1.out HB.out)); (case side2 => exact HC0_1.out); (case side3 => exact Cz (Kd.C_below HR0_3.out HB.out)); (case side4 => exact HC0_3.out); rintro e w17 ⟨v234, rfl, ho0, hb⟩; refine ⟨_, rfl, ?_⟩; have n0_ := Rm ho0 HB; have n1_ := Kb BK230 hb; have n2_ := Bc HB hb; clear BK230 HB; revert n0_ n1_ n2_; intro HO235 BK230 HB; (try clear hb); (try clear hb2); (try clear hk); (try clear hi); (try clear ho0); obtain ⟨Ao18, co18, eo18⟩ := Kd.R_slice HO235.out; subst eo18))
     (try simp only [aP])
     go_loopg [6, 29] kj1 (fun kq v6 v29 w' => ∃ (x6_2 : List ByteArray) (x29_2 : Int), v29 = .int .i64 x29_2 ∧ Aside0 (spec_trKeys.l0 kq x6_2 t233 (t233.length : Int) x29_2 a0_0 l0_1 a0_2 l0_3 a0_4 = some (r1, r2)) ∧ Aside0 (kq ≤ kj1) ∧ Aside0 (Kd.R Kd.string 9 w' w.heap.size (fun k_ => some k_ ≠ ((.slice Ao18 t233.length co18) : Value).ownBlock) v6 x6_2) ∧ Aside0 (Kd.R Kd.string 9 w' w.heap.size (fun k_ => some k_ ≠ (v6 : Value).ownBlock) (.slice Ao18 t233.length co18) t233) ∧ Aside0 (w'.heap[gb230]? = some (.cells #[.int .i64 a0_0, (.slice A0_1 l0_1.length c0_1), .int .i64 a0_2, (.slice A0_3 l0_3.length c0_3), .string a0_4] 32 (0, 0))) ∧ Aside0 (Below w.heap.size w w'))
     case atStart => exact ⟨(([] : List ByteArray)), (0), wZ, H', ⟨Nat.le_refl _⟩, ⟨nZ⟩, ⟨Rz (Kd.R_mono HO235.out (fun _ hk => (by simp [Value.ownBlock])))⟩, ⟨Kz BK230.out⟩, ⟨Bq⟩⟩
     case round =>
      clear H'
      try clear c1
      try clear c2
      try clear p2
      try clear c5
      try clear c13
      try clear c15
      try clear c17
      try clear hcz11_0
      try clear hcz11_1
      try clear hcz11_2
      try clear hcz11_3
      try clear hcz11_4
      try clear hcz16_0
      try clear hcz16_1
      try clear hcz16_2
      try clear hcz16_3
      try clear hcz16_4
      try clear hcz7_0
      try clear hcz7_1
      try clear hcz7_2
      try clear hcz7_3
      try clear hcz7_4
      try clear hcz9_0
      try clear hcz9_1
      try clear hcz9_2
      try clear hcz9_3
      try clear hcz9_4
      try clear hfz11_0
      try clear hfz11_1
      try clear hfz11_2
      try clear hfz11_3
      try clear hfz11_4
      try clear hfz16_0
      try clear hfz16_1
      try clear hfz16_2
      try clear hfz16_3
      try clear hfz16_4
      try clear hfz7_0
      try clear hfz7_1
      try clear hfz7_2
      try clear hfz7_3
      try clear hfz7_4
      try clear hfz9_0
      try clear hfz9_1
      try clear hfz9_2
      try clear hfz9_3
      try clear hfz9_4
      try clear p2
      obtain ⟨x6_2, x29_2, rfl, HA, HK2, HO_6, HO_27, BK230, HB⟩ := hrel; cases gk with
      | zero => exact absurd HA.out (by simp [spec_trKeys.l0])
      | succ k2 =>
       have H := HA.out; clear HA
       simp only [spec_trKeys.l0] at H
       by_cases c19 : x29_2 < (t233.length : Int)
       ·rw [if_pos c19] at H
        have c19b0 : decide (x29_2 < (t233.length : Int)) = true := decide_eq_true c19; clear c19
        by_cases c20 : 0 ≤ x29_2
        ·rw [if_pos c20] at H
         have c20b0 : decide (0 ≤ x29_2) = true := decide_eq_true c20; clear c20
         by_cases c21 : x29_2 < (t233.length : Int)
         ·rw [if_pos c21] at H
          have c21b0 : decide (x29_2 < (t233.length : Int)) = true := decide_eq_true c21; clear c21; replace H := Option.bind_eq_some_iff.mp H; obtain ⟨t238, A220, H⟩ := H; (try dsimp -simprocs only at H); have A22 := am A220; clear A220
          by_cases c23 : t238 = true
          ·subst c23
           rw [if_pos rfl] at H; replace H := Option.bind_eq_some_iff.mp H; obtain ⟨t239, A240, H⟩ := H; (try dsimp -simprocs only at H); have A24 := am A240; clear A240; have H' := am H; clear H; obtain ⟨ad237, e237, hx237_0⟩ := Kd.at_string (Kd.R_reads' HO_27.out).2.2 x29_2 dT dT; cases e237; have p237 := eT (0 ≤ (x29_2 : Int)); have q237 := eT (x29_2 < (t233.length : Int)); obtain ⟨hcz25_0, hcz25_1, hcz25_2, hcz25_3, hcz25_4, hfz25_0, hfz25_1, hfz25_2, hfz25_3, hfz25_4⟩ := cf5 (w := wr) BK230
           go_wp2_with (first | ((with_reducible refine gate_callee (f := 30) rfl ?_); refine gL (some 37) Tryz.func30 #[.agg #[.int .i64 a0_2, .slice A0_3 l0_3.length c0_3], .int .i64 x29_2] ?_; (with_reducible refine (spec_biAt.calls a0_2 _ _ l0_3 x29_2 true _ ?side1 ?side2 A22.out).mono ?_); (case side1 => exact Cz (Kd.C_below HR0_3.out HB.out)); (case side2 => exact HC0_3.out); rintro e w26 ⟨rfl, hb⟩; refine ⟨_, rfl, ?_⟩; have n0_ := Rb HO_6 hb; have n1_ := Rb HO_27 hb; have n2_ := Kb BK230 hb; have n3_ := Bc HB hb; clear HO_6 HO_27 BK230 HB; revert n0_ n1_ n2_ n3_; intro HO_6 HO_27 BK230 HB; (try clear hb); (try clear hb2); (try clear hk); (try clear hi); obtain ⟨Ao27, co27, eo27⟩ := Kd.R_slice HO_6.out; subst eo27) | ((with_reducible refine gate_callee (f := 31) rfl ?_); refine gL (some 40) Tryz.func31 #[.slice Ao27 x6_2.length co27, .string (rdOf ByteArray.empty t233 x29_2)] ?_; (with_reducible refine (spec_l1PutS.calls k2 (fun k_ => some k_ = (.slice Ao27 x6_2.length co27 : Value).ownBlock) (.slice Ao27 x6_2.length co27) x6_2 (rdOf ByteArray.empty t233 x29_2) t239 w _ ?side1 ?side2 A24.out).mono ?_); (case side1 => repeat (first | (with_reducible first | exact HB.out | apply below_alloc | apply pw_below_drewN | apply below_drew1 | refine below_set ?_ GE230.out) | exact HB.out)); (case side2 => exact Kd.R_tight rfl HO_6.out); rintro e w28 ⟨v240, rfl, ho0, hb, hkp⟩; refine ⟨_, rfl, ?_⟩; have n0_ := am (Kd.R_mono (ok' := fun k_ => some k_ ≠ (v240 : Value).ownBlock) (Kd.R_keptB (HO_27.out) hkp (fun k_ hk_ hs_ => (hk_) hs_)) (fun k_ hk_ => fun e_ => Or.elim (ho0.1 k_ e_.symm) (fun hs_ => hk_.2.1 hs_) (fun hn_ => Nat.not_le.2 hk_.2.2 hn_))); have n1_ := am (blk_kept (Kz BK230.out) hkp (fun hs_ => (fun e_ => (Kd.R_ne HO_6.out BK230.out (by decide)) e_) hs_)); have n2_ := am (Kd.R_mono (ok' := fun k_ => some k_ ≠ (.slice (some ad237) t233.length co18 : Value).ownBlock) ho0 (fun k_ hk_ => Or.elim hk_ (fun hs_ => fun e_ => (((HO_27.out).1 k_ e_.symm)) hs_) (fun hn_ => (Kd.fresh' (Kd.R_lt (Rz HO_27.out)) k_ hn_)))); have n3_ := am (hb); clear HO_27 BK230 HB HO_6; revert n0_ n1_ n2_ n3_; intro HO_27 BK230 HO241 HB; (try clear hb); (try clear hkp); (try clear ho0)))
           go_roundg k2
           case measure => have := HJ1.out; have := HK2.out; omega
           case rel => exact ⟨(t239), (wrap64 (x29_2 + 1)), wZ, H', ⟨by have := HJ1.out; have := HK2.out; omega⟩, ⟨Rz HO241.out⟩, ⟨Rz HO_27.out⟩, ⟨Kz BK230.out⟩, ⟨Bq⟩⟩
          ·replace c23 := Bool.eq_false_iff.mpr c23
           subst c23
           rw [if_neg (show ¬ (false = true) by decide)] at H; have H' := am H; clear H; obtain ⟨ad237, e237, hx237_0⟩ := Kd.at_string (Kd.R_reads' HO_27.out).2.2 x29_2 dT dT; cases e237; have p237 := eT (0 ≤ (x29_2 : Int)); have q237 := eT (x29_2 < (t233.length : Int)); obtain ⟨hcz29_0, hcz29_1, hcz29_2, hcz29_3, hcz29_4, hfz29_0, hfz29_1, hfz29_2, hfz29_3, hfz29_4⟩ := cf5 (w := wr) BK230
           go_wp2_with (first | ((with_reducible refine gate_callee (f := 30) rfl ?_); refine gL (some 37) Tryz.func30 #[.agg #[.int .i64 a0_2, .slice A0_3 l0_3.length c0_3], .int .i64 x29_2] ?_; (with_reducible refine (spec_biAt.calls a0_2 _ _ l0_3 x29_2 false _ ?side1 ?side2 A22.out).mono ?_); (case side1 => exact Cz (Kd.C_below HR0_3.out HB.out)); (case side2 => exact HC0_3.out); rintro e w30 ⟨rfl, hb⟩; refine ⟨_, rfl, ?_⟩; have n0_ := Rb HO_6 hb; have n1_ := Rb HO_27 hb; have n2_ := Kb BK230 hb; have n3_ := Bc HB hb; clear HO_6 HO_27 BK230 HB; revert n0_ n1_ n2_ n3_; intro HO_6 HO_27 BK230 HB; (try clear hb); (try clear hb2); (try clear hk); (try clear hi)))
           go_roundg k2
           case measure => have := HJ1.out; have := HK2.out; omega
           case rel => exact ⟨(x6_2), (wrap64 (x29_2 + 1)), wZ, H', ⟨by have := HJ1.out; have := HK2.out; omega⟩, ⟨Rz HO_6.out⟩, ⟨Rz HO_27.out⟩, ⟨Kz BK230.out⟩, ⟨Bq⟩⟩
         ·rw [if_neg c21] at H
          exact absurd H (by simp)
        ·rw [if_neg c20] at H
         exact absurd H (by simp)
       ·rw [if_neg c19] at H
        have c19b0 : decide (x29_2 < (t233.length : Int)) = false := decide_eq_false c19; clear c19; replace H := Option.bind_eq_some_iff.mp H; obtain ⟨t242, A310, H⟩ := H; (try dsimp -simprocs only at H); have A31 := am A310; clear A310
        by_cases c32 : t242 = true
        ·subst c32
         rw [if_pos rfl] at H; replace H := Option.bind_eq_some_iff.mp H; obtain ⟨⟨t243, t244, t247, t248, t251⟩, A330, H⟩ := H; (try dsimp -simprocs only at H); have A33 := am A330; clear A330; replace H := Option.bind_eq_some_iff.mp H; obtain ⟨t253, A340, H⟩ := H; (try dsimp -simprocs only at H); have A34 := am A340; clear A340
         by_cases c35 : t253 = true
         ·subst c35
          rw [if_pos rfl] at H; replace H := Option.bind_eq_some_iff.mp H; obtain ⟨t254, A360, H⟩ := H; (try dsimp -simprocs only at H); have A36 := am A360; clear A360
          by_cases c37 : t254 = true
          ·subst c37
           rw [if_pos rfl] at H
           simp only [Option.some.injEq, Prod.mk.injEq] at H
           obtain ⟨rfl, rfl⟩ := H; obtain ⟨Ao38, co38, eo38⟩ := Kd.R_slice HO_6.out; subst eo38
           try go_wp2_with (first | ((with_reducible refine gate_callee (f := 32) rfl ?_); refine gL (some 43) Tryz.func32 #[.slice Ao38 x6_2.length co38] ?_; (with_reducible refine (spec_biKeys.calls k2 _ _ x6_2 true _ ?side1 ?side2 A31.out).mono ?_); (case side1 => exact Cz ((Kd.R_reads' HO_6.out).2.2)); (case side2 => exact (Kd.R_reads' HO_6.out).2.1); rintro e w' ⟨rfl, ⟨nd, rfl⟩⟩; refine ⟨_, rfl, ?_⟩; (try (rw [drewN_self wr]; generalize hq_ : World.drewN wr _ = wr; have n0_ : Aside0 (Kd.R Kd.string 9 wr w.heap.size (fun k_ => some k_ ≠ (.slice Ao38 x6_2.length co38 : Value).ownBlock) (.slice Ao18 t233.length co18) t233) := ⟨by rw [← hq_]; exact (Rz HO_27.out)⟩; have n1_ : Aside0 (Kd.R Kd.string 9 wr w.heap.size (fun k_ => some k_ ≠ (.slice Ao18 t233.length co18 : Value).ownBlock) (.slice Ao38 x6_2.length co38) x6_2) := ⟨by rw [← hq_]; exact (Rz HO_6.out)⟩; have n2_ : Aside0 (wr.heap[gb230]? = some (.cells #[.int .i64 a0_0, .slice A0_1 l0_1.length c0_1, .int .i64 a0_2, .slice A0_3 l0_3.length c0_3, .string a0_4] 32 (0, 0))) := ⟨by rw [← hq_]; exact (Kz BK230.out)⟩; have n3_ : Aside0 (Below w.heap.size w wr) := ⟨by rw [← hq_]; exact (Bq)⟩; clear HO_27 HO_6 BK230 HB hq_; revert n0_ n1_ n2_ n3_; intro HO_27 HO_6 BK230 HB))) | ((with_reducible refine gate_callee (f := 33) rfl ?_); refine gL (some 46) Tryz.func33 #[.slice Ao38 x6_2.length co38] ?_; (with_reducible refine (spec_trOf.calls k2 _ _ x6_2 t243 t244 t247 t248 t251 _ ?side1 ?side2 A33.out).mono ?_); (case side1 => exact Cz ((Kd.R_reads' HO_6.out).2.2)); (case side2 => exact (Kd.R_reads' HO_6.out).2.1); rintro e w39 ⟨v245, v249, rfl, ho0, ho1, hb⟩; refine ⟨_, rfl, ?_⟩; have n0_ := Rb HO_6 hb; have n1_ := Rb HO_27 hb; have n2_ := Rm ho0 HB; have n3_ := Rm ho1 HB; have n4_ := Kb BK230 hb; have n5_ := Bc HB hb; clear HO_6 HO_27 BK230 HB; revert n0_ n1_ n2_ n3_ n4_ n5_; intro HO_6 HO_27 HO246 HO250 BK230 HB; (try clear hb); (try clear hb2); (try clear hk); (try clear hi); (try clear ho0); (try clear ho1)) | ((with_reducible refine gate_dst (N := 9) rfl ?_); refine bE 9 #[.int .i64 0, .slice none 0 0, .int .i64 0, .slice none 0 0, .string (⟨#[]⟩ : ByteArray)] 32 ?_; intro gb252 hg w40 hbox hb; have n0_ := Rb HO_6 hb; have n1_ := Rb HO_27 hb; have n2_ := Rb HO246 hb; have n3_ := Rb HO250 hb; have n4_ := Kb BK230 hb; have n5_ := Bc HB hb; have n6_ := am (hbox); have n7_ := Gm HB hg; have n8_ := Gm HB hg; have n9_ := Nl BK230 hg; have n10_ := Ng BK230 hg; clear HO_6 HO_27 HO246 HO250 BK230 HB; revert n0_ n1_ n2_ n3_ n4_ n5_ n6_ n7_ n8_ n9_ n10_; intro HO_6 HO_27 HO246 HO250 BK230 HB BK252 GW252 GE252 NB230_252 NB252_230; clear hb hbox hg; have hnb41 := NB252_230.out; have hnc41 := NB230_252.out; obtain ⟨hcz42_0, hcz42_1, hcz42_2, hcz42_3, hcz42_4, hfz42_0, hfz42_1, hfz42_2, hfz42_3, hfz42_4⟩ := cf5 (w := w40) BK252; obtain ⟨Ao43, co43, eo43⟩ := Kd.R_slice HO246.out; subst eo43; obtain ⟨Ao44, co44, eo44⟩ := Kd.R_slice HO250.out; subst eo44))
           have n0_ : Aside0 (Kd.R Kd.string 9 (((((w40.setCell ⟨gb252, 0, none⟩ (.int .i64 t243)).setCell ⟨gb252, 1, none⟩ (.slice Ao43 t244.length co43)).setCell ⟨gb252, 2, none⟩ (.int .i64 t247)).setCell ⟨gb252, 3, none⟩ (.slice Ao44 t248.length co44)).setCell ⟨gb252, 4, none⟩ (.string t251)) w.heap.size (fun k_ => some k_ ≠ (.slice Ao18 t233.length co18 : Value).ownBlock) (.slice Ao38 x6_2.length co38) x6_2) := ⟨Rz (Kd.R_mono (Kd.R_far (p := ⟨gb252, 4, none⟩) (Kd.R_far (p := ⟨gb252, 3, none⟩) (Kd.R_far (p := ⟨gb252, 2, none⟩) (Kd.R_far (p := ⟨gb252, 1, none⟩) (Kd.R_far (p := ⟨gb252, 0, none⟩) (Kd.R_types HO_6.out BK252.out (by decide)) (fun _ hk => hk.2) (.int .i64 t243)) (fun _ hk => hk.2) (.slice Ao43 t244.length co43)) (fun _ hk => hk.2) (.int .i64 t247)) (fun _ hk => hk.2) (.slice Ao44 t248.length co44)) (fun _ hk => hk.2) (.string t251)) (fun _ hk => hk.1))⟩; have n1_ : Aside0 (Kd.R Kd.string 9 (((((w40.setCell ⟨gb252, 0, none⟩ (.int .i64 t243)).setCell ⟨gb252, 1, none⟩ (.slice Ao43 t244.length co43)).setCell ⟨gb252, 2, none⟩ (.int .i64 t247)).setCell ⟨gb252, 3, none⟩ (.slice Ao44 t248.length co44)).setCell ⟨gb252, 4, none⟩ (.string t251)) w.heap.size (fun k_ => some k_ ≠ (.slice Ao38 x6_2.length co38 : Value).ownBlock) (.slice Ao18 t233.length co18) t233) := ⟨Rz (Kd.R_mono (Kd.R_far (p := ⟨gb252, 4, none⟩) (Kd.R_far (p := ⟨gb252, 3, none⟩) (Kd.R_far (p := ⟨gb252, 2, none⟩) (Kd.R_far (p := ⟨gb252, 1, none⟩) (Kd.R_far (p := ⟨gb252, 0, none⟩) (Kd.R_types HO_27.out BK252.out (by decide)) (fun _ hk => hk.2) (.int .i64 t243)) (fun _ hk => hk.2) (.slice Ao43 t244.length co43)) (fun _ hk => hk.2) (.int .i64 t247)) (fun _ hk => hk.2) (.slice Ao44 t248.length co44)) (fun _ hk => hk.2) (.string t251)) (fun _ hk => hk.1))⟩; have n2_ : Aside0 (Kd.R (Kd.int .i64) 3 (((((w40.setCell ⟨gb252, 0, none⟩ (.int .i64 t243)).setCell ⟨gb252, 1, none⟩ (.slice Ao43 t244.length co43)).setCell ⟨gb252, 2, none⟩ (.int .i64 t247)).setCell ⟨gb252, 3, none⟩ (.slice Ao44 t248.length co44)).setCell ⟨gb252, 4, none⟩ (.string t251)) w.heap.size (fun k_ => some k_ ≠ (.slice Ao44 t248.length co44 : Value).ownBlock) (.slice Ao43 t244.length co43) t244) := ⟨Rz (Kd.R_mono (Kd.R_far (p := ⟨gb252, 4, none⟩) (Kd.R_far (p := ⟨gb252, 3, none⟩) (Kd.R_far (p := ⟨gb252, 2, none⟩) (Kd.R_far (p := ⟨gb252, 1, none⟩) (Kd.R_far (p := ⟨gb252, 0, none⟩) (Kd.R_types HO246.out BK252.out (by decide)) (fun _ hk => hk.2) (.int .i64 t243)) (fun _ hk => hk.2) (.slice Ao43 t244.length co43)) (fun _ hk => hk.2) (.int .i64 t247)) (fun _ hk => hk.2) (.slice Ao44 t248.length co44)) (fun _ hk => hk.2) (.string t251)) (fun _ hk => hk.1))⟩; have n3_ : Aside0 (Kd.R (Kd.int .i64) 3 (((((w40.setCell ⟨gb252, 0, none⟩ (.int .i64 t243)).setCell ⟨gb252, 1, none⟩ (.slice Ao43 t244.length co43)).setCell ⟨gb252, 2, none⟩ (.int .i64 t247)).setCell ⟨gb252, 3, none⟩ (.slice Ao44 t248.length co44)).setCell ⟨gb252, 4, none⟩ (.string t251)) w.heap.size (fun k_ => some k_ ≠ (.slice Ao43 t244.length co43 : Value).ownBlock) (.slice Ao44 t248.length co44) t248) := ⟨Rz (Kd.R_mono (Kd.R_far (p := ⟨gb252, 4, none⟩) (Kd.R_far (p := ⟨gb252, 3, none⟩) (Kd.R_far (p := ⟨gb252, 2, none⟩) (Kd.R_far (p := ⟨gb252, 1, none⟩) (Kd.R_far (p := ⟨gb252, 0, none⟩) (Kd.R_types HO250.out BK252.out (by decide)) (fun _ hk => hk.2) (.int .i64 t243)) (fun _ hk => hk.2) (.slice Ao43 t244.length co43)) (fun _ hk => hk.2) (.int .i64 t247)) (fun _ hk => hk.2) (.slice Ao44 t248.length co44)) (fun _ hk => hk.2) (.string t251)) (fun _ hk => hk.1))⟩
           have n4_ : Aside0 ((((((w40.setCell ⟨gb252, 0, none⟩ (.int .i64 t243)).setCell ⟨gb252, 1, none⟩ (.slice Ao43 t244.length co43)).setCell ⟨gb252, 2, none⟩ (.int .i64 t247)).setCell ⟨gb252, 3, none⟩ (.slice Ao44 t248.length co44)).setCell ⟨gb252, 4, none⟩ (.string t251)).heap[gb230]? = some (.cells #[.int .i64 a0_0, .slice A0_1 l0_1.length c0_1, .int .i64 a0_2, .slice A0_3 l0_3.length c0_3, .string a0_4] 32 (0, 0))) := ⟨by (with_reducible repeat (first | refine blk_drewN ?_ _ | refine blk_drew ?_ | refine blk_alloc ?_ _)); refine blk_far ?_ NB230_252.out _; (with_reducible repeat (first | refine blk_drewN ?_ _ | refine blk_drew ?_ | refine blk_alloc ?_ _)); refine blk_far ?_ NB230_252.out _; (with_reducible repeat (first | refine blk_drewN ?_ _ | refine blk_drew ?_ | refine blk_alloc ?_ _)); refine blk_far ?_ NB230_252.out _; (with_reducible repeat (first | refine blk_drewN ?_ _ | refine blk_drew ?_ | refine blk_alloc ?_ _)); refine blk_far ?_ NB230_252.out _; (with_reducible repeat (first | refine blk_drewN ?_ _ | refine blk_drew ?_ | refine blk_alloc ?_ _)); refine blk_far ?_ NB230_252.out _; (with_reducible repeat (first | refine blk_drewN ?_ _ | refine blk_drew ?_ | refine blk_alloc ?_ _)); exact BK230.out⟩; have n5_ : Aside0 ((((((w40.setCell ⟨gb252, 0, none⟩ (.int .i64 t243)).setCell ⟨gb252, 1, none⟩ (.slice Ao43 t244.length co43)).setCell ⟨gb252, 2, none⟩ (.int .i64 t247)).setCell ⟨gb252, 3, none⟩ (.slice Ao44 t248.length co44)).setCell ⟨gb252, 4, none⟩ (.string t251)).heap[gb252]? = some (.cells #[.int .i64 t243, .slice Ao43 t244.length co43, .int .i64 t247, .slice Ao44 t248.length co44, .string t251] 32 (0, 0))) := ⟨by (with_reducible repeat (first | refine blk_drewN ?_ _ | refine blk_drew ?_ | refine blk_alloc ?_ _)); refine blk_put (cs := #[.int .i64 t243, .slice Ao43 t244.length co43, .int .i64 t247, .slice Ao44 t248.length co44, .string (⟨#[]⟩ : ByteArray)]) ?_ 4 _ rfl; (with_reducible repeat (first | refine blk_drewN ?_ _ | refine blk_drew ?_ | refine blk_alloc ?_ _)); refine blk_put (cs := #[.int .i64 t243, .slice Ao43 t244.length co43, .int .i64 t247, .slice none 0 0, .string (⟨#[]⟩ : ByteArray)]) ?_ 3 _ rfl; (with_reducible repeat (first | refine blk_drewN ?_ _ | refine blk_drew ?_ | refine blk_alloc ?_ _)); refine blk_put (cs := #[.int .i64 t243, .slice Ao43 t244.length co43, .int .i64 0, .slice none 0 0, .string (⟨#[]⟩ : ByteArray)]) ?_ 2 _ rfl; (with_reducible repeat (first | refine blk_drewN ?_ _ | refine blk_drew ?_ | refine blk_alloc ?_ _)); refine blk_put (cs := #[.int .i64 t243, .slice none 0 0, .int .i64 0, .slice none 0 0, .string (⟨#[]⟩ : ByteArray)]) ?_ 1 _ rfl; (with_reducible repeat (first | refine blk_drewN ?_ _ | refine blk_drew ?_ | refine blk_alloc ?_ _)); refine blk_put (cs := #[.int .i64 0, .slice none 0 0, .int .i64 0, .slice none 0 0, .string (⟨#[]⟩ : ByteArray)]) ?_ 0 _ rfl; (with_reducible repeat (first | refine blk_drewN ?_ _ | refine blk_drew ?_ | refine blk_alloc ?_ _)); exact BK252.out⟩; have n6_ : Aside0 (Below w.heap.size w (((((w40.setCell ⟨gb252, 0, none⟩ (.int .i64 t243)).setCell ⟨gb252, 1, none⟩ (.slice Ao43 t244.length co43)).setCell ⟨gb252, 2, none⟩ (.int .i64 t247)).setCell ⟨gb252, 3, none⟩ (.slice Ao44 t248.length co44)).setCell ⟨gb252, 4, none⟩ (.string t251))) := ⟨Bq⟩
           (try clear HO_6)
           (try clear HO_27)
           (try clear HO246)
           (try clear HO250)
           (try clear BK230)
           (try clear BK252)
           (try clear HB)
           generalize (((((w40.setCell ⟨gb252, 0, none⟩ (.int .i64 t243)).setCell ⟨gb252, 1, none⟩ (.slice Ao43 t244.length co43)).setCell ⟨gb252, 2, none⟩ (.int .i64 t247)).setCell ⟨gb252, 3, none⟩ (.slice Ao44 t248.length co44)).setCell ⟨gb252, 4, none⟩ (.string t251)) = w45 at n0_ n1_ n2_ n3_ n4_ n5_ n6_ ⊢; revert n0_ n1_ n2_ n3_ n4_ n5_ n6_; intro HO_6 HO_27 HO246 HO250 BK230 BK252 HB; have n0_ := am (Kd.R_drew HO_6.out); have n1_ := am (Kd.R_drew HO_27.out); have n2_ := am (Kd.R_drew HO246.out); have n3_ := am (Kd.R_drew HO250.out); have n4_ := am (blk_drew BK230.out); have n5_ := am (blk_drew BK252.out); have n6_ := am (below_drew1 HB.out); clear HO_6 HO_27 HO246 HO250 BK230 BK252 HB; revert n0_ n1_ n2_ n3_ n4_ n5_ n6_; intro HO_6 HO_27 HO246 HO250 BK230 BK252 HB; refine start_ (n := 22) (S := fun w' => w'.cell? ⟨gb230, 0, none⟩ = some (.int .i64 a0_0) ∧ w'.cell? ⟨gb230, 1, none⟩ = some (.slice A0_1 l0_1.length c0_1) ∧ w'.cell? ⟨gb230, 2, none⟩ = some (.int .i64 a0_2) ∧ w'.cell? ⟨gb230, 3, none⟩ = some (.slice A0_3 l0_3.length c0_3) ∧ w'.cell? ⟨gb230, 4, none⟩ = some (.string a0_4) ∧ w'.cell? ⟨gb252, 0, none⟩ = some (.int .i64 t243) ∧ w'.cell? ⟨gb252, 1, none⟩ = some (.slice Ao43 t244.length co43) ∧ w'.cell? ⟨gb252, 2, none⟩ = some (.int .i64 t247) ∧ w'.cell? ⟨gb252, 3, none⟩ = some (.slice Ao44 t248.length co44) ∧ w'.cell? ⟨gb252, 4, none⟩ = some (.string t251)) (ds := []) (bA 22 0) (by kernel_rfl) rfl rfl ⟨cz BK230 0, cz BK230 1, cz BK230 2, cz BK230 3, cz BK230 4, cz BK252 0, cz BK252 1, cz BK252 2, cz BK252 3, cz BK252 4⟩ (fun hHeld => ?_); refine with_tabW spec_trKeys.tab16 spec_trKeys.bits16 (fun HT_ HW_ => ?_); generalize w45.drew = w46 at HO_6 HO_27 HO246 HO250 BK230 BK252 HB hHeld ⊢; refine pZ 0 (some 47) (bA 22 1) HT_.out ?_; refine pZ 1 (some 48) (bA 22 3) HT_.out ?_; refine pZ 3 (some 50) (bA 22 11) HT_.out ?_; refine take_ (i := 2) (N := some 49) (v := ?_) (a' := ?_) (bA 22 15) rfl rfl (take_ofW HT_.out HW_.out (by kernel_rfl)) (fun _ _ _ h => h) (Or.inl ⟨by rfl, ?_⟩) hHeld ?_ ?_
           rotate_left
           ·rintro w' ⟨s0, s1, s2, s3, s4, s5, s6, s7, s8, s9⟩
            go_simp
            with_reducible rfl
           rotate_left
           ·simp only [aP, i64_w, i32_w]
            rfl
           refine take_ (i := 4) (N := some 51) (v := ?_) (a' := ?_) (bA 22 31) rfl rfl (take_ofW HT_.out HW_.out (by kernel_rfl)) (fun _ _ _ h => h) (Or.inl ⟨by rfl, ?_⟩) hHeld ?_ ?_
           rotate_left
           ·rintro w' ⟨s0, s1, s2, s3, s4, s5, s6, s7, s8, s9⟩
            go_simp
            with_reducible rfl
           rotate_left
           ·simp only [aP, i64_w, i32_w]
            rfl
           refine oZ 5 (some 52) (bA 22 63) HT_.out (fun K hK => ?_); refine gZ Tryz.func34 #[.agg #[.int .i64 a0_0, .slice A0_1 l0_1.length c0_1], .agg #[.int .i64 t243, .slice Ao43 t244.length co43]] ?_
           with_reducible refine (spec_biSame.calls k2 a0_0 _ _ l0_1 t243 _ _ t244 true _ ?side1 ?side2 ?side3 ?side4 A34.out).mono ?_
           (case side1 => exact Cz (Kd.C_below HR0_1.out HB.out))
           (case side2 => exact HC0_1.out)
           (case side3 => exact Cz ((Kd.R_reads' HO246.out).2.2))
           (case side4 => exact (Kd.R_reads' HO246.out).2.1)
           rintro e w47 ⟨rfl, hb⟩; refine ⟨_, rfl, ?_⟩; have n0_ := Rb HO_6 hb; have n1_ := Rb HO_27 hb; have n2_ := Rb HO246 hb; have n3_ := Rb HO250 hb; have n4_ := Kb BK230 hb; have n5_ := Kb BK252 hb; have n6_ := Bc HB hb; clear HO_6 HO_27 HO246 HO250 BK230 BK252 HB; revert n0_ n1_ n2_ n3_ n4_ n5_ n6_; intro HO_6 HO_27 HO246 HO250 BK230 BK252 HB
           (try clear hb)
           (try clear hb2)
           (try clear hk)
           (try clear hi)
           refine hK.out _ _ ⟨cz BK230 0, cz BK230 1, cz BK230 2, cz BK230 3, cz BK230 4, cz BK252 0, cz BK252 1, cz BK252 2, cz BK252 3, cz BK252 4⟩ (fun hHeld => ?_); clear hK K; refine norm_ (a' := ?_) ?_ ?_; rotate_left; show Act.put _ (some 52) _ = _; simp only [aP, i64_w, i32_w]; rfl; refine pZ 6 (some 53) (bA 22 127) HT_.out ?_; refine pZ 7 (some 54) (bA 22 255) HT_.out ?_; refine pZ 9 (some 56) (bA 22 767) HT_.out ?_; refine take_ (i := 8) (N := some 55) (v := ?_) (a' := ?_) (bA 22 1023) rfl rfl (take_ofW HT_.out HW_.out (by kernel_rfl)) (fun _ _ _ h => h) (Or.inl ⟨by rfl, ?_⟩) hHeld ?_ ?_
           rotate_left
           ·rintro w' ⟨s0, s1, s2, s3, s4, s5, s6, s7, s8, s9⟩
            go_simp
            with_reducible rfl
           rotate_left
           ·simp only [aP, i64_w, i32_w]
            rfl
           refine take_ (i := 10) (N := some 57) (v := ?_) (a' := ?_) (bA 22 2047) rfl rfl (take_ofW HT_.out HW_.out (by kernel_rfl)) (fun _ _ _ h => h) (Or.inl ⟨by rfl, ?_⟩) hHeld ?_ ?_
           rotate_left
           ·rintro w' ⟨s0, s1, s2, s3, s4, s5, s6, s7, s8, s9⟩
            go_simp
            with_reducible rfl
           rotate_left
           ·simp only [aP, i64_w, i32_w]
            rfl
           refine oZ 11 (some 58) (bA 22 4095) HT_.out (fun K hK => ?_); refine gZ Tryz.func34 #[.agg #[.int .i64 a0_2, .slice A0_3 l0_3.length c0_3], .agg #[.int .i64 t247, .slice Ao44 t248.length co44]] ?_
           with_reducible refine (spec_biSame.calls k2 a0_2 _ _ l0_3 t247 _ _ t248 true _ ?side1 ?side2 ?side3 ?side4 A36.out).mono ?_
           (case side1 => exact Cz (Kd.C_below HR0_3.out HB.out))
           (case side2 => exact HC0_3.out)
           (case side3 => exact Cz ((Kd.R_reads' HO250.out).2.2))
           (case side4 => exact (Kd.R_reads' HO250.out).2.1)
           rintro e w48 ⟨rfl, hb⟩; refine ⟨_, rfl, ?_⟩; have n0_ := Rb HO_6 hb; have n1_ := Rb HO_27 hb; have n2_ := Rb HO246 hb; have n3_ := Rb HO250 hb; have n4_ := Kb BK230 hb; have n5_ := Kb BK252 hb; have n6_ := Bc HB hb; clear HO_6 HO_27 HO246 HO250 BK230 BK252 HB; revert n0_ n1_ n2_ n3_ n4_ n5_ n6_; intro HO_6 HO_27 HO246 HO250 BK230 BK252 HB
           (try clear hb)
           (try clear hb2)
           (try clear hk)
           (try clear hi)
           refine hK.out _ _ ⟨cz BK230 0, cz BK230 1, cz BK230 2, cz BK230 3, cz BK230 4, cz BK252 0, cz BK252 1, cz BK252 2, cz BK252 3, cz BK252 4⟩ (fun hHeld => ?_); clear hK K; refine norm_ (a' := ?_) ?_ ?_; rotate_left; show Act.put _ (some 58) _ = _; simp only [aP, i64_w, i32_w]; rfl; refine pZ 12 (some 59) (bA 22 8191) HT_.out ?_; refine pZ 13 (some 60) (bA 22 16383) HT_.out ?_; refine pZ 14 (some 61) (bA 22 32767) HT_.out ?_; refine pZ 16 (some 63) (bA 22 98303) HT_.out ?_; refine pZ 20 (some 2) (bA 22 1146879) HT_.out ?_; refine take_ (i := 15) (N := some 62) (v := ?_) (a' := ?_) (bA 22 1179647) rfl rfl (take_ofW HT_.out HW_.out (by kernel_rfl)) (fun _ _ _ h => h) (Or.inl ⟨by rfl, ?_⟩) hHeld ?_ ?_
           rotate_left
           ·rintro w' ⟨s0, s1, s2, s3, s4, s5, s6, s7, s8, s9⟩
            go_simp
            with_reducible rfl
           rotate_left
           ·simp only [aP, i64_w, i32_w]
            rfl
           refine take_ (i := 17) (N := some 64) (v := ?_) (a' := ?_) (bA 22 1310719) rfl rfl (take_ofW HT_.out HW_.out (by kernel_rfl)) (fun _ _ _ h => h) (Or.inl ⟨by rfl, ?_⟩) hHeld ?_ ?_
           rotate_left
           ·rintro w' ⟨s0, s1, s2, s3, s4, s5, s6, s7, s8, s9⟩
            go_simp
            with_reducible rfl
           rotate_left
           ·simp only [aP, i64_w, i32_w]
            rfl
           refine pZ 18 (some 65) (bA 22 1572863) HT_.out ?_; refine pZ 19 (some 66) (bA 22 2097151) HT_.out ?_; refine pZ 21 (some 3) (bA 22 4194303) HT_.out ?_; refine done_ (done_of HT_.out (by kernel_rfl)) ?_
           try go_wp2
           go_ret2
           exact ⟨_, eZ, Rz (Kd.R_mono HO_6.out (fun _ hk => trivial)), Bq⟩
          ·replace c37 := Bool.eq_false_iff.mpr c37
           subst c37
           rw [if_neg (show ¬ (false = true) by decide)] at H
           simp only [Option.some.injEq, Prod.mk.injEq] at H
           obtain ⟨rfl, rfl⟩ := H; obtain ⟨Ao49, co49, eo49⟩ := Kd.R_slice HO_6.out; subst eo49
           try go_wp2_with (first | ((with_reducible refine gate_callee (f := 32) rfl ?_); refine gL (some 43) Tryz.func32 #[.slice Ao49 x6_2.length co49] ?_; (with_reducible refine (spec_biKeys.calls k2 _ _ x6_2 true _ ?side1 ?side2 A31.out).mono ?_); (case side1 => exact Cz ((Kd.R_reads' HO_6.out).2.2)); (case side2 => exact (Kd.R_reads' HO_6.out).2.1); rintro e w' ⟨rfl, ⟨nd, rfl⟩⟩; refine ⟨_, rfl, ?_⟩; (try (rw [drewN_self wr]; generalize hq_ : World.drewN wr _ = wr; have n0_ : Aside0 (Kd.R Kd.string 9 wr w.heap.size (fun k_ => some k_ ≠ (.slice Ao49 x6_2.length co49 : Value).ownBlock) (.slice Ao18 t233.length co18) t233) := ⟨by rw [← hq_]; exact (Rz HO_27.out)⟩; have n1_ : Aside0 (Kd.R Kd.string 9 wr w.heap.size (fun k_ => some k_ ≠ (.slice Ao18 t233.length co18 : Value).ownBlock) (.slice Ao49 x6_2.length co49) x6_2) := ⟨by rw [← hq_]; exact (Rz HO_6.out)⟩; have n2_ : Aside0 (wr.heap[gb230]? = some (.cells #[.int .i64 a0_0, .slice A0_1 l0_1.length c0_1, .int .i64 a0_2, .slice A0_3 l0_3.length c0_3, .string a0_4] 32 (0, 0))) := ⟨by rw [← hq_]; exact (Kz BK230.out)⟩; have n3_ : Aside0 (Below w.heap.size w wr) := ⟨by rw [← hq_]; exact (Bq)⟩; clear HO_27 HO_6 BK230 HB hq_; revert n0_ n1_ n2_ n3_; intro HO_27 HO_6 BK230 HB))) | ((with_reducible refine gate_callee (f := 33) rfl ?_); refine gL (some 46) Tryz.func33 #[.slice Ao49 x6_2.length co49] ?_; (with_reducible refine (spec_trOf.calls k2 _ _ x6_2 t243 t244 t247 t248 t251 _ ?side1 ?side2 A33.out).mono ?_); (case side1 => exact Cz ((Kd.R_reads' HO_6.out).2.2)); (case side2 => exact (Kd.R_reads' HO_6.out).2.1); rintro e w50 ⟨v245, v249, rfl, ho0, ho1, hb⟩; refine ⟨_, rfl, ?_⟩; have n0_ := Rb HO_6 hb; have n1_ := Rb HO_27 hb; have n2_ := Rm ho0 HB; have n3_ := Rm ho1 HB; have n4_ := Kb BK230 hb; have n5_ := Bc HB hb; clear HO_6 HO_27 BK230 HB; revert n0_ n1_ n2_ n3_ n4_ n5_; intro HO_6 HO_27 HO246 HO250 BK230 HB; (try clear hb); (try clear hb2); (try clear hk); (try clear hi); (try clear ho0); (try clear ho1)) | ((with_reducible refine gate_dst (N := 9) rfl ?_); refine bE 9 #[.int .i64 0, .slice none 0 0, .int .i64 0, .slice none 0 0, .string (⟨#[]⟩ : ByteArray)] 32 ?_; intro gb252 hg w51 hbox hb; have n0_ := Rb HO_6 hb; have n1_ := Rb HO_27 hb; have n2_ := Rb HO246 hb; have n3_ := Rb HO250 hb; have n4_ := Kb BK230 hb; have n5_ := Bc HB hb; have n6_ := am (hbox); have n7_ := Gm HB hg; have n8_ := Gm HB hg; have n9_ := Nl BK230 hg; have n10_ := Ng BK230 hg; clear HO_6 HO_27 HO246 HO250 BK230 HB; revert n0_ n1_ n2_ n3_ n4_ n5_ n6_ n7_ n8_ n9_ n10_; intro HO_6 HO_27 HO246 HO250 BK230 HB BK252 GW252 GE252 NB230_252 NB252_230; clear hb hbox hg; have hnb52 := NB252_230.out; have hnc52 := NB230_252.out; obtain ⟨hcz53_0, hcz53_1, hcz53_2, hcz53_3, hcz53_4, hfz53_0, hfz53_1, hfz53_2, hfz53_3, hfz53_4⟩ := cf5 (w := w51) BK252; obtain ⟨Ao54, co54, eo54⟩ := Kd.R_slice HO246.out; subst eo54; obtain ⟨Ao55, co55, eo55⟩ := Kd.R_slice HO250.out; subst eo55))
           have n0_ : Aside0 (Kd.R Kd.string 9 (((((w51.setCell ⟨gb252, 0, none⟩ (.int .i64 t243)).setCell ⟨gb252, 1, none⟩ (.slice Ao54 t244.length co54)).setCell ⟨gb252, 2, none⟩ (.int .i64 t247)).setCell ⟨gb252, 3, none⟩ (.slice Ao55 t248.length co55)).setCell ⟨gb252, 4, none⟩ (.string t251)) w.heap.size (fun k_ => some k_ ≠ (.slice Ao18 t233.length co18 : Value).ownBlock) (.slice Ao49 x6_2.length co49) x6_2) := ⟨Rz (Kd.R_mono (Kd.R_far (p := ⟨gb252, 4, none⟩) (Kd.R_far (p := ⟨gb252, 3, none⟩) (Kd.R_far (p := ⟨gb252, 2, none⟩) (Kd.R_far (p := ⟨gb252, 1, none⟩) (Kd.R_far (p := ⟨gb252, 0, none⟩) (Kd.R_types HO_6.out BK252.out (by decide)) (fun _ hk => hk.2) (.int .i64 t243)) (fun _ hk => hk.2) (.slice Ao54 t244.length co54)) (fun _ hk => hk.2) (.int .i64 t247)) (fun _ hk => hk.2) (.slice Ao55 t248.length co55)) (fun _ hk => hk.2) (.string t251)) (fun _ hk => hk.1))⟩; have n1_ : Aside0 (Kd.R Kd.string 9 (((((w51.setCell ⟨gb252, 0, none⟩ (.int .i64 t243)).setCell ⟨gb252, 1, none⟩ (.slice Ao54 t244.length co54)).setCell ⟨gb252, 2, none⟩ (.int .i64 t247)).setCell ⟨gb252, 3, none⟩ (.slice Ao55 t248.length co55)).setCell ⟨gb252, 4, none⟩ (.string t251)) w.heap.size (fun k_ => some k_ ≠ (.slice Ao49 x6_2.length co49 : Value).ownBlock) (.slice Ao18 t233.length co18) t233) := ⟨Rz (Kd.R_mono (Kd.R_far (p := ⟨gb252, 4, none⟩) (Kd.R_far (p := ⟨gb252, 3, none⟩) (Kd.R_far (p := ⟨gb252, 2, none⟩) (Kd.R_far (p := ⟨gb252, 1, none⟩) (Kd.R_far (p := ⟨gb252, 0, none⟩) (Kd.R_types HO_27.out BK252.out (by decide)) (fun _ hk => hk.2) (.int .i64 t243)) (fun _ hk => hk.2) (.slice Ao54 t244.length co54)) (fun _ hk => hk.2) (.int .i64 t247)) (fun _ hk => hk.2) (.slice Ao55 t248.length co55)) (fun _ hk => hk.2) (.string t251)) (fun _ hk => hk.1))⟩; have n2_ : Aside0 (Kd.R (Kd.int .i64) 3 (((((w51.setCell ⟨gb252, 0, none⟩ (.int .i64 t243)).setCell ⟨gb252, 1, none⟩ (.slice Ao54 t244.length co54)).setCell ⟨gb252, 2, none⟩ (.int .i64 t247)).setCell ⟨gb252, 3, none⟩ (.slice Ao55 t248.length co55)).setCell ⟨gb252, 4, none⟩ (.string t251)) w.heap.size (fun k_ => some k_ ≠ (.slice Ao55 t248.length co55 : Value).ownBlock) (.slice Ao54 t244.length co54) t244) := ⟨Rz (Kd.R_mono (Kd.R_far (p := ⟨gb252, 4, none⟩) (Kd.R_far (p := ⟨gb252, 3, none⟩) (Kd.R_far (p := ⟨gb252, 2, none⟩) (Kd.R_far (p := ⟨gb252, 1, none⟩) (Kd.R_far (p := ⟨gb252, 0, none⟩) (Kd.R_types HO246.out BK252.out (by decide)) (fun _ hk => hk.2) (.int .i64 t243)) (fun _ hk => hk.2) (.slice Ao54 t244.length co54)) (fun _ hk => hk.2) (.int .i64 t247)) (fun _ hk => hk.2) (.slice Ao55 t248.length co55)) (fun _ hk => hk.2) (.string t251)) (fun _ hk => hk.1))⟩; have n3_ : Aside0 (Kd.R (Kd.int .i64) 3 (((((w51.setCell ⟨gb252, 0, none⟩ (.int .i64 t243)).setCell ⟨gb252, 1, none⟩ (.slice Ao54 t244.length co54)).setCell ⟨gb252, 2, none⟩ (.int .i64 t247)).setCell ⟨gb252, 3, none⟩ (.slice Ao55 t248.length co55)).setCell ⟨gb252, 4, none⟩ (.string t251)) w.heap.size (fun k_ => some k_ ≠ (.slice Ao54 t244.length co54 : Value).ownBlock) (.slice Ao55 t248.length co55) t248) := ⟨Rz (Kd.R_mono (Kd.R_far (p := ⟨gb252, 4, none⟩) (Kd.R_far (p := ⟨gb252, 3, none⟩) (Kd.R_far (p := ⟨gb252, 2, none⟩) (Kd.R_far (p := ⟨gb252, 1, none⟩) (Kd.R_far (p := ⟨gb252, 0, none⟩) (Kd.R_types HO250.out BK252.out (by decide)) (fun _ hk => hk.2) (.int .i64 t243)) (fun _ hk => hk.2) (.slice Ao54 t244.length co54)) (fun _ hk => hk.2) (.int .i64 t247)) (fun _ hk => hk.2) (.slice Ao55 t248.length co55)) (fun _ hk => hk.2) (.string t251)) (fun _ hk => hk.1))⟩
           have n4_ : Aside0 ((((((w51.setCell ⟨gb252, 0, none⟩ (.int .i64 t243)).setCell ⟨gb252, 1, none⟩ (.slice Ao54 t244.length co54)).setCell ⟨gb252, 2, none⟩ (.int .i64 t247)).setCell ⟨gb252, 3, none⟩ (.slice Ao55 t248.length co55)).setCell ⟨gb252, 4, none⟩ (.string t251)).heap[gb230]? = some (.cells #[.int .i64 a0_0, .slice A0_1 l0_1.length c0_1, .int .i64 a0_2, .slice A0_3 l0_3.length c0_3, .string a0_4] 32 (0, 0))) := ⟨by (with_reducible repeat (first | refine blk_drewN ?_ _ | refine blk_drew ?_ | refine blk_alloc ?_ _)); refine blk_far ?_ NB230_252.out _; (with_reducible repeat (first | refine blk_drewN ?_ _ | refine blk_drew ?_ | refine blk_alloc ?_ _)); refine blk_far ?_ NB230_252.out _; (with_reducible repeat (first | refine blk_drewN ?_ _ | refine blk_drew ?_ | refine blk_alloc ?_ _)); refine blk_far ?_ NB230_252.out _; (with_reducible repeat (first | refine blk_drewN ?_ _ | refine blk_drew ?_ | refine blk_alloc ?_ _)); refine blk_far ?_ NB230_252.out _; (with_reducible repeat (first | refine blk_drewN ?_ _ | refine blk_drew ?_ | refine blk_alloc ?_ _)); refine blk_far ?_ NB230_252.out _; (with_reducible repeat (first | refine blk_drewN ?_ _ | refine blk_drew ?_ | refine blk_alloc ?_ _)); exact BK230.out⟩; have n5_ : Aside0 ((((((w51.setCell ⟨gb252, 0, none⟩ (.int .i64 t243)).setCell ⟨gb252, 1, none⟩ (.slice Ao54 t244.length co54)).setCell ⟨gb252, 2, none⟩ (.int .i64 t247)).setCell ⟨gb252, 3, none⟩ (.slice Ao55 t248.length co55)).setCell ⟨gb252, 4, none⟩ (.string t251)).heap[gb252]? = some (.cells #[.int .i64 t243, .slice Ao54 t244.length co54, .int .i64 t247, .slice Ao55 t248.length co55, .string t251] 32 (0, 0))) := ⟨by (with_reducible repeat (first | refine blk_drewN ?_ _ | refine blk_drew ?_ | refine blk_alloc ?_ _)); refine blk_put (cs := #[.int .i64 t243, .slice Ao54 t244.length co54, .int .i64 t247, .slice Ao55 t248.length co55, .string (⟨#[]⟩ : ByteArray)]) ?_ 4 _ rfl; (with_reducible repeat (first | refine blk_drewN ?_ _ | refine blk_drew ?_ | refine blk_alloc ?_ _)); refine blk_put (cs := #[.int .i64 t243, .slice Ao54 t244.length co54, .int .i64 t247, .slice none 0 0, .string (⟨#[]⟩ : ByteArray)]) ?_ 3 _ rfl; (with_reducible repeat (first | refine blk_drewN ?_ _ | refine blk_drew ?_ | refine blk_alloc ?_ _)); refine blk_put (cs := #[.int .i64 t243, .slice Ao54 t244.length co54, .int .i64 0, .slice none 0 0, .string (⟨#[]⟩ : ByteArray)]) ?_ 2 _ rfl; (with_reducible repeat (first | refine blk_drewN ?_ _ | refine blk_drew ?_ | refine blk_alloc ?_ _)); refine blk_put (cs := #[.int .i64 t243, .slice none 0 0, .int .i64 0, .slice none 0 0, .string (⟨#[]⟩ : ByteArray)]) ?_ 1 _ rfl; (with_reducible repeat (first | refine blk_drewN ?_ _ | refine blk_drew ?_ | refine blk_alloc ?_ _)); refine blk_put (cs := #[.int .i64 0, .slice none 0 0, .int .i64 0, .slice none 0 0, .string (⟨#[]⟩ : ByteArray)]) ?_ 0 _ rfl; (with_reducible repeat (first | refine blk_drewN ?_ _ | refine blk_drew ?_ | refine blk_alloc ?_ _)); exact BK252.out⟩; have n6_ : Aside0 (Below w.heap.size w (((((w51.setCell ⟨gb252, 0, none⟩ (.int .i64 t243)).setCell ⟨gb252, 1, none⟩ (.slice Ao54 t244.length co54)).setCell ⟨gb252, 2, none⟩ (.int .i64 t247)).setCell ⟨gb252, 3, none⟩ (.slice Ao55 t248.length co55)).setCell ⟨gb252, 4, none⟩ (.string t251))) := ⟨Bq⟩
           (try clear HO_6)
           (try clear HO_27)
           (try clear HO246)
           (try clear HO250)
           (try clear BK230)
           (try clear BK252)
           (try clear HB)
           generalize (((((w51.setCell ⟨gb252, 0, none⟩ (.int .i64 t243)).setCell ⟨gb252, 1, none⟩ (.slice Ao54 t244.length co54)).setCell ⟨gb252, 2, none⟩ (.int .i64 t247)).setCell ⟨gb252, 3, none⟩ (.slice Ao55 t248.length co55)).setCell ⟨gb252, 4, none⟩ (.string t251)) = w56 at n0_ n1_ n2_ n3_ n4_ n5_ n6_ ⊢; revert n0_ n1_ n2_ n3_ n4_ n5_ n6_; intro HO_6 HO_27 HO246 HO250 BK230 BK252 HB; have n0_ := am (Kd.R_drew HO_6.out); have n1_ := am (Kd.R_drew HO_27.out); have n2_ := am (Kd.R_drew HO246.out); have n3_ := am (Kd.R_drew HO250.out); have n4_ := am (blk_drew BK230.out); have n5_ := am (blk_drew BK252.out); have n6_ := am (below_drew1 HB.out); clear HO_6 HO_27 HO246 HO250 BK230 BK252 HB; revert n0_ n1_ n2_ n3_ n4_ n5_ n6_; intro HO_6 HO_27 HO246 HO250 BK230 BK252 HB; refine start_ (n := 22) (S := fun w' => w'.cell? ⟨gb230, 0, none⟩ = some (.int .i64 a0_0) ∧ w'.cell? ⟨gb230, 1, none⟩ = some (.slice A0_1 l0_1.length c0_1) ∧ w'.cell? ⟨gb230, 2, none⟩ = some (.int .i64 a0_2) ∧ w'.cell? ⟨gb230, 3, none⟩ = some (.slice A0_3 l0_3.length c0_3) ∧ w'.cell? ⟨gb230, 4, none⟩ = some (.string a0_4) ∧ w'.cell? ⟨gb252, 0, none⟩ = some (.int .i64 t243) ∧ w'.cell? ⟨gb252, 1, none⟩ = some (.slice Ao54 t244.length co54) ∧ w'.cell? ⟨gb252, 2, none⟩ = some (.int .i64 t247) ∧ w'.cell? ⟨gb252, 3, none⟩ = some (.slice Ao55 t248.length co55) ∧ w'.cell? ⟨gb252, 4, none⟩ = some (.string t251)) (ds := []) (bA 22 0) (by kernel_rfl) rfl rfl ⟨cz BK230 0, cz BK230 1, cz BK230 2, cz BK230 3, cz BK230 4, cz BK252 0, cz BK252 1, cz BK252 2, cz BK252 3, cz BK252 4⟩ (fun hHeld => ?_); refine with_tabW spec_trKeys.tab16 spec_trKeys.bits16 (fun HT_ HW_ => ?_); generalize w56.drew = w57 at HO_6 HO_27 HO246 HO250 BK230 BK252 HB hHeld ⊢; refine pZ 0 (some 47) (bA 22 1) HT_.out ?_; refine pZ 1 (some 48) (bA 22 3) HT_.out ?_; refine pZ 3 (some 50) (bA 22 11) HT_.out ?_; refine take_ (i := 2) (N := some 49) (v := ?_) (a' := ?_) (bA 22 15) rfl rfl (take_ofW HT_.out HW_.out (by kernel_rfl)) (fun _ _ _ h => h) (Or.inl ⟨by rfl, ?_⟩) hHeld ?_ ?_
           rotate_left
           ·rintro w' ⟨s0, s1, s2, s3, s4, s5, s6, s7, s8, s9⟩
            go_simp
            with_reducible rfl
           rotate_left
           ·simp only [aP, i64_w, i32_w]
            rfl
           refine take_ (i := 4) (N := some 51) (v := ?_) (a' := ?_) (bA 22 31) rfl rfl (take_ofW HT_.out HW_.out (by kernel_rfl)) (fun _ _ _ h => h) (Or.inl ⟨by rfl, ?_⟩) hHeld ?_ ?_
           rotate_left
           ·rintro w' ⟨s0, s1, s2, s3, s4, s5, s6, s7, s8, s9⟩
            go_simp
            with_reducible rfl
           rotate_left
           ·simp only [aP, i64_w, i32_w]
            rfl
           refine oZ 5 (some 52) (bA 22 63) HT_.out (fun K hK => ?_); refine gZ Tryz.func34 #[.agg #[.int .i64 a0_0, .slice A0_1 l0_1.length c0_1], .agg #[.int .i64 t243, .slice Ao54 t244.length co54]] ?_
           with_reducible refine (spec_biSame.calls k2 a0_0 _ _ l0_1 t243 _ _ t244 true _ ?side1 ?side2 ?side3 ?side4 A34.out).mono ?_
           (case side1 => exact Cz (Kd.C_below HR0_1.out HB.out))
           (case side2 => exact HC0_1.out)
           (case side3 => exact Cz ((Kd.R_reads' HO246.out).2.2))
           (case side4 => exact (Kd.R_reads' HO246.out).2.1)
           rintro e w58 ⟨rfl, hb⟩; refine ⟨_, rfl, ?_⟩; have n0_ := Rb HO_6 hb; have n1_ := Rb HO_27 hb; have n2_ := Rb HO246 hb; have n3_ := Rb HO250 hb; have n4_ := Kb BK230 hb; have n5_ := Kb BK252 hb; have n6_ := Bc HB hb; clear HO_6 HO_27 HO246 HO250 BK230 BK252 HB; revert n0_ n1_ n2_ n3_ n4_ n5_ n6_; intro HO_6 HO_27 HO246 HO250 BK230 BK252 HB
           (try clear hb)
           (try clear hb2)
           (try clear hk)
           (try clear hi)
           refine hK.out _ _ ⟨cz BK230 0, cz BK230 1, cz BK230 2, cz BK230 3, cz BK230 4, cz BK252 0, cz BK252 1, cz BK252 2, cz BK252 3, cz BK252 4⟩ (fun hHeld => ?_); clear hK K; refine norm_ (a' := ?_) ?_ ?_; rotate_left; show Act.put _ (some 52) _ = _; simp only [aP, i64_w, i32_w]; rfl; refine pZ 6 (some 53) (bA 22 127) HT_.out ?_; refine pZ 7 (some 54) (bA 22 255) HT_.out ?_; refine pZ 9 (some 56) (bA 22 767) HT_.out ?_; refine take_ (i := 8) (N := some 55) (v := ?_) (a' := ?_) (bA 22 1023) rfl rfl (take_ofW HT_.out HW_.out (by kernel_rfl)) (fun _ _ _ h => h) (Or.inl ⟨by rfl, ?_⟩) hHeld ?_ ?_
           rotate_left
           ·rintro w' ⟨s0, s1, s2, s3, s4, s5, s6, s7, s8, s9⟩
            go_simp
            with_reducible rfl
           rotate_left
           ·simp only [aP, i64_w, i32_w]
            rfl
           refine take_ (i := 10) (N := some 57) (v := ?_) (a' := ?_) (bA 22 2047) rfl rfl (take_ofW HT_.out HW_.out (by kernel_rfl)) (fun _ _ _ h => h) (Or.inl ⟨by rfl, ?_⟩) hHeld ?_ ?_
           rotate_left
           ·rintro w' ⟨s0, s1, s2, s3, s4, s5, s6, s7, s8, s9⟩
            go_simp
            with_reducible rfl
           rotate_left
           ·simp only [aP, i64_w, i32_w]
            rfl
           refine oZ 11 (some 58) (bA 22 4095) HT_.out (fun K hK => ?_); refine gZ Tryz.func34 #[.agg #[.int .i64 a0_2, .slice A0_3 l0_3.length c0_3], .agg #[.int .i64 t247, .slice Ao55 t248.length co55]] ?_
           with_reducible refine (spec_biSame.calls k2 a0_2 _ _ l0_3 t247 _ _ t248 false _ ?side1 ?side2 ?side3 ?side4 A36.out).mono ?_
           (case side1 => exact Cz (Kd.C_below HR0_3.out HB.out))
           (case side2 => exact HC0_3.out)
           (case side3 => exact Cz ((Kd.R_reads' HO250.out).2.2))
           (case side4 => exact (Kd.R_reads' HO250.out).2.1)
           rintro e w59 ⟨rfl, hb⟩; refine ⟨_, rfl, ?_⟩; have n0_ := Rb HO_6 hb; have n1_ := Rb HO_27 hb; have n2_ := Rb HO246 hb; have n3_ := Rb HO250 hb; have n4_ := Kb BK230 hb; have n5_ := Kb BK252 hb; have n6_ := Bc HB hb; clear HO_6 HO_27 HO246 HO250 BK230 BK252 HB; revert n0_ n1_ n2_ n3_ n4_ n5_ n6_; intro HO_6 HO_27 HO246 HO250 BK230 BK252 HB
           (try clear hb)
           (try clear hb2)
           (try clear hk)
           (try clear hi)
           refine hK.out _ _ ⟨cz BK230 0, cz BK230 1, cz BK230 2, cz BK230 3, cz BK230 4, cz BK252 0, cz BK252 1, cz BK252 2, cz BK252 3, cz BK252 4⟩ (fun hHeld => ?_); clear hK K; refine norm_ (a' := ?_) ?_ ?_; rotate_left; show Act.put _ (some 58) _ = _; simp only [aP, i64_w, i32_w]; rfl; refine pZ 12 (some 59) (bA 22 8191) HT_.out ?_; refine pZ 13 (some 60) (bA 22 16383) HT_.out ?_; refine sZ 14 (some 61) (bA 22 32767) HT_.out ?_; refine sZ 15 (some 62) (bA 22 65535) HT_.out ?_; refine sZ 16 (some 63) (bA 22 131071) HT_.out ?_; refine sZ 17 (some 64) (bA 22 262143) HT_.out ?_; refine sZ 18 (some 65) (bA 22 524287) HT_.out ?_; refine pZ 19 (some 66) (bA 22 1048575) HT_.out ?_; refine pZ 20 (some 2) (bA 22 2097151) HT_.out ?_; refine pZ 21 (some 3) (bA 22 4194303) HT_.out ?_; refine done_ (done_of HT_.out (by kernel_rfl)) ?_
           try go_wp2
           go_ret2
           exact ⟨_, eZ, Rz (Kd.R_mono HO_6.out (fun _ hk => trivial)), Bq⟩
         ·replace c35 := Bool.eq_false_iff.mpr c35
          subst c35
          rw [if_neg (show ¬ (false = true) by decide)] at H
          simp only [Option.some.injEq, Prod.mk.injEq] at H
          obtain ⟨rfl, rfl⟩ := H; obtain ⟨Ao60, co60, eo60⟩ := Kd.R_slice HO_6.out; subst eo60
          try go_wp2_with (first | ((with_reducible refine gate_callee (f := 32) rfl ?_); refine gL (some 43) Tryz.func32 #[.slice Ao60 x6_2.length co60] ?_; (with_reducible refine (spec_biKeys.calls k2 _ _ x6_2 true _ ?side1 ?side2 A31.out).mono ?_); (case side1 => exact Cz ((Kd.R_reads' HO_6.out).2.2)); (case side2 => exact (Kd.R_reads' HO_6.out).2.1); rintro e w' ⟨rfl, ⟨nd, rfl⟩⟩; refine ⟨_, rfl, ?_⟩; (try (rw [drewN_self wr]; generalize hq_ : World.drewN wr _ = wr; have n0_ : Aside0 (Kd.R Kd.string 9 wr w.heap.size (fun k_ => some k_ ≠ (.slice Ao60 x6_2.length co60 : Value).ownBlock) (.slice Ao18 t233.length co18) t233) := ⟨by rw [← hq_]; exact (Rz HO_27.out)⟩; have n1_ : Aside0 (Kd.R Kd.string 9 wr w.heap.size (fun k_ => some k_ ≠ (.slice Ao18 t233.length co18 : Value).ownBlock) (.slice Ao60 x6_2.length co60) x6_2) := ⟨by rw [← hq_]; exact (Rz HO_6.out)⟩; have n2_ : Aside0 (wr.heap[gb230]? = some (.cells #[.int .i64 a0_0, .slice A0_1 l0_1.length c0_1, .int .i64 a0_2, .slice A0_3 l0_3.length c0_3, .string a0_4] 32 (0, 0))) := ⟨by rw [← hq_]; exact (Kz BK230.out)⟩; have n3_ : Aside0 (Below w.heap.size w wr) := ⟨by rw [← hq_]; exact (Bq)⟩; clear HO_27 HO_6 BK230 HB hq_; revert n0_ n1_ n2_ n3_; intro HO_27 HO_6 BK230 HB))) | ((with_reducible refine gate_callee (f := 33) rfl ?_); refine gL (some 46) Tryz.func33 #[.slice Ao60 x6_2.length co60] ?_; (with_reducible refine (spec_trOf.calls k2 _ _ x6_2 t243 t244 t247 t248 t251 _ ?side1 ?side2 A33.out).mono ?_); (case side1 => exact Cz ((Kd.R_reads' HO_6.out).2.2)); (case side2 => exact (Kd.R_reads' HO_6.out).2.1); rintro e w61 ⟨v245, v249, rfl, ho0, ho1, hb⟩; refine ⟨_, rfl, ?_⟩; have n0_ := Rb HO_6 hb; have n1_ := Rb HO_27 hb; have n2_ := Rm ho0 HB; have n3_ := Rm ho1 HB; have n4_ := Kb BK230 hb; have n5_ := Bc HB hb; clear HO_6 HO_27 BK230 HB; revert n0_ n1_ n2_ n3_ n4_ n5_; intro HO_6 HO_27 HO246 HO250 BK230 HB; (try clear hb); (try clear hb2); (try clear hk); (try clear hi); (try clear ho0); (try clear ho1)) | ((with_reducible refine gate_dst (N := 9) rfl ?_); refine bE 9 #[.int .i64 0, .slice none 0 0, .int .i64 0, .slice none 0 0, .string (⟨#[]⟩ : ByteArray)] 32 ?_; intro gb252 hg w62 hbox hb; have n0_ := Rb HO_6 hb; have n1_ := Rb HO_27 hb; have n2_ := Rb HO246 hb; have n3_ := Rb HO250 hb; have n4_ := Kb BK230 hb; have n5_ := Bc HB hb; have n6_ := am (hbox); have n7_ := Gm HB hg; have n8_ := Gm HB hg; have n9_ := Nl BK230 hg; have n10_ := Ng BK230 hg; clear HO_6 HO_27 HO246 HO250 BK230 HB; revert n0_ n1_ n2_ n3_ n4_ n5_ n6_ n7_ n8_ n9_ n10_; intro HO_6 HO_27 HO246 HO250 BK230 HB BK252 GW252 GE252 NB230_252 NB252_230; clear hb hbox hg; have hnb63 := NB252_230.out; have hnc63 := NB230_252.out; obtain ⟨hcz64_0, hcz64_1, hcz64_2, hcz64_3, hcz64_4, hfz64_0, hfz64_1, hfz64_2, hfz64_3, hfz64_4⟩ := cf5 (w := w62) BK252; obtain ⟨Ao65, co65, eo65⟩ := Kd.R_slice HO246.out; subst eo65; obtain ⟨Ao66, co66, eo66⟩ := Kd.R_slice HO250.out; subst eo66))
          have n0_ : Aside0 (Kd.R Kd.string 9 (((((w62.setCell ⟨gb252, 0, none⟩ (.int .i64 t243)).setCell ⟨gb252, 1, none⟩ (.slice Ao65 t244.length co65)).setCell ⟨gb252, 2, none⟩ (.int .i64 t247)).setCell ⟨gb252, 3, none⟩ (.slice Ao66 t248.length co66)).setCell ⟨gb252, 4, none⟩ (.string t251)) w.heap.size (fun k_ => some k_ ≠ (.slice Ao18 t233.length co18 : Value).ownBlock) (.slice Ao60 x6_2.length co60) x6_2) := ⟨Rz (Kd.R_mono (Kd.R_far (p := ⟨gb252, 4, none⟩) (Kd.R_far (p := ⟨gb252, 3, none⟩) (Kd.R_far (p := ⟨gb252, 2, none⟩) (Kd.R_far (p := ⟨gb252, 1, none⟩) (Kd.R_far (p := ⟨gb252, 0, none⟩) (Kd.R_types HO_6.out BK252.out (by decide)) (fun _ hk => hk.2) (.int .i64 t243)) (fun _ hk => hk.2) (.slice Ao65 t244.length co65)) (fun _ hk => hk.2) (.int .i64 t247)) (fun _ hk => hk.2) (.slice Ao66 t248.length co66)) (fun _ hk => hk.2) (.string t251)) (fun _ hk => hk.1))⟩; have n1_ : Aside0 (Kd.R Kd.string 9 (((((w62.setCell ⟨gb252, 0, none⟩ (.int .i64 t243)).setCell ⟨gb252, 1, none⟩ (.slice Ao65 t244.length co65)).setCell ⟨gb252, 2, none⟩ (.int .i64 t247)).setCell ⟨gb252, 3, none⟩ (.slice Ao66 t248.length co66)).setCell ⟨gb252, 4, none⟩ (.string t251)) w.heap.size (fun k_ => some k_ ≠ (.slice Ao60 x6_2.length co60 : Value).ownBlock) (.slice Ao18 t233.length co18) t233) := ⟨Rz (Kd.R_mono (Kd.R_far (p := ⟨gb252, 4, none⟩) (Kd.R_far (p := ⟨gb252, 3, none⟩) (Kd.R_far (p := ⟨gb252, 2, none⟩) (Kd.R_far (p := ⟨gb252, 1, none⟩) (Kd.R_far (p := ⟨gb252, 0, none⟩) (Kd.R_types HO_27.out BK252.out (by decide)) (fun _ hk => hk.2) (.int .i64 t243)) (fun _ hk => hk.2) (.slice Ao65 t244.length co65)) (fun _ hk => hk.2) (.int .i64 t247)) (fun _ hk => hk.2) (.slice Ao66 t248.length co66)) (fun _ hk => hk.2) (.string t251)) (fun _ hk => hk.1))⟩; have n2_ : Aside0 (Kd.R (Kd.int .i64) 3 (((((w62.setCell ⟨gb252, 0, none⟩ (.int .i64 t243)).setCell ⟨gb252, 1, none⟩ (.slice Ao65 t244.length co65)).setCell ⟨gb252, 2, none⟩ (.int .i64 t247)).setCell ⟨gb252, 3, none⟩ (.slice Ao66 t248.length co66)).setCell ⟨gb252, 4, none⟩ (.string t251)) w.heap.size (fun k_ => some k_ ≠ (.slice Ao66 t248.length co66 : Value).ownBlock) (.slice Ao65 t244.length co65) t244) := ⟨Rz (Kd.R_mono (Kd.R_far (p := ⟨gb252, 4, none⟩) (Kd.R_far (p := ⟨gb252, 3, none⟩) (Kd.R_far (p := ⟨gb252, 2, none⟩) (Kd.R_far (p := ⟨gb252, 1, none⟩) (Kd.R_far (p := ⟨gb252, 0, none⟩) (Kd.R_types HO246.out BK252.out (by decide)) (fun _ hk => hk.2) (.int .i64 t243)) (fun _ hk => hk.2) (.slice Ao65 t244.length co65)) (fun _ hk => hk.2) (.int .i64 t247)) (fun _ hk => hk.2) (.slice Ao66 t248.length co66)) (fun _ hk => hk.2) (.string t251)) (fun _ hk => hk.1))⟩; have n3_ : Aside0 (Kd.R (Kd.int .i64) 3 (((((w62.setCell ⟨gb252, 0, none⟩ (.int .i64 t243)).setCell ⟨gb252, 1, none⟩ (.slice Ao65 t244.length co65)).setCell ⟨gb252, 2, none⟩ (.int .i64 t247)).setCell ⟨gb252, 3, none⟩ (.slice Ao66 t248.length co66)).setCell ⟨gb252, 4, none⟩ (.string t251)) w.heap.size (fun k_ => some k_ ≠ (.slice Ao65 t244.length co65 : Value).ownBlock) (.slice Ao66 t248.length co66) t248) := ⟨Rz (Kd.R_mono (Kd.R_far (p := ⟨gb252, 4, none⟩) (Kd.R_far (p := ⟨gb252, 3, none⟩) (Kd.R_far (p := ⟨gb252, 2, none⟩) (Kd.R_far (p := ⟨gb252, 1, none⟩) (Kd.R_far (p := ⟨gb252, 0, none⟩) (Kd.R_types HO250.out BK252.out (by decide)) (fun _ hk => hk.2) (.int .i64 t243)) (fun _ hk => hk.2) (.slice Ao65 t244.length co65)) (fun _ hk => hk.2) (.int .i64 t247)) (fun _ hk => hk.2) (.slice Ao66 t248.length co66)) (fun _ hk => hk.2) (.string t251)) (fun _ hk => hk.1))⟩
          have n4_ : Aside0 ((((((w62.setCell ⟨gb252, 0, none⟩ (.int .i64 t243)).setCell ⟨gb252, 1, none⟩ (.slice Ao65 t244.length co65)).setCell ⟨gb252, 2, none⟩ (.int .i64 t247)).setCell ⟨gb252, 3, none⟩ (.slice Ao66 t248.length co66)).setCell ⟨gb252, 4, none⟩ (.string t251)).heap[gb230]? = some (.cells #[.int .i64 a0_0, .slice A0_1 l0_1.length c0_1, .int .i64 a0_2, .slice A0_3 l0_3.length c0_3, .string a0_4] 32 (0, 0))) := ⟨by (with_reducible repeat (first | refine blk_drewN ?_ _ | refine blk_drew ?_ | refine blk_alloc ?_ _)); refine blk_far ?_ NB230_252.out _; (with_reducible repeat (first | refine blk_drewN ?_ _ | refine blk_drew ?_ | refine blk_alloc ?_ _)); refine blk_far ?_ NB230_252.out _; (with_reducible repeat (first | refine blk_drewN ?_ _ | refine blk_drew ?_ | refine blk_alloc ?_ _)); refine blk_far ?_ NB230_252.out _; (with_reducible repeat (first | refine blk_drewN ?_ _ | refine blk_drew ?_ | refine blk_alloc ?_ _)); refine blk_far ?_ NB230_252.out _; (with_reducible repeat (first | refine blk_drewN ?_ _ | refine blk_drew ?_ | refine blk_alloc ?_ _)); refine blk_far ?_ NB230_252.out _; (with_reducible repeat (first | refine blk_drewN ?_ _ | refine blk_drew ?_ | refine blk_alloc ?_ _)); exact BK230.out⟩; have n5_ : Aside0 ((((((w62.setCell ⟨gb252, 0, none⟩ (.int .i64 t243)).setCell ⟨gb252, 1, none⟩ (.slice Ao65 t244.length co65)).setCell ⟨gb252, 2, none⟩ (.int .i64 t247)).setCell ⟨gb252, 3, none⟩ (.slice Ao66 t248.length co66)).setCell ⟨gb252, 4, none⟩ (.string t251)).heap[gb252]? = some (.cells #[.int .i64 t243, .slice Ao65 t244.length co65, .int .i64 t247, .slice Ao66 t248.length co66, .string t251] 32 (0, 0))) := ⟨by (with_reducible repeat (first | refine blk_drewN ?_ _ | refine blk_drew ?_ | refine blk_alloc ?_ _)); refine blk_put (cs := #[.int .i64 t243, .slice Ao65 t244.length co65, .int .i64 t247, .slice Ao66 t248.length co66, .string (⟨#[]⟩ : ByteArray)]) ?_ 4 _ rfl; (with_reducible repeat (first | refine blk_drewN ?_ _ | refine blk_drew ?_ | refine blk_alloc ?_ _)); refine blk_put (cs := #[.int .i64 t243, .slice Ao65 t244.length co65, .int .i64 t247, .slice none 0 0, .string (⟨#[]⟩ : ByteArray)]) ?_ 3 _ rfl; (with_reducible repeat (first | refine blk_drewN ?_ _ | refine blk_drew ?_ | refine blk_alloc ?_ _)); refine blk_put (cs := #[.int .i64 t243, .slice Ao65 t244.length co65, .int .i64 0, .slice none 0 0, .string (⟨#[]⟩ : ByteArray)]) ?_ 2 _ rfl; (with_reducible repeat (first | refine blk_drewN ?_ _ | refine blk_drew ?_ | refine blk_alloc ?_ _)); refine blk_put (cs := #[.int .i64 t243, .slice none 0 0, .int .i64 0, .slice none 0 0, .string (⟨#[]⟩ : ByteArray)]) ?_ 1 _ rfl; (with_reducible repeat (first | refine blk_drewN ?_ _ | refine blk_drew ?_ | refine blk_alloc ?_ _)); refine blk_put (cs := #[.int .i64 0, .slice none 0 0, .int .i64 0, .slice none 0 0, .string (⟨#[]⟩ : ByteArray)]) ?_ 0 _ rfl; (with_reducible repeat (first | refine blk_drewN ?_ _ | refine blk_drew ?_ | refine blk_alloc ?_ _)); exact BK252.out⟩; have n6_ : Aside0 (Below w.heap.size w (((((w62.setCell ⟨gb252, 0, none⟩ (.int .i64 t243)).setCell ⟨gb252, 1, none⟩ (.slice Ao65 t244.length co65)).setCell ⟨gb252, 2, none⟩ (.int .i64 t247)).setCell ⟨gb252, 3, none⟩ (.slice Ao66 t248.length co66)).setCell ⟨gb252, 4, none⟩ (.string t251))) := ⟨Bq⟩
          (try clear HO_6)
          (try clear HO_27)
          (try clear HO246)
          (try clear HO250)
          (try clear BK230)
          (try clear BK252)
          (try clear HB)
          generalize (((((w62.setCell ⟨gb252, 0, none⟩ (.int .i64 t243)).setCell ⟨gb252, 1, none⟩ (.slice Ao65 t244.length co65)).setCell ⟨gb252, 2, none⟩ (.int .i64 t247)).setCell ⟨gb252, 3, none⟩ (.slice Ao66 t248.length co66)).setCell ⟨gb252, 4, none⟩ (.string t251)) = w67 at n0_ n1_ n2_ n3_ n4_ n5_ n6_ ⊢; revert n0_ n1_ n2_ n3_ n4_ n5_ n6_; intro HO_6 HO_27 HO246 HO250 BK230 BK252 HB; have n0_ := am (Kd.R_drew HO_6.out); have n1_ := am (Kd.R_drew HO_27.out); have n2_ := am (Kd.R_drew HO246.out); have n3_ := am (Kd.R_drew HO250.out); have n4_ := am (blk_drew BK230.out); have n5_ := am (blk_drew BK252.out); have n6_ := am (below_drew1 HB.out); clear HO_6 HO_27 HO246 HO250 BK230 BK252 HB; revert n0_ n1_ n2_ n3_ n4_ n5_ n6_; intro HO_6 HO_27 HO246 HO250 BK230 BK252 HB; refine start_ (n := 22) (S := fun w' => w'.cell? ⟨gb230, 0, none⟩ = some (.int .i64 a0_0) ∧ w'.cell? ⟨gb230, 1, none⟩ = some (.slice A0_1 l0_1.length c0_1) ∧ w'.cell? ⟨gb230, 2, none⟩ = some (.int .i64 a0_2) ∧ w'.cell? ⟨gb230, 3, none⟩ = some (.slice A0_3 l0_3.length c0_3) ∧ w'.cell? ⟨gb230, 4, none⟩ = some (.string a0_4) ∧ w'.cell? ⟨gb252, 0, none⟩ = some (.int .i64 t243) ∧ w'.cell? ⟨gb252, 1, none⟩ = some (.slice Ao65 t244.length co65) ∧ w'.cell? ⟨gb252, 2, none⟩ = some (.int .i64 t247) ∧ w'.cell? ⟨gb252, 3, none⟩ = some (.slice Ao66 t248.length co66) ∧ w'.cell? ⟨gb252, 4, none⟩ = some (.string t251)) (ds := []) (bA 22 0) (by kernel_rfl) rfl rfl ⟨cz BK230 0, cz BK230 1, cz BK230 2, cz BK230 3, cz BK230 4, cz BK252 0, cz BK252 1, cz BK252 2, cz BK252 3, cz BK252 4⟩ (fun hHeld => ?_); refine with_tabW spec_trKeys.tab16 spec_trKeys.bits16 (fun HT_ HW_ => ?_); generalize w67.drew = w68 at HO_6 HO_27 HO246 HO250 BK230 BK252 HB hHeld ⊢; refine pZ 0 (some 47) (bA 22 1) HT_.out ?_; refine pZ 1 (some 48) (bA 22 3) HT_.out ?_; refine pZ 3 (some 50) (bA 22 11) HT_.out ?_; refine take_ (i := 2) (N := some 49) (v := ?_) (a' := ?_) (bA 22 15) rfl rfl (take_ofW HT_.out HW_.out (by kernel_rfl)) (fun _ _ _ h => h) (Or.inl ⟨by rfl, ?_⟩) hHeld ?_ ?_
          rotate_left
          ·rintro w' ⟨s0, s1, s2, s3, s4, s5, s6, s7, s8, s9⟩
           go_simp
           with_reducible rfl
          rotate_left
          ·simp only [aP, i64_w, i32_w]
           rfl
          refine take_ (i := 4) (N := some 51) (v := ?_) (a' := ?_) (bA 22 31) rfl rfl (take_ofW HT_.out HW_.out (by kernel_rfl)) (fun _ _ _ h => h) (Or.inl ⟨by rfl, ?_⟩) hHeld ?_ ?_
          rotate_left
          ·rintro w' ⟨s0, s1, s2, s3, s4, s5, s6, s7, s8, s9⟩
           go_simp
           with_reducible rfl
          rotate_left
          ·simp only [aP, i64_w, i32_w]
           rfl
          refine oZ 5 (some 52) (bA 22 63) HT_.out (fun K hK => ?_); refine gZ Tryz.func34 #[.agg #[.int .i64 a0_0, .slice A0_1 l0_1.length c0_1], .agg #[.int .i64 t243, .slice Ao65 t244.length co65]] ?_
          with_reducible refine (spec_biSame.calls k2 a0_0 _ _ l0_1 t243 _ _ t244 false _ ?side1 ?side2 ?side3 ?side4 A34.out).mono ?_
          (case side1 => exact Cz (Kd.C_below HR0_1.out HB.out))
          (case side2 => exact HC0_1.out)
          (case side3 => exact Cz ((Kd.R_reads' HO246.out).2.2))
          (case side4 => exact (Kd.R_reads' HO246.out).2.1)
          rintro e w69 ⟨rfl, hb⟩; refine ⟨_, rfl, ?_⟩; have n0_ := Rb HO_6 hb; have n1_ := Rb HO_27 hb; have n2_ := Rb HO246 hb; have n3_ := Rb HO250 hb; have n4_ := Kb BK230 hb; have n5_ := Kb BK252 hb; have n6_ := Bc HB hb; clear HO_6 HO_27 HO246 HO250 BK230 BK252 HB; revert n0_ n1_ n2_ n3_ n4_ n5_ n6_; intro HO_6 HO_27 HO246 HO250 BK230 BK252 HB
          (try clear hb)
          (try clear hb2)
          (try clear hk)
          (try clear hi)
          refine hK.out _ _ ⟨cz BK230 0, cz BK230 1, cz BK230 2, cz BK230 3, cz BK230 4, cz BK252 0, cz BK252 1, cz BK252 2, cz BK252 3, cz BK252 4⟩ (fun hHeld => ?_); clear hK K; refine norm_ (a' := ?_) ?_ ?_; rotate_left; show Act.put _ (some 52) _ = _; simp only [aP, i64_w, i32_w]; rfl; refine pZ 6 (some 53) (bA 22 127) HT_.out ?_; refine sZ 7 (some 54) (bA 22 255) HT_.out ?_; refine sZ 8 (some 55) (bA 22 511) HT_.out ?_; refine sZ 9 (some 56) (bA 22 1023) HT_.out ?_; refine sZ 10 (some 57) (bA 22 2047) HT_.out ?_; refine sZ 11 (some 58) (bA 22 4095) HT_.out ?_; refine pZ 12 (some 59) (bA 22 8191) HT_.out ?_; refine pZ 13 (some 60) (bA 22 16383) HT_.out ?_; refine sZ 14 (some 61) (bA 22 32767) HT_.out ?_; refine sZ 15 (some 62) (bA 22 65535) HT_.out ?_; refine sZ 16 (some 63) (bA 22 131071) HT_.out ?_; refine sZ 17 (some 64) (bA 22 262143) HT_.out ?_; refine sZ 18 (some 65) (bA 22 524287) HT_.out ?_; refine pZ 19 (some 66) (bA 22 1048575) HT_.out ?_; refine pZ 20 (some 2) (bA 22 2097151) HT_.out ?_; refine pZ 21 (some 3) (bA 22 4194303) HT_.out ?_; refine done_ (done_of HT_.out (by kernel_rfl)) ?_
          try go_wp2
          go_ret2
          exact ⟨_, eZ, Rz (Kd.R_mono HO_6.out (fun _ hk => trivial)), Bq⟩
        ·replace c32 := Bool.eq_false_iff.mpr c32
         subst c32
         rw [if_neg (show ¬ (false = true) by decide)] at H
         simp only [Option.some.injEq, Prod.mk.injEq] at H
         obtain ⟨rfl, rfl⟩ := H; obtain ⟨Ao70, co70, eo70⟩ := Kd.R_slice HO_6.out; subst eo70
         go_wp2_with (first | ((with_reducible refine gate_callee (f := 32) rfl ?_); refine gL (some 43) Tryz.func32 #[.slice Ao70 x6_2.length co70] ?_; (with_reducible refine (spec_biKeys.calls k2 _ _ x6_2 false _ ?side1 ?side2 A31.out).mono ?_); (case side1 => exact Cz ((Kd.R_reads' HO_6.out).2.2)); (case side2 => exact (Kd.R_reads' HO_6.out).2.1); rintro e w' ⟨rfl, ⟨nd, rfl⟩⟩; refine ⟨_, rfl, ?_⟩))
         go_ret2
         exact ⟨_, eZ, nZ, Bq⟩
    ·replace c15 := Bool.eq_false_iff.mpr c15
     subst c15
     rw [if_neg (show ¬ (false = true) by decide)] at H
     simp only [Option.some.injEq, Prod.mk.injEq] at H
     obtain ⟨rfl, rfl⟩ := H; obtain ⟨hcz71_0, hcz71_1, hcz71_2, hcz71_3, hcz71_4, hfz71_0, hfz71_1, hfz71_2, hfz71_3, hfz71_4⟩ := cf5 (w := wc) BK230
     go_wp2_with (first | ((with_reducible refine gate_callee (f := 29) rfl ?_); refine gL (some 22) Tryz.func29 #[.agg #[.int .i64 a0_0, .slice A0_1 l0_1.length c0_1, .int .i64 a0_2, .slice A0_3 l0_3.length c0_3, .string a0_4]] ?_; (with_reducible refine (spec_trPaths.calls kj1 a0_0 _ _ l0_1 a0_2 _ _ l0_3 a0_4 t233 false _ ?side1 ?side2 ?side3 ?side4 A14.out).mono ?_); (case side1 => exact Cz (Kd.C_below HR0_1.out HB.out)); (case side2 => exact HC0_1.out); (case side3 => exact Cz (Kd.C_below HR0_3.out HB.out)); (case side4 => exact HC0_3.out); rintro e w72 ⟨v234, rfl, ho0, hb⟩; refine ⟨_, rfl, ?_⟩; have n0_ := Rm ho0 HB; have n1_ := Kb BK230 hb; have n2_ := Bc HB hb; clear BK230 HB; revert n0_ n1_ n2_; intro HO235 BK230 HB; (try clear hb); (try clear hb2); (try clear hk); (try clear hi); (try clear ho0)))
     go_ret2
     exact ⟨_, eZ, nZ, Bq⟩

def spec_trOk.f (k : Nat) (a0_0 : Int) (l0_1 : List Int) (a0_2 : Int) (l0_3 : List Int) (a0_4 : ByteArray) : Option (List ByteArray × Bool) := (spec_trKeys.f k a0_0 l0_1 a0_2 l0_3 a0_4).bind fun bt256 => (if bt256.2 = true then ((spec_trNodes.f k bt256.1).bind fun t260 => (some (t260, true))) else (some (([] : List ByteArray), false)))
theorem spec_trOk.mono : ∀ a0 a1 a2 a3 a4 k, LeO (spec_trOk.f k a0 a1 a2 a3 a4) (spec_trOk.f (k + 1) a0 a1 a2 a3 a4) := by
 intro a0 a1 a2 a3 a4 k
 unfold spec_trOk.f
 repeat' first | (with_reducible first | exact spec_trKeys.mono _ _ _ _ _ _ | exact spec_trNodes.mono _ _ | exact LeO.refl _ | exact LeO.none _ | refine LeO.ite ?_ ?_ | refine LeO.bind ?_ (fun _ => ?_)) | exact LeO.none _ | refine LeO.ite ?_ ?_ | refine LeO.bind ?_ (fun _ => ?_)
theorem spec_trOk.calls (k : Nat) (a0_0 : Int) (A0_1 : Option Addr) (c0_1 : Nat) (l0_1 : List Int) (a0_2 : Int) (A0_3 : Option Addr) (c0_3 : Nat) (l0_3 : List Int) (a0_4 : ByteArray) (r1 : List ByteArray) (r2 : Bool) (w : World) (hr0_1 : Kd.C (Kd.int .i64) w A0_1 l0_1.length l0_1) (hc0_1 : l0_1.length ≤ c0_1) (hr0_3 : Kd.C (Kd.int .i64) w A0_3 l0_3.length l0_3) (hc0_3 : l0_3.length ≤ c0_3) (h : spec_trOk.f k a0_0 l0_1 a0_2 l0_3 a0_4 = some (r1, r2)) :
  Calls Tryz.prog 10 #[.agg #[.int .i64 a0_0, .slice A0_1 l0_1.length c0_1, .int .i64 a0_2, .slice A0_3 l0_3.length c0_3, .string a0_4]] w fun e w' => ∃ v0_ : Value, e = .returned (.tuple #[v0_, .bool r2]) ∧ Kd.R Kd.string 9 w' w.heap.size (fun _ => True) v0_ r1 ∧ Below w.heap.size w w' := by
 have hu32 := Tryz.underlying32; have HR0_1 := am hr0_1; have HC0_1 := am hc0_1; clear hr0_1 hc0_1; have HR0_3 := am hr0_3; have HC0_3 := am hc0_3; clear hr0_3 hc0_3; have HB := am (Below.refl w.heap.size w); have H : ((spec_trKeys.f k a0_0 l0_1 a0_2 l0_3 a0_4).bind fun bt256 => (if bt256.2 = true then ((spec_trNodes.f k bt256.1).bind fun t260 => (some (t260, true))) else (some (([] : List ByteArray), false)))) = some (r1, r2) := h; clear h; replace H := Option.bind_eq_some_iff.mp H; obtain ⟨⟨t256, t259⟩, A20, H⟩ := H; (try dsimp -simprocs only at H); have A2 := am A20; clear A20
 by_cases c3 : t259 = true
 ·subst c3
  rw [if_pos rfl] at H; replace H := Option.bind_eq_some_iff.mp H; obtain ⟨t260, A40, H⟩ := H; (try dsimp -simprocs only at H); have A4 := am A40; clear A40
  simp only [Option.some.injEq, Prod.mk.injEq] at H
  obtain ⟨rfl, rfl⟩ := H
  go_enter Tryz.func10, Tryz.ntmps10
  go_wp2_with (first | ((with_reducible refine gate_dst (N := 1) rfl ?_); refine bE 1 #[.int .i64 a0_0, .slice A0_1 l0_1.length c0_1, .int .i64 a0_2, .slice A0_3 l0_3.length c0_3, .string a0_4] 32 ?_; intro gb255 hg w5 hbox hb; have n0_ := Bb HB hb; have n1_ := am (hbox); have n2_ := Gl HB hg; have n3_ := Gl HB hg; clear HB; revert n0_ n1_ n2_ n3_; intro HB BK255 GW255 GE255; clear hb hbox hg; obtain ⟨hcz6_0, hcz6_1, hcz6_2, hcz6_3, hcz6_4, hfz6_0, hfz6_1, hfz6_2, hfz6_3, hfz6_4⟩ := cf5 (w := w5) BK255) | ((with_reducible refine gate_callee (f := 17) rfl ?_); refine gL (some 8) Tryz.func17 #[.agg #[.int .i64 a0_0, .slice A0_1 l0_1.length c0_1, .int .i64 a0_2, .slice A0_3 l0_3.length c0_3, .string a0_4]] ?_; (with_reducible refine (spec_trKeys.calls k a0_0 _ _ l0_1 a0_2 _ _ l0_3 a0_4 t256 true _ ?side1 ?side2 ?side3 ?side4 A2.out).mono ?_); (case side1 => exact Cz (Kd.C_below HR0_1.out HB.out)); (case side2 => exact HC0_1.out); (case side3 => exact Cz (Kd.C_below HR0_3.out HB.out)); (case side4 => exact HC0_3.out); rintro e w7 ⟨v257, rfl, ho0, hb⟩; refine ⟨_, rfl, ?_⟩; have n0_ := Rm ho0 HB; have n1_ := Kb BK255 hb; have n2_ := Bc HB hb; clear BK255 HB; revert n0_ n1_ n2_; intro HO258 BK255 HB; (try clear hb); (try clear hb2); (try clear hk); (try clear hi); (try clear ho0); obtain ⟨Ao8, co8, eo8⟩ := Kd.R_slice HO258.out; subst eo8) | ((with_reducible refine gate_callee (f := 18) rfl ?_); refine gL (some 14) Tryz.func18 #[.slice Ao8 t256.length co8] ?_; (with_reducible refine (spec_trNodes.calls k _ _ t256 t260 _ ?side1 ?side2 A4.out).mono ?_); (case side1 => exact Cz ((Kd.R_reads' HO258.out).2.2)); (case side2 => exact (Kd.R_reads' HO258.out).2.1); rintro e w9 ⟨v261, rfl, ho0, hb⟩; refine ⟨_, rfl, ?_⟩; have n0_ := Re HO258 (Kd.R_base ho0) hb; have n1_ := Rm (Kd.R_new' ho0 (Kd.R_lt (Rz HO258.out))) HB; have n2_ := Kb BK255 hb; have n3_ := Bc HB hb; clear HO258 BK255 HB; revert n0_ n1_ n2_ n3_; intro HO258 HO262 BK255 HB; (try clear hb); (try clear hb2); (try clear hk); (try clear hi); (try clear ho0)))
  go_ret2
  exact ⟨_, eZ, Rz (Kd.R_mono HO262.out (fun _ hk => trivial)), Bq⟩
 ·replace c3 := Bool.eq_false_iff.mpr c3
  subst c3
  rw [if_neg (show ¬ (false = true) by decide)] at H
  simp only [Option.some.injEq, Prod.mk.injEq] at H
  obtain ⟨rfl, rfl⟩ := H
  go_enter Tryz.func10, Tryz.ntmps10
  go_wp2_with (first | ((with_reducible refine gate_dst (N := 1) rfl ?_); refine bE 1 #[.int .i64 a0_0, .slice A0_1 l0_1.length c0_1, .int .i64 a0_2, .slice A0_3 l0_3.length c0_3, .string a0_4] 32 ?_; intro gb255 hg w10 hbox hb; have n0_ := Bb HB hb; have n1_ := am (hbox); have n2_ := Gl HB hg; have n3_ := Gl HB hg; clear HB; revert n0_ n1_ n2_ n3_; intro HB BK255 GW255 GE255; clear hb hbox hg; obtain ⟨hcz11_0, hcz11_1, hcz11_2, hcz11_3, hcz11_4, hfz11_0, hfz11_1, hfz11_2, hfz11_3, hfz11_4⟩ := cf5 (w := w10) BK255) | ((with_reducible refine gate_callee (f := 17) rfl ?_); refine gL (some 8) Tryz.func17 #[.agg #[.int .i64 a0_0, .slice A0_1 l0_1.length c0_1, .int .i64 a0_2, .slice A0_3 l0_3.length c0_3, .string a0_4]] ?_; (with_reducible refine (spec_trKeys.calls k a0_0 _ _ l0_1 a0_2 _ _ l0_3 a0_4 t256 false _ ?side1 ?side2 ?side3 ?side4 A2.out).mono ?_); (case side1 => exact Cz (Kd.C_below HR0_1.out HB.out)); (case side2 => exact HC0_1.out); (case side3 => exact Cz (Kd.C_below HR0_3.out HB.out)); (case side4 => exact HC0_3.out); rintro e w12 ⟨v257, rfl, ho0, hb⟩; refine ⟨_, rfl, ?_⟩; have n0_ := Rm ho0 HB; have n1_ := Kb BK255 hb; have n2_ := Bc HB hb; clear BK255 HB; revert n0_ n1_ n2_; intro HO258 BK255 HB; (try clear hb); (try clear hb2); (try clear hk); (try clear hi); (try clear ho0)))
  go_ret2
  exact ⟨_, eZ, nZ, Bq⟩

def spec_trFind.l0 : Nat → ByteArray → List ByteArray → Int → Int → Option (Int)
 | 0, _, _, _, _ => none
 | k + 1, x1, x7, x8, x9 => if x9 < x8 then (if 0 ≤ x9 then (if x9 < (x7.length : Int) then (if (rdOf ByteArray.empty x7 x9).toList = x1.toList then (some x9) else (spec_trFind.l0 k x1 x7 x8 (wrap64 (x9 + 1)))) else (none)) else (none)) else (some (-1))
def spec_trFind.f (k : Nat) (l0 : List ByteArray) (a1 : ByteArray) : Option (Int) := spec_trFind.l0 k a1 l0 (l0.length : Int) 0
theorem spec_trFind.mono_l : ∀ k, (∀ y0 y1 y2 y3, LeO (spec_trFind.l0 k y0 y1 y2 y3) (spec_trFind.l0 (k + 1) y0 y1 y2 y3))
 | 0 => fun _ _ _ _ r h => by simp [spec_trFind.l0] at h
 | k + 1 => by
  have ih0 := spec_trFind.mono_l k
  ·intro y0 y1 y2 y3
   unfold spec_trFind.l0
   repeat' first | (with_reducible first | exact ih0 _ _ _ _ | exact LeO.refl _ | exact LeO.none _ | refine LeO.ite ?_ ?_ | refine LeO.bind ?_ (fun _ => ?_)) | exact LeO.none _ | refine LeO.ite ?_ ?_ | refine LeO.bind ?_ (fun _ => ?_)
theorem spec_trFind.mono : ∀ a0 a1 k, LeO (spec_trFind.f k a0 a1) (spec_trFind.f (k + 1) a0 a1) := by
 intro a0 a1 k; have ih0 := spec_trFind.mono_l k
 unfold spec_trFind.f
 repeat' first | (with_reducible first | exact ih0 _ _ _ _ | exact LeO.refl _ | exact LeO.none _ | refine LeO.ite ?_ ?_ | refine LeO.bind ?_ (fun _ => ?_)) | exact LeO.none _ | refine LeO.ite ?_ ?_ | refine LeO.bind ?_ (fun _ => ?_)
theorem spec_trFind.calls (k : Nat) (A0 : Option Addr) (c0 : Nat) (l0 : List ByteArray) (a1 : ByteArray) (r : Int) (w : World) (hr0 : Kd.C Kd.string w A0 l0.length l0) (hc0 : l0.length ≤ c0) (h : spec_trFind.f k l0 a1 = some r) :
  Calls Tryz.prog 11 #[.slice A0 l0.length c0, .string a1] w fun e w' => e = .returned (.int .i64 r) ∧ Drawn0 w w' := by
 have HR0 := am hr0; have HC0 := am hc0; clear hr0 hc0; have H : (spec_trFind.l0 k a1 l0 (l0.length : Int) 0) = some r := h; clear h; have H' := am H; clear H
 go_enter Tryz.func11, Tryz.ntmps11
 go_wp2
 go_loopg [9] k (fun kq v9 w' => ∃ (x9_1 : Int), v9 = .int .i64 x9_1 ∧ Aside0 (spec_trFind.l0 kq a1 l0 (l0.length : Int) x9_1 = some r) ∧ Aside0 (kq ≤ k) ∧ Drawn0 w w')
 case atStart => exact ⟨(0), wZ, H', ⟨Nat.le_refl _⟩, by repeat (first | exact Drawn0.refl _ | apply Drawn0.step)⟩
 case round =>
  clear H'
  try clear c1
  try clear p2
  obtain ⟨x9_1, rfl, HA, HK1, ⟨m1, rfl⟩⟩ := hrel; cases gk with
  | zero => exact absurd HA.out (by simp [spec_trFind.l0])
  | succ k1 =>
   have H := HA.out; clear HA
   simp only [spec_trFind.l0] at H
   by_cases c3 : x9_1 < (l0.length : Int)
   ·rw [if_pos c3] at H
    have c3b0 : decide (x9_1 < (l0.length : Int)) = true := decide_eq_true c3; clear c3
    by_cases c4 : 0 ≤ x9_1
    ·rw [if_pos c4] at H
     have c4b0 : decide (0 ≤ x9_1) = true := decide_eq_true c4; clear c4
     by_cases c5 : x9_1 < (l0.length : Int)
     ·rw [if_pos c5] at H
      have c5b0 : decide (x9_1 < (l0.length : Int)) = true := decide_eq_true c5; clear c5
      by_cases c6 : (rdOf ByteArray.empty l0 x9_1).toList = a1.toList
      ·rw [if_pos c6] at H
       have c6b0 : ((rdOf ByteArray.empty l0 x9_1).toList == a1.toList) = true := beq_iff_eq.mpr c6; have c6b1 : ((rdOf ByteArray.empty l0 x9_1).toList != a1.toList) = false := bne_eq_false_iff_eq.mpr c6; clear c6; obtain rfl := Option.some.inj H; obtain ⟨ad263, e263, hx263_0⟩ := Kd.at_string HR0.out x9_1 dT dT; cases e263; have p263 := eT (0 ≤ (x9_1 : Int)); have q263 := eT (x9_1 < (l0.length : Int))
       go_wp2
       go_ret
       exact ⟨by first | rfl | (simp; done) | (simp [*]; done), by repeat (first | exact Drawn0.refl _ | apply Drawn0.step)⟩
      ·rw [if_neg c6] at H
       have c6b0 : ((rdOf ByteArray.empty l0 x9_1).toList == a1.toList) = false := beq_eq_false_iff_ne.mpr c6; have c6b1 : ((rdOf ByteArray.empty l0 x9_1).toList != a1.toList) = true := bne_iff_ne.mpr c6; have H' := am H; clear H; obtain ⟨ad263, e263, hx263_0⟩ := Kd.at_string HR0.out x9_1 dT dT; cases e263; have p263 := eT (0 ≤ (x9_1 : Int)); have q263 := eT (x9_1 < (l0.length : Int))
       go_wp2
       go_roundg k1
       case measure => have := HK1.out; omega
       case rel => exact ⟨(wrap64 (x9_1 + 1)), wZ, H', ⟨by have := HK1.out; omega⟩, by repeat (first | exact Drawn0.refl _ | apply Drawn0.step)⟩
     ·rw [if_neg c5] at H
      exact absurd H (by simp)
    ·rw [if_neg c4] at H
     exact absurd H (by simp)
   ·rw [if_neg c3] at H
    have c3b0 : decide (x9_1 < (l0.length : Int)) = false := decide_eq_false c3; clear c3; obtain rfl := Option.some.inj H
    go_wp2
    go_ret
    exact ⟨by first | rfl | (simp; done) | (simp [*]; done), by repeat (first | exact Drawn0.refl _ | apply Drawn0.step)⟩

end Go.Proofs.YtalfkfddpamnjaaGreat.PA
