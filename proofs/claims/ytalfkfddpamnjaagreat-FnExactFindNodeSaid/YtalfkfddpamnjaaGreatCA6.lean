import Derived.Test.YtalfkfddpamnjaaGreatCA2
import Derived.Test.YtalfkfddpamnjaaGreatCA5
-- printed by a program of this session (wip/gp) out of the translation; Lean checks it
namespace Go.Proofs.YtalfkfddpamnjaaGreat.PA
open Go.RowKit Go.Proofs.YtalfkfddpamnjaaGreatW.PrintWords Go.Proofs.YtalfkfddpamnjaaGreatW.PrintLast Go.Proofs.YtalfkfddpamnjaaGreatW.PrintMore Go.Proofs.YtalfkfddpamnjaaGreatSq
attribute [local go_sem] max2_int min2_int max_two min_two max_three min_three max_four min_four   -- for this text's walks alone
attribute [local go_sem] Go.Proofs.YtalfkfddpamnjaaGreatGp.str_geq Go.Proofs.YtalfkfddpamnjaaGreatGp.str_gtr Go.Proofs.YtalfkfddpamnjaaGreatGp.str_leq
set_option linter.unusedVariables false
set_option linter.unusedSimpArgs false

set_option maxHeartbeats 8000000
set_option maxRecDepth 100000
def impl_Bits_set.f (a0_0 : Int) (l0_1 : List Int) (a1 : Int) (a2 : Bool) : Option (List Int) := if 0 ≤ (wrap64 (Int.tdiv a1 16)) then (if (wrap64 (Int.tdiv a1 16)) < (l0_1.length : Int) then (if 0 ≤ (Int.tmod a1 16) then ((some (l0_1.set ((wrap64 (Int.tdiv a1 16)) : Int).toNat (Go.bits .andNot .i64 (rd l0_1 (wrap64 (Int.tdiv a1 16))) (shl .i64 1 (Int.tmod a1 16))) : List Int)).bind fun y352 => (if a2 = true then (some (y352.set ((wrap64 (Int.tdiv a1 16)) : Int).toNat (Go.bits .or .i64 (rd y352 (wrap64 (Int.tdiv a1 16))) (shl .i64 1 (Int.tmod a1 16))))) else (some y352))) else (none)) else (none)) else (none)
def impl_Bits_set.T0 : Bool × List (List Nat × List Nat) := (true, [([], []), ([0], [0]), ([1], [1]), ([2], [2]), ([], []), ([4], [4]), ([3, 5], [3, 5]), ([6], [6]), ([], []), ([8], [8]), ([9], [9]), ([7, 10], [7, 10]), ([3, 5, 0, 1, 2, 3, 4, 5, 6, 7, 8, 9, 10, 11], [3, 5]), ([12, 11, 0, 1, 2, 3, 4, 5, 6, 7, 8, 9, 10, 11], [11, 12])])
def impl_Bits_set.B0 : List Nat := [0, 1, 3, 7, 0, 16, 63, 127, 0, 256, 768, 2047, 4095, 8191]
theorem impl_Bits_set.tab0 : rtab .any (opsOf Tryz.f65 0) = impl_Bits_set.T0 := by kernel_rfl
theorem impl_Bits_set.bits0 : waitsOk impl_Bits_set.T0.2 impl_Bits_set.B0 = true := by kernel_rfl
def impl_Bits_set.T2 : Bool × List (List Nat × List Nat) := (true, [([], []), ([0], [0]), ([1], [1]), ([2], [2]), ([], []), ([4], [4]), ([3, 5], [3, 5]), ([6], [6]), ([], []), ([8], [8]), ([9], [9]), ([7, 10], [7, 10]), ([3, 5, 0, 1, 2, 3, 4, 5, 6, 7, 8, 9, 10, 11], [3, 5]), ([12, 11, 0, 1, 2, 3, 4, 5, 6, 7, 8, 9, 10, 11], [11, 12])])
def impl_Bits_set.B2 : List Nat := [0, 1, 3, 7, 0, 16, 63, 127, 0, 256, 768, 2047, 4095, 8191]
theorem impl_Bits_set.tab2 : rtab .any (opsOf Tryz.f65 2) = impl_Bits_set.T2 := by kernel_rfl
theorem impl_Bits_set.bits2 : waitsOk impl_Bits_set.T2.2 impl_Bits_set.B2 = true := by kernel_rfl
theorem impl_Bits_set.calls (g0 : Nat) (a0_0 : Int) (P0_1_ : Nat → Prop) (u9000_ : Value) (l0_1 : List Int) (a1 : Int) (a2 : Bool) (r : List Int) (w0 w : World) (hB : Below w0.heap.size w0 w) (hb0 : w.heap[g0]? = some (.cells #[.int .i64 a0_0, u9000_] 30 (0, 0))) (ho0_1 : Kd.R (Kd.int .i64) 3 w w0.heap.size P0_1_ u9000_ l0_1) (h : impl_Bits_set.f a0_0 l0_1 a1 a2 = some r) :
  Calls Tryz.prog 65 #[.pointer (some ⟨g0, 0, none⟩), .int .i64 a1, .bool a2] w fun e w' => e = .returned (.tuple #[]) ∧ Kd.R (Kd.int .i64) 3 w' w0.heap.size (fun k_ => (P0_1_ k_ ∨ w.heap.size ≤ k_)) u9000_ r ∧ Below w0.heap.size w0 w' ∧ Kept w w' (fun k_ => P0_1_ k_) := by
 have HO0_1 := am (show Kd.R (Kd.int .i64) 3 w w0.heap.size (fun k_ => (P0_1_ k_ ∨ w.heap.size ≤ k_)) u9000_ l0_1 from Kd.R_mono ho0_1 (fun k_ hk => (.inl hk))); have HK := am (Kept.refl w (fun k_ => P0_1_ k_)); have BK0 := am hb0; clear hb0; have HW0 := am hB.size; have HB := am hB; clear hB; have H : (if 0 ≤ (wrap64 (Int.tdiv a1 16)) then (if (wrap64 (Int.tdiv a1 16)) < (l0_1.length : Int) then (if 0 ≤ (Int.tmod a1 16) then ((some (l0_1.set ((wrap64 (Int.tdiv a1 16)) : Int).toNat (Go.bits .andNot .i64 (rd l0_1 (wrap64 (Int.tdiv a1 16))) (shl .i64 1 (Int.tmod a1 16))) : List Int)).bind fun y352 => (if a2 = true then (some (y352.set ((wrap64 (Int.tdiv a1 16)) : Int).toNat (Go.bits .or .i64 (rd y352 (wrap64 (Int.tdiv a1 16))) (shl .i64 1 (Int.tmod a1 16))))) else (some y352))) else (none)) else (none)) else (none)) = some r := h; clear h; obtain ⟨ji4, hji4⟩ : ∃ j_ : Int, (wrap64 (Int.tdiv a1 16)) = j_ := ⟨_, rfl⟩
 replace H : (if 0 ≤ (ji4) then (if (ji4) < (l0_1.length : Int) then (if 0 ≤ (Int.tmod a1 16) then ((some (l0_1.set ((ji4) : Int).toNat (Go.bits .andNot .i64 (rd l0_1 (ji4)) (shl .i64 1 (Int.tmod a1 16))) : List Int)).bind fun y352 => (if a2 = true then (some (y352.set ((ji4) : Int).toNat (Go.bits .or .i64 (rd y352 (ji4)) (shl .i64 1 (Int.tmod a1 16))))) else (some y352))) else (none)) else (none)) else (none)) = some r := by first | (rw [hji4] at H; exact H) | (simp only [hji4] at H ⊢; exact H)
 have hji4w : (IntKind.i64.wrap (Int.tdiv a1 16)) = ji4 := (i64_w _).trans hji4
 by_cases c5 : 0 ≤ (ji4)
 ·rw [if_pos c5] at H
  have c5b0 : decide (0 ≤ (ji4)) = true := decide_eq_true c5; clear c5
  by_cases c6 : (ji4) < (l0_1.length : Int)
  ·rw [if_pos c6] at H
   have c6b0 : decide ((ji4) < (l0_1.length : Int)) = true := decide_eq_true c6; clear c6; obtain ⟨ji7, hji7⟩ : ∃ j_ : Int, (Int.tmod a1 16) = j_ := ⟨_, rfl⟩
   replace H : (if 0 ≤ (ji7) then ((some (l0_1.set ((ji4) : Int).toNat (Go.bits .andNot .i64 (rd l0_1 (ji4)) (shl .i64 1 (ji7))) : List Int)).bind fun y352 => (if a2 = true then (some (y352.set ((ji4) : Int).toNat (Go.bits .or .i64 (rd y352 (ji4)) (shl .i64 1 (ji7))))) else (some y352))) else (none)) = some r := by first | (rw [hji7] at H; exact H) | (simp only [hji7] at H ⊢; exact H)
   by_cases c8 : 0 ≤ (ji7)
   ·rw [if_pos c8] at H
    have c8b0 := eq_true c8; have c8b1 : decide (0 ≤ (ji7)) = true := decide_eq_true c8; clear c8; obtain ⟨ji9, hji9⟩ : ∃ j_ : Int, (shl .i64 1 (ji7)) = j_ := ⟨_, rfl⟩
    replace H : ((some (l0_1.set ((ji4) : Int).toNat (Go.bits .andNot .i64 (rd l0_1 (ji4)) (ji9)) : List Int)).bind fun y352 => (if a2 = true then (some (y352.set ((ji4) : Int).toNat (Go.bits .or .i64 (rd y352 (ji4)) (ji9)))) else (some y352))) = some r := by first | (rw [hji9] at H; exact H) | (simp only [hji9] at H ⊢; exact H)
    have hji9_ : (IntKind.i64.wrap (1 * 2 ^ min (ji7).toNat 64)) = ji9 := hji9; have hji9z : (ji7) ≤ 64 → (IntKind.i64.wrap (1 * 2 ^ (ji7).toNat)) = ji9 := shl_small hji9
    have hji9u : (IntKind.i64.wrap (2 ^ min (ji7).toNat 64)) = ji9 := by have h_ := hji9_; rw [Int.one_mul] at h_; exact h_
    have hji9v : (ji7) ≤ 64 → (IntKind.i64.wrap (2 ^ (ji7).toNat)) = ji9 := fun hle_ => by have h_ := hji9z hle_; rw [Int.one_mul] at h_; exact h_
    have hji9y : (wrap64 (1 * 2 ^ min (ji7).toNat 64)) = ji9 := (i64_w _).symm.trans hji9_
    have hji9x : (ji7) ≤ 64 → (wrap64 (1 * 2 ^ (ji7).toNat)) = ji9 := fun h_ => (i64_w _).symm.trans (hji9z h_)
    obtain ⟨y352, hy352⟩ : ∃ y_ : List Int, y_ = (l0_1.set ((ji4) : Int).toNat (Go.bits .andNot .i64 (rd l0_1 (ji4)) (ji9))) := ⟨_, rfl⟩
    replace H : (if a2 = true then (some (y352.set ((ji4) : Int).toNat (Go.bits .or .i64 (rd y352 (ji4)) (ji9)))) else (some y352)) = some r := by first | (rw [hy352]; with_reducible exact H) | (have H2_ := (Option.bind_some _ _).symm.trans H; rw [hy352]; with_reducible exact H2_) | (have H2_ := (Option.bind_some _ _).symm.trans H; with_reducible exact H2_) | with_reducible exact H | (rw [hy352]; exact H) | exact H
    have Ny352 := am hy352; clear hy352
    by_cases c11 : a2 = true
    ·subst c11
     rw [if_pos rfl] at H; have c12b0 := eq_true (dT : 0 ≤ (ji7)); obtain ⟨y354, hy354⟩ : ∃ y_ : List Int, y_ = (y352.set ((ji4) : Int).toNat (Go.bits .or .i64 (rd y352 (ji4)) (ji9))) := ⟨_, rfl⟩
     replace H : (some y354) = some r := by first | (rw [hy354]; with_reducible exact H) | (have H2_ := (Option.bind_some _ _).symm.trans H; rw [hy354]; with_reducible exact H2_) | (have H2_ := (Option.bind_some _ _).symm.trans H; with_reducible exact H2_) | with_reducible exact H | (rw [hy354]; exact H) | exact H
     have Ny354 := am hy354; clear hy354; obtain rfl := Option.some.inj H
     go_enter Tryz.func65, Tryz.ntmps65
     try go_wp2
     obtain ⟨Ao14, co14, eo14⟩ := Kd.R_slice HO0_1.out; subst eo14; have n0_ := am (Kd.R_drew HO0_1.out); have n1_ := am (blk_drew BK0.out); have n2_ := am (Kept.drew HK.out); have n3_ := am (below_drew1 HB.out); clear HO0_1 BK0 HK HB; revert n0_ n1_ n2_ n3_; intro HO0_1 BK0 HK HB; obtain ⟨ad351, e351, hx351_0⟩ := Kd.at_int (Kd.R_reads' HO0_1.out).2.2 (ji4) dT dT; cases e351; have p351 := eT (0 ≤ ((ji4) : Int)); have q351 := eT ((ji4) < (l0_1.length : Int)); have p10 : 0 ≤ ((ji4) : Int) := dT; have q10 : ((ji4) : Int) < ((l0_1.length : Int) : Int) := dT; obtain ⟨go10, co10, eo10, gb10, gl10, cl10, HG10⟩ := Kd.R_form HO0_1.out (by omega)
     (first | cases eo10 | (injection eo10 with ea_ en_ ec_; (first | subst ea_ | (injection ea_ with ea_; subst ea_)); subst ec_; clear en_))
     have GB10 := am gb10; have GG10 := am HG10; clear gb10 gl10 HG10; have HMgo10 := am (show (P0_1_ go10 ∨ w.heap.size ≤ go10) from (HO0_1.out.1 _ rfl))
     (first | simp only [add_plain] at hx351_0 | skip)
     obtain ⟨hx10_0, hf10_0⟩ := Kd.R_celln 0 HO0_1.out ((ji4) : Int) p10 q10; replace p10 := eq_true p10; replace q10 := eq_true q10; have HP16 := Kd.R_putn HO0_1.out ((ji4) : Int) (Go.bits .andNot .i64 (rd l0_1 (ji4)) (ji9)); rw [← Ny352.out] at HP16; have HQ16 := am HP16; clear HP16; refine start_ (n := 14) (S := fun w' => w'.cell? ⟨g0, 0, none⟩ = some (.int .i64 a0_0) ∧ w'.cell? ⟨g0, 1, none⟩ = some (.slice (some ⟨go10, 0, none⟩) l0_1.length co14) ∧ w'.cell? ⟨go10, ((ji4)).toNat, none⟩ = some (.int .i64 (rd l0_1 (ji4)))) (ds := [13]) (bA 14 0) (by kernel_rfl) rfl rfl ⟨cz BK0 0, cz BK0 1, hx351_0⟩ (fun hHeld => ?_); refine with_tabW impl_Bits_set.tab0 impl_Bits_set.bits0 (fun HT_ HW_ => ?_); generalize w.drew = w15 at HO0_1 BK0 HK HB GG10 HQ16 hf10_0 hx10_0 hx351_0 hHeld ⊢; refine pZ 0 (some 6) (bA 14 1) HT_.out ?_; refine pZ 1 (some 7) (bA 14 3) HT_.out ?_; refine pZ 2 (some 8) (bA 14 7) HT_.out ?_; refine pZ 4 (some 10) (bA 14 23) HT_.out ?_; refine pZ 5 (some 11) (bA 14 55) HT_.out ?_; refine pZ 8 (some 14) (bA 14 311) HT_.out ?_; refine pZ 9 (some 15) (bA 14 823) HT_.out ?_; refine pZ 10 (some 16) (bA 14 1847) HT_.out ?_; refine tZ3 3 (some 9) (bA 14 1855) HT_.out HW_.out hHeld ?_; refine pZ 6 (some 12) (bA 14 1919) HT_.out ?_; refine tZ3 7 (some 13) (bA 14 2047) HT_.out HW_.out hHeld ?_; refine pZ 11 (some 17) (bA 14 4095) HT_.out ?_; refine pZ 12 (some 18) (bA 14 8191) HT_.out ?_; refine lZ 13 none (bA 14 16383) HT_.out (fun K hK => ?_); refine skip_ (w1 := ?_) (by rfl) rfl ?_ ?_
     rotate_left
     ·go_simp
      rfl
     refine hK.out _ _ ?_; clear hK K; refine done_ (done_of HT_.out (by kernel_rfl)) ?_
     try go_wp2
     have n0_ : Aside0 (Kd.R (Kd.int .i64) 3 (w15.setCell ⟨go10, ((ji4) : Int).toNat, none⟩ (.int .i64 (Go.bits .andNot .i64 (rd l0_1 (ji4)) (ji9)))) w0.heap.size (fun k_ => (P0_1_ k_ ∨ w.heap.size ≤ k_)) (.slice (some ⟨go10, 0, none⟩) l0_1.length co14) y352) := ⟨by first | exact HQ16.out | exact Rz HQ16.out⟩; have n1_ : Aside0 ((w15.setCell ⟨go10, ((ji4) : Int).toNat, none⟩ (.int .i64 (Go.bits .andNot .i64 (rd l0_1 (ji4)) (ji9)))).heap[g0]? = some (.cells #[.int .i64 a0_0, .slice (some ⟨go10, 0, none⟩) l0_1.length co14] 30 (0, 0))) := ⟨by (with_reducible repeat (first | refine blk_drewN ?_ _ | refine blk_drew ?_ | refine blk_alloc ?_ _)); refine blk_far ?_ (by have h_ := Kd.R_ne HO0_1.out BK0.out (by decide); intro e_; exact h_ (by rw [e_]; rfl)) _; (with_reducible repeat (first | refine blk_drewN ?_ _ | refine blk_drew ?_ | refine blk_alloc ?_ _)); exact BK0.out⟩; have n2_ : Aside0 (Kept w (w15.setCell ⟨go10, ((ji4) : Int).toNat, none⟩ (.int .i64 (Go.bits .andNot .i64 (rd l0_1 (ji4)) (ji9)))) (fun k_ => P0_1_ k_)) := ⟨by repeat (first | (with_reducible first | exact HK.out | apply Kept.alloc | apply Kept.drewN | apply Kept.drew | refine Kept.setCell ?_ HMgo10.out _ | refine Kept.setCell ?_ (.inr GW0.out) _) | exact HK.out)⟩; have n3_ : Aside0 (Below w0.heap.size w0 (w15.setCell ⟨go10, ((ji4) : Int).toNat, none⟩ (.int .i64 (Go.bits .andNot .i64 (rd l0_1 (ji4)) (ji9))))) := ⟨Bq⟩
     (try clear HO0_1)
     (try clear BK0)
     (try clear HK)
     (try clear HB)
     generalize (w15.setCell ⟨go10, ((ji4) : Int).toNat, none⟩ (.int .i64 (Go.bits .andNot .i64 (rd l0_1 (ji4)) (ji9)))) = w17 at n0_ n1_ n2_ n3_ ⊢; revert n0_ n1_ n2_ n3_; intro HO0_1 BK0 HK HB; have n0_ := am (Kd.R_drew HO0_1.out); have n1_ := am (blk_drew BK0.out); have n2_ := am (Kept.drew HK.out); have n3_ := am (below_drew1 HB.out); clear HO0_1 BK0 HK HB; revert n0_ n1_ n2_ n3_; intro HO0_1 BK0 HK HB; have p353 : 0 ≤ ((ji4) : Int) := dT; have q353 : (ji4) < (y352.length : Int) := (by have h_ : ((ji4) : Int) < ((l0_1.length : Int) : Int) := dT; first | (have e_ := (Kd.R_reads' HO0_1.out).1; omega) | simpa only [Ny352.out, List.length_set] using h_); have ql353 : (((ji4) : Int) < ((l0_1.length : Int) : Int)) = True := eq_true (dT); obtain ⟨ad353, e353, hx353_0⟩ := Kd.at_int (Kd.R_reads' HO0_1.out).2.2 (ji4) p353 q353; obtain rfl : (⟨go10, 0, none⟩ : Addr) = ad353 := (by injection e353)
     (first | simp only [add_plain] at hx353_0 | simp only [add_at] at hx353_0 | simp only [Addr.add, Nat.zero_add] at hx353_0 | skip)
     replace p353 := eq_true p353; replace q353 := eq_true q353; have p13 : 0 ≤ ((ji4) : Int) := dT; have q13 : ((ji4) : Int) < ((l0_1.length : Int) : Int) := dT; obtain ⟨hx13_0, hf13_0⟩ := Kd.R_celln 0 HO0_1.out ((ji4) : Int) p13 q13; replace p13 := eq_true p13; replace q13 := eq_true q13; have HP19 := Kd.R_putn HO0_1.out ((ji4) : Int) (Go.bits .or .i64 (rd y352 (ji4)) (ji9)); rw [← Ny354.out] at HP19; have HQ19 := am HP19; clear HP19; refine start_ (n := 14) (S := fun w' => w'.cell? ⟨g0, 0, none⟩ = some (.int .i64 a0_0) ∧ w'.cell? ⟨g0, 1, none⟩ = some (.slice (some ⟨go10, 0, none⟩) l0_1.length co14) ∧ w'.cell? ⟨go10, ((ji4)).toNat, none⟩ = some (.int .i64 (rd y352 (ji4)))) (ds := [13]) (bA 14 0) (by kernel_rfl) rfl rfl ⟨cz BK0 0, cz BK0 1, hx353_0⟩ (fun hHeld => ?_); refine with_tabW impl_Bits_set.tab2 impl_Bits_set.bits2 (fun HT_ HW_ => ?_); generalize w17.drew = w18 at HO0_1 BK0 HK HB HQ16 HQ19 hf13_0 hx13_0 hx353_0 hHeld ⊢; refine pZ 0 (some 20) (bA 14 1) HT_.out ?_; refine pZ 1 (some 21) (bA 14 3) HT_.out ?_; refine pZ 2 (some 22) (bA 14 7) HT_.out ?_; refine pZ 4 (some 24) (bA 14 23) HT_.out ?_; refine pZ 5 (some 25) (bA 14 55) HT_.out ?_; refine pZ 8 (some 28) (bA 14 311) HT_.out ?_; refine pZ 9 (some 29) (bA 14 823) HT_.out ?_; refine pZ 10 (some 30) (bA 14 1847) HT_.out ?_; refine tZ3 3 (some 23) (bA 14 1855) HT_.out HW_.out hHeld ?_; refine pZ 6 (some 26) (bA 14 1919) HT_.out ?_; refine tZ3 7 (some 27) (bA 14 2047) HT_.out HW_.out hHeld ?_; refine pZ 11 (some 31) (bA 14 4095) HT_.out ?_; refine pZ 12 (some 32) (bA 14 8191) HT_.out ?_; refine lZ 13 none (bA 14 16383) HT_.out (fun K hK => ?_); refine skip_ (w1 := ?_) (by rfl) rfl ?_ ?_
     rotate_left
     ·go_simp
      rfl
     refine hK.out _ _ ?_; clear hK K; refine done_ (done_of HT_.out (by kernel_rfl)) ?_
     try go_wp2
     first | go_end0 | ((try simp only [Exit.inBlock, Exit.then]); refine bodyPost_ret (results_none rfl _ _ _) rfl ?_)
     exact ⟨by first | rfl | (simp [errW_none, errW_some] <;> rfl) | (simp only [← hji4, ← hji7, ← hji9]; first | rfl | (simp [errW_none, errW_some] <;> rfl)) | (simp [*, errW_none, errW_some] <;> rfl), Rz HQ19.out, Bq, by repeat (first | (with_reducible first | exact HK.out | apply Kept.alloc | apply Kept.drewN | apply Kept.drew | refine Kept.setCell ?_ HMgo10.out _ | refine Kept.setCell ?_ (.inr GW0.out) _) | exact HK.out)⟩
    ·replace c11 := Bool.eq_false_iff.mpr c11
     subst c11
     rw [if_neg (show ¬ (false = true) by decide)] at H; obtain rfl := Option.some.inj H
     go_enter Tryz.func65, Tryz.ntmps65
     try go_wp2
     obtain ⟨Ao20, co20, eo20⟩ := Kd.R_slice HO0_1.out; subst eo20; have n0_ := am (Kd.R_drew HO0_1.out); have n1_ := am (blk_drew BK0.out); have n2_ := am (Kept.drew HK.out); have n3_ := am (below_drew1 HB.out); clear HO0_1 BK0 HK HB; revert n0_ n1_ n2_ n3_; intro HO0_1 BK0 HK HB; obtain ⟨ad351, e351, hx351_0⟩ := Kd.at_int (Kd.R_reads' HO0_1.out).2.2 (ji4) dT dT; cases e351; have p351 := eT (0 ≤ ((ji4) : Int)); have q351 := eT ((ji4) < (l0_1.length : Int)); have p10 : 0 ≤ ((ji4) : Int) := dT; have q10 : ((ji4) : Int) < ((l0_1.length : Int) : Int) := dT; obtain ⟨go10, co10, eo10, gb10, gl10, cl10, HG10⟩ := Kd.R_form HO0_1.out (by omega)
     (first | cases eo10 | (injection eo10 with ea_ en_ ec_; (first | subst ea_ | (injection ea_ with ea_; subst ea_)); subst ec_; clear en_))
     have GB10 := am gb10; have GG10 := am HG10; clear gb10 gl10 HG10; have HMgo10 := am (show (P0_1_ go10 ∨ w.heap.size ≤ go10) from (HO0_1.out.1 _ rfl))
     (first | simp only [add_plain] at hx351_0 | skip)
     obtain ⟨hx10_0, hf10_0⟩ := Kd.R_celln 0 HO0_1.out ((ji4) : Int) p10 q10; replace p10 := eq_true p10; replace q10 := eq_true q10; have HP22 := Kd.R_putn HO0_1.out ((ji4) : Int) (Go.bits .andNot .i64 (rd l0_1 (ji4)) (ji9)); rw [← Ny352.out] at HP22; have HQ22 := am HP22; clear HP22; refine start_ (n := 14) (S := fun w' => w'.cell? ⟨g0, 0, none⟩ = some (.int .i64 a0_0) ∧ w'.cell? ⟨g0, 1, none⟩ = some (.slice (some ⟨go10, 0, none⟩) l0_1.length co20) ∧ w'.cell? ⟨go10, ((ji4)).toNat, none⟩ = some (.int .i64 (rd l0_1 (ji4)))) (ds := [13]) (bA 14 0) (by kernel_rfl) rfl rfl ⟨cz BK0 0, cz BK0 1, hx351_0⟩ (fun hHeld => ?_); refine with_tabW impl_Bits_set.tab0 impl_Bits_set.bits0 (fun HT_ HW_ => ?_); generalize w.drew = w21 at HO0_1 BK0 HK HB GG10 HQ22 hf10_0 hx10_0 hx351_0 hHeld ⊢; refine pZ 0 (some 6) (bA 14 1) HT_.out ?_; refine pZ 1 (some 7) (bA 14 3) HT_.out ?_; refine pZ 2 (some 8) (bA 14 7) HT_.out ?_; refine pZ 4 (some 10) (bA 14 23) HT_.out ?_; refine pZ 5 (some 11) (bA 14 55) HT_.out ?_; refine pZ 8 (some 14) (bA 14 311) HT_.out ?_; refine pZ 9 (some 15) (bA 14 823) HT_.out ?_; refine pZ 10 (some 16) (bA 14 1847) HT_.out ?_; refine tZ3 3 (some 9) (bA 14 1855) HT_.out HW_.out hHeld ?_; refine pZ 6 (some 12) (bA 14 1919) HT_.out ?_; refine tZ3 7 (some 13) (bA 14 2047) HT_.out HW_.out hHeld ?_; refine pZ 11 (some 17) (bA 14 4095) HT_.out ?_; refine pZ 12 (some 18) (bA 14 8191) HT_.out ?_; refine lZ 13 none (bA 14 16383) HT_.out (fun K hK => ?_); refine skip_ (w1 := ?_) (by rfl) rfl ?_ ?_
     rotate_left
     ·go_simp
      rfl
     refine hK.out _ _ ?_; clear hK K; refine done_ (done_of HT_.out (by kernel_rfl)) ?_
     try go_wp2
     first | go_end0 | ((try simp only [Exit.inBlock, Exit.then]); refine bodyPost_ret (results_none rfl _ _ _) rfl ?_)
     exact ⟨by first | rfl | (simp [errW_none, errW_some] <;> rfl) | (simp only [← hji4, ← hji7, ← hji9]; first | rfl | (simp [errW_none, errW_some] <;> rfl)) | (simp [*, errW_none, errW_some] <;> rfl), Rz HQ22.out, Bq, by repeat (first | (with_reducible first | exact HK.out | apply Kept.alloc | apply Kept.drewN | apply Kept.drew | refine Kept.setCell ?_ HMgo10.out _ | refine Kept.setCell ?_ (.inr GW0.out) _) | exact HK.out)⟩
   ·rw [if_neg c8] at H
    exact absurd H (by simp)
  ·rw [if_neg c6] at H
   exact absurd H (by simp)
 ·rw [if_neg c5] at H
  exact absurd H (by simp)

-- NOT PRINTED: function 42 (impl_madeBits)

-- NOT PRINTED: function 43 (impl_trie_1)

def slices_Contains_string_string.f (k : Nat) (l0 : List ByteArray) (a1 : ByteArray) : Option (Bool) := (slices_Index_string_string.f k l0 a1).bind fun t355 => (some (decide (t355 ≥ 0)))
theorem slices_Contains_string_string.mono : ∀ a0 a1 k, LeO (slices_Contains_string_string.f k a0 a1) (slices_Contains_string_string.f (k + 1) a0 a1) := by
 intro a0 a1 k
 unfold slices_Contains_string_string.f
 repeat' first | (with_reducible first | exact slices_Index_string_string.mono _ _ _ | exact LeO.refl _ | exact LeO.none _ | refine LeO.ite ?_ ?_ | refine LeO.bind ?_ (fun _ => ?_)) | exact LeO.none _ | refine LeO.ite ?_ ?_ | refine LeO.bind ?_ (fun _ => ?_)
theorem slices_Contains_string_string.calls (k : Nat) (A0 : Option Addr) (c0 : Nat) (l0 : List ByteArray) (a1 : ByteArray) (r : Bool) (w : World) (hr0 : Kd.C Kd.string w A0 l0.length l0) (hc0 : l0.length ≤ c0) (h : slices_Contains_string_string.f k l0 a1 = some r) :
  Calls Tryz.prog 45 #[.slice A0 l0.length c0, .string a1] w fun e w' => e = .returned (.bool r) ∧ Drawn0 w w' := by
 have HR0 := am hr0; have HC0 := am hc0; clear hr0 hc0; have H : ((slices_Index_string_string.f k l0 a1).bind fun t355 => (some (decide (t355 ≥ 0)))) = some r := h; clear h; replace H := Option.bind_eq_some_iff.mp H; obtain ⟨t355, A30, H⟩ := H; (try dsimp -simprocs only at H); have A3 := am A30; clear A30; obtain rfl := Option.some.inj H
 go_enter Tryz.func45, Tryz.ntmps45
 go_wp2_with (first | ((with_reducible refine gate_callee (f := 20) rfl ?_); refine gL (some 7) Tryz.func20 #[.slice A0 l0.length c0, .string a1] ?_; (with_reducible refine (slices_Index_string_string.calls k _ _ l0 a1 t355 _ ?side1 ?side2 A3.out).mono ?_); (case side1 => exact Cz HR0.out); (case side2 => exact HC0.out); rintro e w' ⟨rfl, ⟨nd, rfl⟩⟩; refine ⟨_, rfl, ?_⟩))
 go_ret
 exact ⟨by first | rfl | (simp; done) | (simp [*]; done), by repeat (first | exact Drawn0.refl _ | apply Drawn0.step)⟩

-- NOT PRINTED: function 44 (impl_trie_2)

def impl_trie_1.f (a0 : Int) (l1_0 : List Bool) : Option (Bool) := if 0 ≤ a0 then (if a0 < (l1_0.length : Int) then (some (rdOf false l1_0 a0)) else (none)) else (none)
theorem impl_trie_1.calls (a0 : Int) (g1 : Nat) (A1_0 : Option Addr) (c1_0 : Nat) (l1_0 : List Bool) (r : Bool) (w : World) (hb1 : w.heap[g1]? = some (.cells #[.slice A1_0 l1_0.length c1_0] 61 (0, 0))) (hr1_0 : Kd.C Kd.bool w A1_0 l1_0.length l1_0) (hc1_0 : l1_0.length ≤ c1_0) (h : impl_trie_1.f a0 l1_0 = some r) :
  Calls Tryz.prog 43 #[.int .i64 a0, .pointer (some ⟨g1, 0, none⟩)] w fun e w' => e = .returned (.bool r) ∧ Drawn0 w w' := by
 have HR1_0 := am hr1_0; have HC1_0 := am hc1_0; clear hr1_0 hc1_0; have BK1 := am hb1; clear hb1; have H : (if 0 ≤ a0 then (if a0 < (l1_0.length : Int) then (some (rdOf false l1_0 a0)) else (none)) else (none)) = some r := h; clear h
 by_cases c3 : 0 ≤ a0
 ·rw [if_pos c3] at H
  have c3b0 : decide (0 ≤ a0) = true := decide_eq_true c3; clear c3
  by_cases c4 : a0 < (l1_0.length : Int)
  ·rw [if_pos c4] at H
   have c4b0 : decide (a0 < (l1_0.length : Int)) = true := decide_eq_true c4; clear c4; obtain rfl := Option.some.inj H; obtain ⟨hcz5_0, hfz5_0⟩ := cf1 (w := w) BK1; obtain ⟨ad392, e392, hx392_0⟩ := Kd.at_bool HR1_0.out a0 dT dT; cases e392; have p392 := eT (0 ≤ (a0 : Int)); have q392 := eT (a0 < (l1_0.length : Int))
   go_enter Tryz.func43, Tryz.ntmps43
   go_wp2
   go_ret
   exact ⟨by first | rfl | (simp; done) | (simp [*]; done), by repeat (first | exact Drawn0.refl _ | apply Drawn0.step)⟩
  ·rw [if_neg c4] at H
   exact absurd H (by simp)
 ·rw [if_neg c3] at H
  exact absurd H (by simp)

def impl_madeBits_at_impl_trie_1.l0 : Nat → Int → Int → List Bool → Int → List Int → Option (Int × List Int)
 | 0, _, _, _, _, _ => none
 | k + 1, x9, x10, x3000, x399000, x399001 => if x10 < x9 then ((impl_trie_1.f x10 x3000).bind fun t399 => ((impl_Bits_set.f x399000 x399001 x10 t399).bind fun t400 => (impl_madeBits_at_impl_trie_1.l0 k x9 (wrap64 (x10 + 1)) x3000 x399000 t400))) else (some (x399000, x399001))
def impl_madeBits_at_impl_trie_1.f (k : Nat) (a0 : Int)  (l2_0 : List Bool) : Option (Int × List Int) := (impl_blank.f a0).bind fun bt394 => (impl_madeBits_at_impl_trie_1.l0 k a0 0 l2_0 bt394.1 bt394.2)
theorem impl_madeBits_at_impl_trie_1.mono_l : ∀ k, (∀ y0 y1 y2 y3 y4, LeO (impl_madeBits_at_impl_trie_1.l0 k y0 y1 y2 y3 y4) (impl_madeBits_at_impl_trie_1.l0 (k + 1) y0 y1 y2 y3 y4))
 | 0 => fun _ _ _ _ _ r h => by simp [impl_madeBits_at_impl_trie_1.l0] at h
 | k + 1 => by
  have ih0 := impl_madeBits_at_impl_trie_1.mono_l k
  ·intro y0 y1 y2 y3 y4
   unfold impl_madeBits_at_impl_trie_1.l0
   repeat' first | (with_reducible first | exact ih0 _ _ _ _ _ | exact LeO.refl _ | exact LeO.none _ | refine LeO.ite ?_ ?_ | refine LeO.bind ?_ (fun _ => ?_)) | exact LeO.none _ | refine LeO.ite ?_ ?_ | refine LeO.bind ?_ (fun _ => ?_)
theorem impl_madeBits_at_impl_trie_1.mono : ∀ a0 a1 k, LeO (impl_madeBits_at_impl_trie_1.f k a0 a1) (impl_madeBits_at_impl_trie_1.f (k + 1) a0 a1) := by
 intro a0 a1 k; have ih0 := impl_madeBits_at_impl_trie_1.mono_l k
 unfold impl_madeBits_at_impl_trie_1.f
 repeat' first | (with_reducible first | exact ih0 _ _ _ _ _ | exact LeO.refl _ | exact LeO.none _ | refine LeO.ite ?_ ?_ | refine LeO.bind ?_ (fun _ => ?_)) | exact LeO.none _ | refine LeO.ite ?_ ?_ | refine LeO.bind ?_ (fun _ => ?_)
theorem impl_madeBits_at_impl_trie_1.calls (k : Nat) (a0 : Int)  (g2 : Nat) (A2_0 : Option Addr) (c2_0 : Nat) (l2_0 : List Bool) (r1 : Int) (r2 : List Int) (w : World) (hb2 : w.heap[g2]? = some (.cells #[.slice A2_0 l2_0.length c2_0] 61 (0, 0))) (hr2_0 : Kd.C Kd.bool w A2_0 l2_0.length l2_0) (hc2_0 : l2_0.length ≤ c2_0) (h : impl_madeBits_at_impl_trie_1.f k a0 l2_0 = some (r1, r2)) :
  Calls Tryz.prog 42 #[.int .i64 a0, .func (.func 43) #[] #[.pointer (some ⟨g2, 0, none⟩)]] w fun e w' => ∃ v1_ : Value, e = .returned (.agg #[.int .i64 r1, v1_]) ∧ Kd.R (Kd.int .i64) 3 w' w.heap.size (fun _ => True) v1_ r2 ∧ Below w.heap.size w w' := by
 have hu30 := Tryz.underlying30; have HR2_0 := am hr2_0; have HC2_0 := am hc2_0; clear hr2_0 hc2_0; have BK2 := am hb2; clear hb2; have HB := am (Below.refl w.heap.size w); have H : ((impl_blank.f a0).bind fun bt394 => (impl_madeBits_at_impl_trie_1.l0 k a0 0 l2_0 bt394.1 bt394.2)) = some (r1, r2) := h; clear h; replace H := Option.bind_eq_some_iff.mp H; obtain ⟨⟨t394, t395⟩, A40, H⟩ := H; (try dsimp -simprocs only at H); have A4 := am A40; clear A40; have H' := am H; clear H
 go_enter Tryz.func42, Tryz.ntmps42
 go_wp2_with (first | ((with_reducible refine gate_dst (N := 4) rfl ?_); refine bE 4 #[.int .i64 0, .slice none 0 0] 30 ?_; intro gb393 hg w5 hbox hb; have n0_ := Kb BK2 hb; have n1_ := Bc HB hb; have n2_ := am (hbox); have n3_ := Gm HB hg; have n4_ := Gm HB hg; have n5_ := Nl BK2 hg; have n6_ := Ng BK2 hg; clear BK2 HB; revert n0_ n1_ n2_ n3_ n4_ n5_ n6_; intro BK2 HB BK393 GW393 GE393 NB2_393 NB393_2; clear hb hbox hg) | ((with_reducible refine gate_callee (f := 64) rfl ?_); refine gL (some 8) Tryz.func64 #[.int .i64 a0] ?_; (with_reducible refine (impl_blank.calls a0 t394 t395 _ A4.out).mono ?_); rintro e w6 ⟨v396, rfl, ho0, hb⟩; refine ⟨_, rfl, ?_⟩; have n0_ := Rm ho0 HB; have n1_ := Kb BK2 hb; have n2_ := Kb BK393 hb; have n3_ := Bc HB hb; clear BK2 BK393 HB; revert n0_ n1_ n2_ n3_; intro HO397 BK2 BK393 HB; (try clear hb); (try clear hb2); (try clear hk); (try clear hi); (try clear ho0)) | ((with_reducible refine gate_dst (N := 5) rfl ?_); refine bE 5 #[.int .i64 0, .slice none 0 0] 30 ?_; intro gb398 hg w7 hbox hb; have n0_ := Rb HO397 hb; have n1_ := Kb BK2 hb; have n2_ := Kb BK393 hb; have n3_ := Bc HB hb; have n4_ := am (hbox); have n5_ := Gm HB hg; have n6_ := Gm HB hg; have n7_ := Nl BK2 hg; have n8_ := Ng BK2 hg; have n9_ := Nl BK393 hg; have n10_ := Ng BK393 hg; clear HO397 BK2 BK393 HB; revert n0_ n1_ n2_ n3_ n4_ n5_ n6_ n7_ n8_ n9_ n10_; intro HO397 BK2 BK393 HB BK398 GW398 GE398 NB2_398 NB398_2 NB393_398 NB398_393; clear hb hbox hg; have hnb8 := NB398_2.out; have hnc8 := NB2_398.out; have hnb9 := NB398_393.out; have hnc9 := NB393_398.out; obtain ⟨hcz10_0, hcz10_1, hfz10_0, hfz10_1⟩ := cf2 (w := w7) BK398; obtain ⟨Ao11, co11, eo11⟩ := Kd.R_slice HO397.out; subst eo11))
 (try simp only [aP])
 go_loopg [10] k (fun kq v10 w' => ∃ (x10_1 : Int) (x399001_1 : List Int) (u399001 : Value), v10 = .int .i64 x10_1 ∧ Aside0 (impl_madeBits_at_impl_trie_1.l0 kq a0 x10_1 l2_0 t394 x399001_1 = some (r1, r2)) ∧ Aside0 (kq ≤ k) ∧ Aside0 (Kd.R (Kd.int .i64) 3 w' w.heap.size (fun _ => True) u399001 x399001_1) ∧ Aside0 (w'.heap[g2]? = some (.cells #[(.slice A2_0 l2_0.length c2_0)] 61 (0, 0))) ∧ Aside0 (w'.heap[gb393]? = some (.cells #[.int .i64 0, (.slice none 0 0)] 30 (0, 0))) ∧ Aside0 (w'.heap[gb398]? = some (.cells #[.int .i64 t394, u399001] 30 (0, 0))) ∧ Aside0 (Below w.heap.size w w'))
 case atStart => exact ⟨(0), (t395), (.slice Ao11 t395.length co11), wZ, H', ⟨Nat.le_refl _⟩, ⟨Rz (Kd.R_mono (Kd.R_far (p := ⟨gb398, 1, none⟩) (Kd.R_far (p := ⟨gb398, 0, none⟩) (Kd.R_types HO397.out BK398.out (by decide)) (fun _ hk => hk.2) (.int .i64 t394)) (fun _ hk => hk.2) (.slice Ao11 t395.length co11)) (fun _ hk => trivial))⟩, ⟨by (with_reducible repeat (first | refine blk_drewN ?_ _ | refine blk_drew ?_ | refine blk_alloc ?_ _)); refine blk_far ?_ NB2_398.out _; (with_reducible repeat (first | refine blk_drewN ?_ _ | refine blk_drew ?_ | refine blk_alloc ?_ _)); refine blk_far ?_ NB2_398.out _; (with_reducible repeat (first | refine blk_drewN ?_ _ | refine blk_drew ?_ | refine blk_alloc ?_ _)); exact BK2.out⟩, ⟨by (with_reducible repeat (first | refine blk_drewN ?_ _ | refine blk_drew ?_ | refine blk_alloc ?_ _)); refine blk_far ?_ NB393_398.out _; (with_reducible repeat (first | refine blk_drewN ?_ _ | refine blk_drew ?_ | refine blk_alloc ?_ _)); refine blk_far ?_ NB393_398.out _; (with_reducible repeat (first | refine blk_drewN ?_ _ | refine blk_drew ?_ | refine blk_alloc ?_ _)); exact BK393.out⟩, ⟨by (with_reducible repeat (first | refine blk_drewN ?_ _ | refine blk_drew ?_ | refine blk_alloc ?_ _)); refine blk_put (cs := #[.int .i64 t394, .slice none 0 0]) ?_ 1 _ rfl; (with_reducible repeat (first | refine blk_drewN ?_ _ | refine blk_drew ?_ | refine blk_alloc ?_ _)); refine blk_put (cs := #[.int .i64 0, .slice none 0 0]) ?_ 0 _ rfl; (with_reducible repeat (first | refine blk_drewN ?_ _ | refine blk_drew ?_ | refine blk_alloc ?_ _)); exact BK398.out⟩, ⟨Bq⟩⟩
 case round =>
  clear H'
  try clear c2
  try clear p2
  try clear c4
  try clear c6
  try clear c8
  try clear c9
  try clear hcz10_0
  try clear hcz10_1
  try clear hfz10_0
  try clear hfz10_1
  obtain ⟨x10_1, x399001_1, u399001, rfl, HA, HK1, HO_399001, BK2, BK393, BK398, HB⟩ := hrel; cases gk with
  | zero => exact absurd HA.out (by simp [impl_madeBits_at_impl_trie_1.l0])
  | succ k1 =>
   have H := HA.out; clear HA
   simp only [impl_madeBits_at_impl_trie_1.l0] at H
   by_cases c12 : x10_1 < a0
   ·rw [if_pos c12] at H
    have c12b0 : decide (x10_1 < a0) = true := decide_eq_true c12; clear c12; replace H := Option.bind_eq_some_iff.mp H; obtain ⟨t399, A130, H⟩ := H; (try dsimp -simprocs only at H); have A13 := am A130; clear A130; replace H := Option.bind_eq_some_iff.mp H; obtain ⟨t400, A140, H⟩ := H; (try dsimp -simprocs only at H); have A14 := am A140; clear A140; have H' := am H; clear H
    go_wp2_with (first | (go_at_call 43; (with_reducible refine (impl_trie_1.calls x10_1 g2 A2_0 c2_0 l2_0 t399 _ ?side1 ?side2 ?side3 A13.out).mono ?_); (case side1 => exact Kz BK2.out); (case side2 => exact Cz (Kd.C_below HR2_0.out HB.out)); (case side3 => exact HC2_0.out); rintro e w' ⟨rfl, ⟨nd, rfl⟩⟩; obtain ⟨Ao15, co15, eo15⟩ := Kd.R_slice HO_399001.out; subst eo15) | ((with_reducible refine gate_callee (f := 65) rfl ?_); refine gL (some 17) Tryz.func65 #[.pointer (some ⟨gb398, 0, none⟩), .int .i64 x10_1, .bool t399] ?_; (with_reducible refine (impl_Bits_set.calls gb398 t394 (fun k_ => some k_ = (.slice Ao15 x399001_1.length co15 : Value).ownBlock) (.slice Ao15 x399001_1.length co15) x399001_1 x10_1 t399 t400 w _ ?side1 ?side2 ?side3 A14.out).mono ?_); (case side1 => repeat (first | (with_reducible first | exact HB.out | apply below_alloc | apply pw_below_drewN | apply below_drew1 | refine below_set ?_ GE2.out | refine below_set ?_ GE393.out | refine below_set ?_ GE398.out) | exact HB.out)); (case side2 => exact Kz BK398.out); (case side3 => exact Kd.R_tight rfl HO_399001.out); rintro e w16 ⟨rfl, hy0, hb, hkp⟩; refine ⟨_, rfl, ?_⟩; have n0_ := am (Kd.R_reok rfl hy0 (fun k_ e_ => HO_399001.out.1 k_ e_)); have n1_ := am (blk_kept (Kz BK2.out) hkp (fun hs_ => (fun e_ => (Kd.R_ne HO_399001.out BK2.out (by decide)) e_) hs_)); have n2_ := am (blk_kept (Kz BK393.out) hkp (fun hs_ => (fun e_ => (Kd.R_ne HO_399001.out BK393.out (by decide)) e_) hs_)); have n3_ := am (blk_kept (Kz BK398.out) hkp (fun hs_ => (fun e_ => (Kd.R_ne HO_399001.out BK398.out (by decide)) e_) hs_)); have n4_ := am (hb); clear HO_399001 BK2 BK393 BK398 HB; revert n0_ n1_ n2_ n3_ n4_; intro HO_399001 BK2 BK393 BK398 HB; (try clear hb); (try clear hkp); (try clear hy0)))
    go_roundg k1
    case measure => have := HK1.out; omega
    case rel => exact ⟨(wrap64 (x10_1 + 1)), (t400), (.slice Ao15 x399001_1.length co15), wZ, H', ⟨by have := HK1.out; omega⟩, ⟨Rz HO_399001.out⟩, ⟨Kz BK2.out⟩, ⟨Kz BK393.out⟩, ⟨Kz BK398.out⟩, ⟨Bq⟩⟩
   ·rw [if_neg c12] at H
    have c12b0 : decide (x10_1 < a0) = false := decide_eq_false c12; clear c12
    simp only [Option.some.injEq, Prod.mk.injEq] at H
    obtain ⟨rfl, rfl⟩ := H; have hnb17 := NB398_2.out; have hnc17 := NB2_398.out; have hnb18 := NB398_393.out; have hnc18 := NB393_398.out; obtain ⟨hcz19_0, hcz19_1, hfz19_0, hfz19_1⟩ := cf2 (w := wr) BK398; have hnb20 := NB393_2.out; have hnc20 := NB2_393.out; obtain ⟨hcz21_0, hcz21_1, hfz21_0, hfz21_1⟩ := cf2 (w := wr) BK393; obtain ⟨Ao22, co22, eo22⟩ := Kd.R_slice HO_399001.out; subst eo22
    go_wp2
    refine bodyPost_ret (results_cell_row rfl _ _ gb393 30 #[.int .i64 t394, .slice Ao22 x399001_1.length co22] (0, 0) _ rfl (by (with_reducible repeat (first | refine blk_drewN ?_ _ | refine blk_drew ?_ | refine blk_alloc ?_ _)); refine blk_put (cs := #[.int .i64 t394, .slice none 0 0]) ?_ 1 _ rfl; (with_reducible repeat (first | refine blk_drewN ?_ _ | refine blk_drew ?_ | refine blk_alloc ?_ _)); refine blk_put (cs := #[.int .i64 0, .slice none 0 0]) ?_ 0 _ rfl; exact Kz BK393.out) Tryz.underlying30 rfl (by kernel_rfl)) rfl ?_; exact ⟨_, eZ, Rz (Kd.R_mono (Kd.R_far (p := ⟨gb393, 1, none⟩) (Kd.R_far (p := ⟨gb393, 0, none⟩) (Kd.R_types HO_399001.out BK393.out (by decide)) (fun _ hk => hk.2) (.int .i64 t394)) (fun _ hk => hk.2) (.slice Ao22 x399001_1.length co22)) (fun _ hk => trivial)), Bq⟩

def impl_trie_2.f (k : Nat) (a0 : Int) (l1_0 : List ByteArray) (l2_0 : List ByteArray) : Option (Bool) := if 0 ≤ a0 then (if a0 < (l2_0.length : Int) then ((slices_Contains_string_string.f k l1_0 (rdOf ByteArray.empty l2_0 a0)).bind fun t442 => (some t442)) else (none)) else (none)
theorem impl_trie_2.mono : ∀ a0 a1 a2 k, LeO (impl_trie_2.f k a0 a1 a2) (impl_trie_2.f (k + 1) a0 a1 a2) := by
 intro a0 a1 a2 k
 unfold impl_trie_2.f
 repeat' first | (with_reducible first | exact slices_Contains_string_string.mono _ _ _ | exact LeO.refl _ | exact LeO.none _ | refine LeO.ite ?_ ?_ | refine LeO.bind ?_ (fun _ => ?_)) | exact LeO.none _ | refine LeO.ite ?_ ?_ | refine LeO.bind ?_ (fun _ => ?_)
theorem impl_trie_2.calls (k : Nat) (a0 : Int) (g1 : Nat) (A1_0 : Option Addr) (c1_0 : Nat) (l1_0 : List ByteArray) (g2 : Nat) (A2_0 : Option Addr) (c2_0 : Nat) (l2_0 : List ByteArray) (r : Bool) (w : World) (hb1 : w.heap[g1]? = some (.cells #[.slice A1_0 l1_0.length c1_0] 37 (0, 0))) (hr1_0 : Kd.C Kd.string w A1_0 l1_0.length l1_0) (hc1_0 : l1_0.length ≤ c1_0) (hb2 : w.heap[g2]? = some (.cells #[.slice A2_0 l2_0.length c2_0] 37 (0, 0))) (hr2_0 : Kd.C Kd.string w A2_0 l2_0.length l2_0) (hc2_0 : l2_0.length ≤ c2_0) (h : impl_trie_2.f k a0 l1_0 l2_0 = some r) :
  Calls Tryz.prog 44 #[.int .i64 a0, .pointer (some ⟨g1, 0, none⟩), .pointer (some ⟨g2, 0, none⟩)] w fun e w' => e = .returned (.bool r) ∧ Below w.heap.size w w' := by
 have HR1_0 := am hr1_0; have HC1_0 := am hc1_0; clear hr1_0 hc1_0; have HR2_0 := am hr2_0; have HC2_0 := am hc2_0; clear hr2_0 hc2_0; have BK1 := am hb1; clear hb1; have BK2 := am hb2; clear hb2; have HB := am (Below.refl w.heap.size w); have H : (if 0 ≤ a0 then (if a0 < (l2_0.length : Int) then ((slices_Contains_string_string.f k l1_0 (rdOf ByteArray.empty l2_0 a0)).bind fun t442 => (some t442)) else (none)) else (none)) = some r := h; clear h
 by_cases c4 : 0 ≤ a0
 ·rw [if_pos c4] at H
  have c4b0 : decide (0 ≤ a0) = true := decide_eq_true c4; clear c4
  by_cases c5 : a0 < (l2_0.length : Int)
  ·rw [if_pos c5] at H
   have c5b0 : decide (a0 < (l2_0.length : Int)) = true := decide_eq_true c5; clear c5; replace H := Option.bind_eq_some_iff.mp H; obtain ⟨t442, A60, H⟩ := H; (try dsimp -simprocs only at H); have A6 := am A60; clear A60; obtain rfl := Option.some.inj H
   go_enter Tryz.func44, Tryz.ntmps44
   try go_wp2
   have n0_ := am (blk_drew BK1.out); have n1_ := am (blk_drew BK2.out); have n2_ := am (below_drew1 HB.out); clear BK1 BK2 HB; revert n0_ n1_ n2_; intro BK1 BK2 HB; have p441 : 0 ≤ (a0 : Int) := dT; have q441 : a0 < (l2_0.length : Int) := dT; obtain ⟨ad441, e441, hx441_0⟩ := Kd.at_string HR2_0.out a0 p441 q441; have hw441_0 := hx441_0; cases e441; replace hx441_0 := (HB.out.cell (World.block_lt_of_cell? w _ hx441_0)).trans hx441_0; replace p441 := eq_true p441; replace q441 := eq_true q441; refine start_ (n := 7) (S := fun w' => w'.cell? ⟨g1, 0, none⟩ = some (.slice A1_0 l1_0.length c1_0) ∧ w'.cell? ⟨g2, 0, none⟩ = some (.slice (some ad441) l2_0.length c2_0) ∧ w'.cell? (ad441.add (a0).toNat) = some (.string (rdOf ByteArray.empty l2_0 a0))) (ds := []) (bA 7 0) (by kernel_rfl) rfl rfl ⟨cz BK1 0, cz BK2 0, ((HB.out.cell (World.block_lt_of_cell? w _ hw441_0)).trans hw441_0)⟩ (fun hHeld => ?_); generalize w.drew = w7 at BK1 BK2 HB hx441_0 hHeld ⊢; refine pure_ (i := 2) (N := some 7) (v := ?_) (a' := ?_) (bA 7 4) rfl rfl (by kernel_rfl) (fun _ _ _ h => h) (Or.inl ⟨by rfl, ?_⟩) ?_ ?_
   rotate_left
   ·intro w'
    go_simp
    with_reducible rfl
   rotate_left
   ·simp only [aP, i64_w, i32_w]
    rfl
   refine take_ (i := 0) (N := some 5) (v := ?_) (a' := ?_) (bA 7 5) rfl rfl (by kernel_rfl) (fun _ _ _ h => h) (Or.inl ⟨by rfl, ?_⟩) hHeld ?_ ?_
   rotate_left
   ·rintro w' ⟨s0, s1, s2⟩
    go_simp
    with_reducible rfl
   rotate_left
   ·simp only [aP, i64_w, i32_w]
    rfl
   refine take_ (i := 1) (N := some 6) (v := ?_) (a' := ?_) (bA 7 7) rfl rfl (by kernel_rfl) (fun _ _ _ h => h) (Or.inl ⟨by rfl, ?_⟩) hHeld ?_ ?_
   rotate_left
   ·rintro w' ⟨s0, s1, s2⟩
    go_simp
    with_reducible rfl
   rotate_left
   ·simp only [aP, i64_w, i32_w]
    rfl
   refine pure_ (i := 3) (N := some 8) (v := ?_) (a' := ?_) (bA 7 15) rfl rfl (by kernel_rfl) (fun _ _ _ h => h) (Or.inl ⟨by rfl, ?_⟩) ?_ ?_
   rotate_left
   ·intro w'
    go_simp
    with_reducible rfl
   rotate_left
   ·simp only [aP, i64_w, i32_w]
    rfl
   refine take_ (i := 4) (N := some 9) (v := ?_) (a' := ?_) (bA 7 31) rfl rfl (by kernel_rfl) (fun _ _ _ h => h) (Or.inl ⟨by rfl, ?_⟩) hHeld ?_ ?_
   rotate_left
   ·rintro w' ⟨s0, s1, s2⟩
    go_simp
    with_reducible rfl
   rotate_left
   ·simp only [aP, i64_w, i32_w]
    rfl
   refine one_ (i := 5) (N := some 10) (bA 7 63) rfl rfl (by kernel_rfl) (by decide) (fun K hK => ?_); refine gZ Tryz.func45 #[.slice A1_0 l1_0.length c1_0, .string (rdOf ByteArray.empty l2_0 a0)] ?_
   with_reducible refine (slices_Contains_string_string.calls k _ _ l1_0 (rdOf ByteArray.empty l2_0 a0) t442 _ ?side1 ?side2 A6.out).mono ?_
   (case side1 => exact Cz (Kd.C_below HR1_0.out HB.out))
   (case side2 => exact HC1_0.out)
   rintro e w' ⟨rfl, ⟨nd, rfl⟩⟩; refine ⟨_, rfl, ?_⟩; refine hK.out _ _ ⟨cz BK1 0, cz BK2 0, ((HB.out.cell (World.block_lt_of_cell? w _ hw441_0)).trans hw441_0)⟩ (fun hHeld => ?_); clear hK K; refine norm_ (a' := ?_) ?_ ?_; rotate_left; show Act.put _ (some 10) _ = _; simp only [aP, i64_w, i32_w]; rfl; refine pure_ (i := 6) (N := some 4) (v := ?_) (a' := ?_) (bA 7 127) rfl rfl (by kernel_rfl) (fun _ _ _ h => h) (Or.inl ⟨by rfl, ?_⟩) ?_ ?_
   rotate_left
   ·intro w'
    go_simp
    with_reducible rfl
   rotate_left
   ·simp only [aP, i64_w, i32_w]
    rfl
   refine done_ (by kernel_rfl) ?_
   try go_wp2
   go_ret
   exact ⟨eZ, Bq⟩
  ·rw [if_neg c5] at H
   exact absurd H (by simp)
 ·rw [if_neg c4] at H
  exact absurd H (by simp)

def impl_madeBits_at_impl_trie_2.l0 : Nat → Int → Int → List ByteArray → List ByteArray → Int → List Int → Option (Int × List Int)
 | 0, _, _, _, _, _, _ => none
 | k + 1, x9, x10, x3000, x4000, x449000, x449001 => if x10 < x9 then ((impl_trie_2.f k x10 x3000 x4000).bind fun t449 => ((impl_Bits_set.f x449000 x449001 x10 t449).bind fun t450 => (impl_madeBits_at_impl_trie_2.l0 k x9 (wrap64 (x10 + 1)) x3000 x4000 x449000 t450))) else (some (x449000, x449001))
def impl_madeBits_at_impl_trie_2.f (k : Nat) (a0 : Int)  (l2_0 : List ByteArray) (l3_0 : List ByteArray) : Option (Int × List Int) := (impl_blank.f a0).bind fun bt444 => (impl_madeBits_at_impl_trie_2.l0 k a0 0 l2_0 l3_0 bt444.1 bt444.2)
theorem impl_madeBits_at_impl_trie_2.mono_l : ∀ k, (∀ y0 y1 y2 y3 y4 y5, LeO (impl_madeBits_at_impl_trie_2.l0 k y0 y1 y2 y3 y4 y5) (impl_madeBits_at_impl_trie_2.l0 (k + 1) y0 y1 y2 y3 y4 y5))
 | 0 => fun _ _ _ _ _ _ r h => by simp [impl_madeBits_at_impl_trie_2.l0] at h
 | k + 1 => by
  have ih0 := impl_madeBits_at_impl_trie_2.mono_l k
  ·intro y0 y1 y2 y3 y4 y5
   unfold impl_madeBits_at_impl_trie_2.l0
   repeat' first | (with_reducible first | exact ih0 _ _ _ _ _ _ | exact impl_trie_2.mono _ _ _ _ | exact LeO.refl _ | exact LeO.none _ | refine LeO.ite ?_ ?_ | refine LeO.bind ?_ (fun _ => ?_)) | exact LeO.none _ | refine LeO.ite ?_ ?_ | refine LeO.bind ?_ (fun _ => ?_)
theorem impl_madeBits_at_impl_trie_2.mono : ∀ a0 a1 a2 k, LeO (impl_madeBits_at_impl_trie_2.f k a0 a1 a2) (impl_madeBits_at_impl_trie_2.f (k + 1) a0 a1 a2) := by
 intro a0 a1 a2 k; have ih0 := impl_madeBits_at_impl_trie_2.mono_l k
 unfold impl_madeBits_at_impl_trie_2.f
 repeat' first | (with_reducible first | exact ih0 _ _ _ _ _ _ | exact impl_trie_2.mono _ _ _ _ | exact LeO.refl _ | exact LeO.none _ | refine LeO.ite ?_ ?_ | refine LeO.bind ?_ (fun _ => ?_)) | exact LeO.none _ | refine LeO.ite ?_ ?_ | refine LeO.bind ?_ (fun _ => ?_)
theorem impl_madeBits_at_impl_trie_2.calls (k : Nat) (a0 : Int)  (g2 : Nat) (A2_0 : Option Addr) (c2_0 : Nat) (l2_0 : List ByteArray) (g3 : Nat) (A3_0 : Option Addr) (c3_0 : Nat) (l3_0 : List ByteArray) (r1 : Int) (r2 : List Int) (w : World) (hb2 : w.heap[g2]? = some (.cells #[.slice A2_0 l2_0.length c2_0] 37 (0, 0))) (hr2_0 : Kd.C Kd.string w A2_0 l2_0.length l2_0) (hc2_0 : l2_0.length ≤ c2_0) (hb3 : w.heap[g3]? = some (.cells #[.slice A3_0 l3_0.length c3_0] 37 (0, 0))) (hr3_0 : Kd.C Kd.string w A3_0 l3_0.length l3_0) (hc3_0 : l3_0.length ≤ c3_0) (h : impl_madeBits_at_impl_trie_2.f k a0 l2_0 l3_0 = some (r1, r2)) :
  Calls Tryz.prog 42 #[.int .i64 a0, .func (.func 44) #[] #[.pointer (some ⟨g2, 0, none⟩), .pointer (some ⟨g3, 0, none⟩)]] w fun e w' => ∃ v1_ : Value, e = .returned (.agg #[.int .i64 r1, v1_]) ∧ Kd.R (Kd.int .i64) 3 w' w.heap.size (fun _ => True) v1_ r2 ∧ Below w.heap.size w w' := by
 have hu30 := Tryz.underlying30; have HR2_0 := am hr2_0; have HC2_0 := am hc2_0; clear hr2_0 hc2_0; have HR3_0 := am hr3_0; have HC3_0 := am hc3_0; clear hr3_0 hc3_0; have BK2 := am hb2; clear hb2; have BK3 := am hb3; clear hb3; have HB := am (Below.refl w.heap.size w); have H : ((impl_blank.f a0).bind fun bt444 => (impl_madeBits_at_impl_trie_2.l0 k a0 0 l2_0 l3_0 bt444.1 bt444.2)) = some (r1, r2) := h; clear h; replace H := Option.bind_eq_some_iff.mp H; obtain ⟨⟨t444, t445⟩, A50, H⟩ := H; (try dsimp -simprocs only at H); have A5 := am A50; clear A50; have H' := am H; clear H
 go_enter Tryz.func42, Tryz.ntmps42
 go_wp2_with (first | ((with_reducible refine gate_dst (N := 4) rfl ?_); refine bE 4 #[.int .i64 0, .slice none 0 0] 30 ?_; intro gb443 hg w6 hbox hb; have n0_ := Kb BK2 hb; have n1_ := Kb BK3 hb; have n2_ := Bc HB hb; have n3_ := am (hbox); have n4_ := Gm HB hg; have n5_ := Gm HB hg; have n6_ := Nl BK2 hg; have n7_ := Ng BK2 hg; have n8_ := Nl BK3 hg; have n9_ := Ng BK3 hg; clear BK2 BK3 HB; revert n0_ n1_ n2_ n3_ n4_ n5_ n6_ n7_ n8_ n9_; intro BK2 BK3 HB BK443 GW443 GE443 NB2_443 NB443_2 NB3_443 NB443_3; clear hb hbox hg) | ((with_reducible refine gate_callee (f := 64) rfl ?_); refine gL (some 8) Tryz.func64 #[.int .i64 a0] ?_; (with_reducible refine (impl_blank.calls a0 t444 t445 _ A5.out).mono ?_); rintro e w7 ⟨v446, rfl, ho0, hb⟩; refine ⟨_, rfl, ?_⟩; have n0_ := Rm ho0 HB; have n1_ := Kb BK2 hb; have n2_ := Kb BK3 hb; have n3_ := Kb BK443 hb; have n4_ := Bc HB hb; clear BK2 BK3 BK443 HB; revert n0_ n1_ n2_ n3_ n4_; intro HO447 BK2 BK3 BK443 HB; (try clear hb); (try clear hb2); (try clear hk); (try clear hi); (try clear ho0)) | ((with_reducible refine gate_dst (N := 5) rfl ?_); refine bE 5 #[.int .i64 0, .slice none 0 0] 30 ?_; intro gb448 hg w8 hbox hb; have n0_ := Rb HO447 hb; have n1_ := Kb BK2 hb; have n2_ := Kb BK3 hb; have n3_ := Kb BK443 hb; have n4_ := Bc HB hb; have n5_ := am (hbox); have n6_ := Gm HB hg; have n7_ := Gm HB hg; have n8_ := Nl BK2 hg; have n9_ := Ng BK2 hg; have n10_ := Nl BK3 hg; have n11_ := Ng BK3 hg; have n12_ := Nl BK443 hg; have n13_ := Ng BK443 hg; clear HO447 BK2 BK3 BK443 HB; revert n0_ n1_ n2_ n3_ n4_ n5_ n6_ n7_ n8_ n9_ n10_ n11_ n12_ n13_; intro HO447 BK2 BK3 BK443 HB BK448 GW448 GE448 NB2_448 NB448_2 NB3_448 NB448_3 NB443_448 NB448_443; clear hb hbox hg; have hnb9 := NB448_2.out; have hnc9 := NB2_448.out; have hnb10 := NB448_3.out; have hnc10 := NB3_448.out; have hnb11 := NB448_443.out; have hnc11 := NB443_448.out; obtain ⟨hcz12_0, hcz12_1, hfz12_0, hfz12_1⟩ := cf2 (w := w8) BK448; obtain ⟨Ao13, co13, eo13⟩ := Kd.R_slice HO447.out; subst eo13))
 (try simp only [aP])
 go_loopg [10] k (fun kq v10 w' => ∃ (x10_1 : Int) (x449001_1 : List Int) (u449001 : Value), v10 = .int .i64 x10_1 ∧ Aside0 (impl_madeBits_at_impl_trie_2.l0 kq a0 x10_1 l2_0 l3_0 t444 x449001_1 = some (r1, r2)) ∧ Aside0 (kq ≤ k) ∧ Aside0 (Kd.R (Kd.int .i64) 3 w' w.heap.size (fun _ => True) u449001 x449001_1) ∧ Aside0 (w'.heap[g2]? = some (.cells #[(.slice A2_0 l2_0.length c2_0)] 37 (0, 0))) ∧ Aside0 (w'.heap[g3]? = some (.cells #[(.slice A3_0 l3_0.length c3_0)] 37 (0, 0))) ∧ Aside0 (w'.heap[gb443]? = some (.cells #[.int .i64 0, (.slice none 0 0)] 30 (0, 0))) ∧ Aside0 (w'.heap[gb448]? = some (.cells #[.int .i64 t444, u449001] 30 (0, 0))) ∧ Aside0 (Below w.heap.size w w'))
 case atStart => exact ⟨(0), (t445), (.slice Ao13 t445.length co13), wZ, H', ⟨Nat.le_refl _⟩, ⟨Rz (Kd.R_mono (Kd.R_far (p := ⟨gb448, 1, none⟩) (Kd.R_far (p := ⟨gb448, 0, none⟩) (Kd.R_types HO447.out BK448.out (by decide)) (fun _ hk => hk.2) (.int .i64 t444)) (fun _ hk => hk.2) (.slice Ao13 t445.length co13)) (fun _ hk => trivial))⟩, ⟨by (with_reducible repeat (first | refine blk_drewN ?_ _ | refine blk_drew ?_ | refine blk_alloc ?_ _)); refine blk_far ?_ NB2_448.out _; (with_reducible repeat (first | refine blk_drewN ?_ _ | refine blk_drew ?_ | refine blk_alloc ?_ _)); refine blk_far ?_ NB2_448.out _; (with_reducible repeat (first | refine blk_drewN ?_ _ | refine blk_drew ?_ | refine blk_alloc ?_ _)); exact BK2.out⟩, ⟨by (with_reducible repeat (first | refine blk_drewN ?_ _ | refine blk_drew ?_ | refine blk_alloc ?_ _)); refine blk_far ?_ NB3_448.out _; (with_reducible repeat (first | refine blk_drewN ?_ _ | refine blk_drew ?_ | refine blk_alloc ?_ _)); refine blk_far ?_ NB3_448.out _; (with_reducible repeat (first | refine blk_drewN ?_ _ | refine blk_drew ?_ | refine blk_alloc ?_ _)); exact BK3.out⟩, ⟨by (with_reducible repeat (first | refine blk_drewN ?_ _ | refine blk_drew ?_ | refine blk_alloc ?_ _)); refine blk_far ?_ NB443_448.out _; (with_reducible repeat (first | refine blk_drewN ?_ _ | refine blk_drew ?_ | refine blk_alloc ?_ _)); refine blk_far ?_ NB443_448.out _; (with_reducible repeat (first | refine blk_drewN ?_ _ | refine blk_drew ?_ | refine blk_alloc ?_ _)); exact BK443.out⟩, ⟨by (with_reducible repeat (first | refine blk_drewN ?_ _ | refine blk_drew ?_ | refine blk_alloc ?_ _)); refine blk_put (cs := #[.int .i64 t444, .slice none 0 0]) ?_ 1 _ rfl; (with_reducible repeat (first | refine blk_drewN ?_ _ | refine blk_drew ?_ | refine blk_alloc ?_ _)); refine blk_put (cs := #[.int .i64 0, .slice none 0 0]) ?_ 0 _ rfl; (with_reducible repeat (first | refine blk_drewN ?_ _ | refine blk_drew ?_ | refine blk_alloc ?_ _)); exact BK448.out⟩, ⟨Bq⟩⟩
 case round =>
  clear H'
  try clear c1
  try clear c2
  try clear p2
  try clear c3
  try clear c4
  try clear c6
  try clear c9
  try clear c10
  try clear c11
  try clear hcz12_0
  try clear hcz12_1
  try clear hfz12_0
  try clear hfz12_1
  obtain ⟨x10_1, x449001_1, u449001, rfl, HA, HK1, HO_449001, BK2, BK3, BK443, BK448, HB⟩ := hrel; cases gk with
  | zero => exact absurd HA.out (by simp [impl_madeBits_at_impl_trie_2.l0])
  | succ k1 =>
   have H := HA.out; clear HA
   simp only [impl_madeBits_at_impl_trie_2.l0] at H
   by_cases c14 : x10_1 < a0
   ·rw [if_pos c14] at H
    have c14b0 : decide (x10_1 < a0) = true := decide_eq_true c14; clear c14; replace H := Option.bind_eq_some_iff.mp H; obtain ⟨t449, A150, H⟩ := H; (try dsimp -simprocs only at H); have A15 := am A150; clear A150; replace H := Option.bind_eq_some_iff.mp H; obtain ⟨t450, A160, H⟩ := H; (try dsimp -simprocs only at H); have A16 := am A160; clear A160; have H' := am H; clear H
    go_wp2_with (first | (go_at_call 44; (with_reducible refine (impl_trie_2.calls k1 x10_1 g2 A2_0 c2_0 l2_0 g3 A3_0 c3_0 l3_0 t449 _ ?side1 ?side2 ?side3 ?side4 ?side5 ?side6 A15.out).mono ?_); (case side1 => exact Kz BK2.out); (case side2 => exact Cz (Kd.C_below HR2_0.out HB.out)); (case side3 => exact HC2_0.out); (case side4 => exact Kz BK3.out); (case side5 => exact Cz (Kd.C_below HR3_0.out HB.out)); (case side6 => exact HC3_0.out); rintro e w17 ⟨rfl, hb⟩; have n0_ := Rb HO_449001 hb; have n1_ := Kb BK2 hb; have n2_ := Kb BK3 hb; have n3_ := Kb BK443 hb; have n4_ := Kb BK448 hb; have n5_ := Bc HB hb; clear HO_449001 BK2 BK3 BK443 BK448 HB; revert n0_ n1_ n2_ n3_ n4_ n5_; intro HO_449001 BK2 BK3 BK443 BK448 HB; (try clear hb); (try clear hb2); (try clear hk); (try clear hi); obtain ⟨Ao18, co18, eo18⟩ := Kd.R_slice HO_449001.out; subst eo18) | ((with_reducible refine gate_callee (f := 65) rfl ?_); refine gL (some 17) Tryz.func65 #[.pointer (some ⟨gb448, 0, none⟩), .int .i64 x10_1, .bool t449] ?_; (with_reducible refine (impl_Bits_set.calls gb448 t444 (fun k_ => some k_ = (.slice Ao18 x449001_1.length co18 : Value).ownBlock) (.slice Ao18 x449001_1.length co18) x449001_1 x10_1 t449 t450 w _ ?side1 ?side2 ?side3 A16.out).mono ?_); (case side1 => repeat (first | (with_reducible first | exact HB.out | apply below_alloc | apply pw_below_drewN | apply below_drew1 | refine below_set ?_ GE2.out | refine below_set ?_ GE3.out | refine below_set ?_ GE443.out | refine below_set ?_ GE448.out) | exact HB.out)); (case side2 => exact Kz BK448.out); (case side3 => exact Kd.R_tight rfl HO_449001.out); rintro e w19 ⟨rfl, hy0, hb, hkp⟩; refine ⟨_, rfl, ?_⟩; have n0_ := am (Kd.R_reok rfl hy0 (fun k_ e_ => HO_449001.out.1 k_ e_)); have n1_ := am (blk_kept (Kz BK2.out) hkp (fun hs_ => (fun e_ => (Kd.R_ne HO_449001.out BK2.out (by decide)) e_) hs_)); have n2_ := am (blk_kept (Kz BK3.out) hkp (fun hs_ => (fun e_ => (Kd.R_ne HO_449001.out BK3.out (by decide)) e_) hs_)); have n3_ := am (blk_kept (Kz BK443.out) hkp (fun hs_ => (fun e_ => (Kd.R_ne HO_449001.out BK443.out (by decide)) e_) hs_)); have n4_ := am (blk_kept (Kz BK448.out) hkp (fun hs_ => (fun e_ => (Kd.R_ne HO_449001.out BK448.out (by decide)) e_) hs_)); have n5_ := am (hb); clear HO_449001 BK2 BK3 BK443 BK448 HB; revert n0_ n1_ n2_ n3_ n4_ n5_; intro HO_449001 BK2 BK3 BK443 BK448 HB; (try clear hb); (try clear hkp); (try clear hy0)))
    go_roundg k1
    case measure => have := HK1.out; omega
    case rel => exact ⟨(wrap64 (x10_1 + 1)), (t450), (.slice Ao18 x449001_1.length co18), wZ, H', ⟨by have := HK1.out; omega⟩, ⟨Rz HO_449001.out⟩, ⟨Kz BK2.out⟩, ⟨Kz BK3.out⟩, ⟨Kz BK443.out⟩, ⟨Kz BK448.out⟩, ⟨Bq⟩⟩
   ·rw [if_neg c14] at H
    have c14b0 : decide (x10_1 < a0) = false := decide_eq_false c14; clear c14
    simp only [Option.some.injEq, Prod.mk.injEq] at H
    obtain ⟨rfl, rfl⟩ := H; have hnb20 := NB448_2.out; have hnc20 := NB2_448.out; have hnb21 := NB448_3.out; have hnc21 := NB3_448.out; have hnb22 := NB448_443.out; have hnc22 := NB443_448.out; obtain ⟨hcz23_0, hcz23_1, hfz23_0, hfz23_1⟩ := cf2 (w := wr) BK448; have hnb24 := NB443_2.out; have hnc24 := NB2_443.out; have hnb25 := NB443_3.out; have hnc25 := NB3_443.out; obtain ⟨hcz26_0, hcz26_1, hfz26_0, hfz26_1⟩ := cf2 (w := wr) BK443; obtain ⟨Ao27, co27, eo27⟩ := Kd.R_slice HO_449001.out; subst eo27
    go_wp2
    refine bodyPost_ret (results_cell_row rfl _ _ gb443 30 #[.int .i64 t444, .slice Ao27 x449001_1.length co27] (0, 0) _ rfl (by (with_reducible repeat (first | refine blk_drewN ?_ _ | refine blk_drew ?_ | refine blk_alloc ?_ _)); refine blk_put (cs := #[.int .i64 t444, .slice none 0 0]) ?_ 1 _ rfl; (with_reducible repeat (first | refine blk_drewN ?_ _ | refine blk_drew ?_ | refine blk_alloc ?_ _)); refine blk_put (cs := #[.int .i64 0, .slice none 0 0]) ?_ 0 _ rfl; exact Kz BK443.out) Tryz.underlying30 rfl (by kernel_rfl)) rfl ?_; exact ⟨_, eZ, Rz (Kd.R_mono (Kd.R_far (p := ⟨gb443, 1, none⟩) (Kd.R_far (p := ⟨gb443, 0, none⟩) (Kd.R_types HO_449001.out BK443.out (by decide)) (fun _ hk => hk.2) (.int .i64 t444)) (fun _ hk => hk.2) (.slice Ao27 x449001_1.length co27)) (fun _ hk => trivial)), Bq⟩

end Go.Proofs.YtalfkfddpamnjaaGreat.PA
