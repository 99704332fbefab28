import Derived.Test.YtmehagedoaopeaaGreatCZ1
import Derived.Test.YtmehagedoaopeaaGreatCZ2
import Derived.Test.YtmehagedoaopeaaGreatCZ3
import Derived.Test.YtmehagedoaopeaaGreatCZ5
import Derived.Test.YtmehagedoaopeaaGreatCZ4
import Derived.Test.YtmehagedoaopeaaGreatCZ0
import Derived.Lib.Bytes
-- printed by a program of this session (wip/gp) out of the translation; Lean checks it
namespace Go.Proofs.YtmehagedoaopeaaGreat.PZ
open Go.RowKit Go.Proofs.YtmehagedoaopeaaGreatW.PrintWords Go.Proofs.YtmehagedoaopeaaGreatW.PrintLast Go.Proofs.YtmehagedoaopeaaGreatW.PrintMore Go.Proofs.YtmehagedoaopeaaGreatSq
attribute [local go_sem] max2_int min2_int max_two min_two max_three min_three max_four min_four   -- for this text's walks alone
attribute [local go_sem] Go.Proofs.YtmehagedoaopeaaGreatGp.str_geq Go.Proofs.YtmehagedoaopeaaGreatGp.str_gtr Go.Proofs.YtmehagedoaopeaaGreatGp.str_leq
set_option linter.unusedVariables false
set_option linter.unusedSimpArgs false

set_option maxHeartbeats 8000000
set_option maxRecDepth 100000
def impl_Peeled_place.f (k : Nat) (a0_0 : Int) (a0_1 : Int) (l0_2 : List Int) (a1 : ByteArray) : Option (Int) := (impl_threePlaces.f k a0_0 a1 a0_1).bind fun t636 => ((impl_led.f l0_2 t636).bind fun t639 => (if 0 ≤ t639 then (if t639 < (t636.length : Int) then (some (rd t636 t639)) else (none)) else (none)))
def impl_Peeled_place.T1 : Bool × List (List Nat × List Nat) := (true, [([], []), ([0], [0]), ([1], [1]), ([2], [2]), ([], []), ([], []), ([5], [5]), ([6], [6]), ([7], [7]), ([3, 4, 8], [3, 4, 8]), ([9, 9, 0, 1, 2, 3, 4, 5, 6, 7, 8, 9], [9])])
def impl_Peeled_place.B1 : List Nat := [0, 1, 3, 7, 0, 0, 32, 96, 224, 511, 1023]
theorem impl_Peeled_place.tab1 : rtab .any (opsOf Tryz.f49 1) = impl_Peeled_place.T1 := by kernel_rfl
theorem impl_Peeled_place.bits1 : waitsOk impl_Peeled_place.T1.2 impl_Peeled_place.B1 = true := by kernel_rfl
theorem impl_Peeled_place.calls (k : Nat) (g0 : Nat) (a0_0 : Int) (a0_1 : Int) (A0_2 : Option Addr) (c0_2 : Nat) (l0_2 : List Int) (a1 : ByteArray) (r : Int) (w : World) (hb0 : w.heap[g0]? = some (.cells #[.int .i64 a0_0, .int .i64 a0_1, .slice A0_2 l0_2.length c0_2] 29 (0, 0))) (hr0_2 : Kd.C (Kd.int .i64) w A0_2 l0_2.length l0_2) (hc0_2 : l0_2.length ≤ c0_2) (h : impl_Peeled_place.f k a0_0 a0_1 l0_2 a1 = some r) :
  Calls Tryz.prog 49 #[.pointer (some ⟨g0, 0, none⟩), .string a1] w fun e w' => e = .returned (.int .i64 r) ∧ Below w.heap.size w w' := by
 have HR0_2 := am hr0_2; have HC0_2 := am hc0_2; clear hr0_2 hc0_2; have BK0 := am hb0; clear hb0; have HB := am (Below.refl w.heap.size w); have H : ((impl_threePlaces.f k a0_0 a1 a0_1).bind fun t636 => ((impl_led.f l0_2 t636).bind fun t639 => (if 0 ≤ t639 then (if t639 < (t636.length : Int) then (some (rd t636 t639)) else (none)) else (none)))) = some r := h; clear h; replace H := Option.bind_eq_some_iff.mp H; obtain ⟨t636, A30, H⟩ := H; (try dsimp -simprocs only at H); have A3 := am A30; clear A30; replace H := Option.bind_eq_some_iff.mp H; obtain ⟨t639, A40, H⟩ := H; (try dsimp -simprocs only at H); have A4 := am A40; clear A40
 by_cases c5 : 0 ≤ t639
 ·rw [if_pos c5] at H
  have c5b0 : decide (0 ≤ t639) = true := decide_eq_true c5; clear c5
  by_cases c6 : t639 < (t636.length : Int)
  ·rw [if_pos c6] at H
   have c6b0 : decide (t639 < (t636.length : Int)) = true := decide_eq_true c6; clear c6; obtain rfl := Option.some.inj H
   go_enter Tryz.func49, Tryz.ntmps49
   try go_wp2
   have n0_ := am (blk_drew BK0.out); have n1_ := am (below_drew1 HB.out); clear BK0 HB; revert n0_ n1_; intro BK0 HB; refine start_ (n := 11) (S := fun w' => w'.cell? ⟨g0, 0, none⟩ = some (.int .i64 a0_0) ∧ w'.cell? ⟨g0, 1, none⟩ = some (.int .i64 a0_1) ∧ w'.cell? ⟨g0, 2, none⟩ = some (.slice A0_2 l0_2.length c0_2)) (ds := []) (bA 11 0) (by kernel_rfl) rfl rfl ⟨cz BK0 0, cz BK0 1, cz BK0 2⟩ (fun hHeld => ?_); refine with_tabW impl_Peeled_place.tab1 impl_Peeled_place.bits1 (fun HT_ HW_ => ?_); generalize w.drew = w7 at BK0 HB hHeld ⊢; refine pZ 0 (some 6) (bA 11 1) HT_.out ?_; refine pZ 1 (some 7) (bA 11 3) HT_.out ?_; refine pZ 2 (some 8) (bA 11 7) HT_.out ?_; refine pZ 4 (some 10) (bA 11 23) HT_.out ?_; refine pZ 5 (some 11) (bA 11 55) HT_.out ?_; refine pZ 6 (some 12) (bA 11 119) HT_.out ?_; refine pZ 7 (some 13) (bA 11 247) HT_.out ?_; refine tZ3 3 (some 9) (bA 11 255) HT_.out HW_.out hHeld ?_; refine tZ3 8 (some 14) (bA 11 511) HT_.out HW_.out hHeld ?_; refine oZ 9 (some 15) (bA 11 1023) HT_.out (fun K hK => ?_); refine gZ Tryz.func75 #[.int .i64 a0_0, .string a1, .int .i64 a0_1] ?_
   with_reducible refine (impl_threePlaces.calls k a0_0 a1 a0_1 t636 _ A3.out).mono ?_
   rintro e w8 ⟨v637, rfl, ho0, hb⟩; refine ⟨_, rfl, ?_⟩; have n0_ := Rm ho0 HB; have n1_ := Kb BK0 hb; have n2_ := Bc HB hb; clear BK0 HB; revert n0_ n1_ n2_; intro HO638 BK0 HB
   (try clear hb)
   (try clear hb2)
   (try clear hk)
   (try clear hi)
   (try clear ho0)
   refine hK.out _ _ ⟨cz BK0 0, cz BK0 1, cz BK0 2⟩ (fun hHeld => ?_); clear hK K; refine norm_ (a' := ?_) ?_ ?_; rotate_left; show Act.put _ (some 15) _ = _; simp only [aP, i64_w, i32_w]; rfl; refine pZ 10 (some 5) (bA 11 2047) HT_.out ?_; refine done_ (done_of HT_.out (by kernel_rfl)) ?_; obtain ⟨hcz9_0, hcz9_1, hcz9_2, hfz9_0, hfz9_1, hfz9_2⟩ := cf3 (w := w8) BK0; obtain ⟨Ao10, co10, eo10⟩ := Kd.R_slice HO638.out; subst eo10
   try go_wp2_with (first | ((with_reducible refine gate_callee (f := 30) rfl ?_); refine gL (some 22) Tryz.func30 #[.slice A0_2 l0_2.length c0_2, .slice Ao10 t636.length co10] ?_; (with_reducible refine (impl_led.calls _ _ l0_2 _ _ t636 t639 _ ?side1 ?side2 ?side3 ?side4 A4.out).mono ?_); (case side1 => exact Cz (Kd.C_below HR0_2.out HB.out)); (case side2 => exact HC0_2.out); (case side3 => exact Cz ((Kd.R_reads' HO638.out).2.2)); (case side4 => exact (Kd.R_reads' HO638.out).2.1); rintro e w' ⟨rfl, ⟨nd, rfl⟩⟩; refine ⟨_, rfl, ?_⟩; obtain ⟨ad640, e640, hx640_0⟩ := Kd.at_int (Kd.R_reads' HO638.out).2.2 t639 dT dT; cases e640; have p640 := eT (0 ≤ (t639 : Int)); have q640 := eT (t639 < (t636.length : Int))))
   go_ret
   exact ⟨eZ, Bq⟩
  ·rw [if_neg c6] at H
   exact absurd H (by simp)
 ·rw [if_neg c5] at H
  exact absurd H (by simp)

def impl_Peeled_used.l0 : Nat → Int → List Int → Int → Int → Option (Int)
 | 0, _, _, _, _ => none
 | k + 1, x5, x13, x14, x15 => if x15 < x14 then (if 0 ≤ x15 then (if x15 < (x13.length : Int) then (if (rd x13 x15) = 3 then (impl_Peeled_used.l0 k x5 x13 x14 (wrap64 (x15 + 1))) else (impl_Peeled_used.l0 k (wrap64 (x5 + 1)) x13 x14 (wrap64 (x15 + 1)))) else (none)) else (none)) else (some x5)
def impl_Peeled_used.f (k : Nat) (a0_0 : Int) (a0_1 : Int) (l0_2 : List Int) (a1 : Int) : Option (Int) := if 0 ≤ a1 then (if a1 ≤ (l0_2.length : Int) then (impl_Peeled_used.l0 k 0 (l0_2.take (a1 : Int).toNat) ((l0_2.take (a1 : Int).toNat).length : Int) 0) else (none)) else (none)
theorem impl_Peeled_used.calls (k : Nat) (g0 : Nat) (a0_0 : Int) (a0_1 : Int) (A0_2 : Option Addr) (c0_2 : Nat) (l0_2 : List Int) (a1 : Int) (r : Int) (w : World) (hb0 : w.heap[g0]? = some (.cells #[.int .i64 a0_0, .int .i64 a0_1, .slice A0_2 l0_2.length c0_2] 29 (0, 0))) (hr0_2 : Kd.C (Kd.int .i64) w A0_2 l0_2.length l0_2) (hc0_2 : l0_2.length ≤ c0_2) (h : impl_Peeled_used.f k a0_0 a0_1 l0_2 a1 = some r) :
  Calls Tryz.prog 85 #[.pointer (some ⟨g0, 0, none⟩), .int .i64 a1] w fun e w' => e = .returned (.int .i64 r) ∧ Drawn0 w w' := by
 have HR0_2 := am hr0_2; have HC0_2 := am hc0_2; clear hr0_2 hc0_2; have BK0 := am hb0; clear hb0; have H : (if 0 ≤ a1 then (if a1 ≤ (l0_2.length : Int) then (impl_Peeled_used.l0 k 0 (l0_2.take (a1 : Int).toNat) ((l0_2.take (a1 : Int).toNat).length : Int) 0) else (none)) else (none)) = some r := h; clear h
 by_cases c3 : 0 ≤ a1
 ·rw [if_pos c3] at H
  have c3b0 := eq_true c3; have c3b1 : decide (0 ≤ a1) = true := decide_eq_true c3; clear c3
  by_cases c4 : a1 ≤ (l0_2.length : Int)
  ·rw [if_pos c4] at H
   have c4b0 := eq_true c4; have c4b1 : decide (a1 ≤ (l0_2.length : Int)) = true := decide_eq_true c4; clear c4; have H' := am H; clear H; obtain ⟨hcz5_0, hcz5_1, hcz5_2, hfz5_0, hfz5_1, hfz5_2⟩ := cf3 (w := w) BK0; obtain ⟨i06, hi06, _, hsz6, _⟩ := info_parts info3; obtain ⟨hcut6, hA6, hC6⟩ := print_take_of (P := Tryz.prog) (Value.int .i64) 0 27 3 .i64 Tryz.underlying27 hi06 hsz6 A0_2 c0_2 l0_2 a1 (dT) (dT) HC0_2.out; have HR641 := am (Kd.C_of_reads (h1 := fun _ => rfl) (hA6 _ (Kd.reads_of_C HR0_2.out))); have HC641 := am hC6; clear hA6 hC6 hi06 hsz6; obtain ⟨tk6, hk6⟩ : ∃ L_, l0_2.take a1.toNat = L_ := ⟨_, rfl⟩; (try rw [hk6] at H'); (try rw [hk6] at H); rw [hk6] at hcut6 HR641 HC641; clear hk6
   go_enter Tryz.func85, Tryz.ntmps85
   go_wp2
   go_loopg [5, 15] k (fun kq v5 v15 w' => ∃ (x5_1 : Int) (x15_1 : Int), v5 = .int .i64 x5_1 ∧ v15 = .int .i64 x15_1 ∧ Aside0 (impl_Peeled_used.l0 kq x5_1 tk6 (tk6.length : Int) x15_1 = some r) ∧ Aside0 (kq ≤ k) ∧ Aside0 (w'.heap[g0]? = some (.cells #[.int .i64 a0_0, .int .i64 a0_1, (.slice A0_2 l0_2.length c0_2)] 29 (0, 0))) ∧ Drawn0 w w')
   case atStart => exact ⟨(0), (0), wZ, wZ, H', ⟨Nat.le_refl _⟩, ⟨Kz BK0.out⟩, by repeat (first | exact Drawn0.refl _ | apply Drawn0.step)⟩
   case round =>
    clear H'
    try clear p2
    try clear c3
    try clear c3b0
    try clear c3b1
    try clear c4
    try clear c4b0
    try clear c4b1
    try clear hcz5_0
    try clear hcz5_1
    try clear hcz5_2
    try clear hfz5_0
    try clear hfz5_1
    try clear hfz5_2
    obtain ⟨x5_1, x15_1, rfl, rfl, HA, HK1, BK0, ⟨m1, rfl⟩⟩ := hrel; cases gk with
    | zero => exact absurd HA.out (by simp [impl_Peeled_used.l0])
    | succ k1 =>
     have H := HA.out; clear HA
     simp only [impl_Peeled_used.l0] at H
     by_cases c7 : x15_1 < (tk6.length : Int)
     ·rw [if_pos c7] at H
      have c7b0 : decide (x15_1 < (tk6.length : Int)) = true := decide_eq_true c7; clear c7
      by_cases c8 : 0 ≤ x15_1
      ·rw [if_pos c8] at H
       have c8b0 : decide (0 ≤ x15_1) = true := decide_eq_true c8; clear c8
       by_cases c9 : x15_1 < (tk6.length : Int)
       ·rw [if_pos c9] at H
        have c9b0 : decide (x15_1 < (tk6.length : Int)) = true := decide_eq_true c9; clear c9
        by_cases c10 : (rd tk6 x15_1) = 3
        ·rw [if_pos c10] at H
         have c10b0 : ((rd tk6 x15_1) == 3) = true := beq_iff_eq.mpr c10; have c10b1 : ((rd tk6 x15_1) != 3) = false := bne_eq_false_iff_eq.mpr c10; clear c10; have H' := am H; clear H; obtain ⟨ad642, e642, hx642_0⟩ := Kd.at_int HR641.out x15_1 dT dT; cases e642; have p642 := eT (0 ≤ (x15_1 : Int)); have q642 := eT (x15_1 < (tk6.length : Int))
         go_wp2
         go_roundg k1
         case measure => have := HK1.out; omega
         case rel => exact ⟨(x5_1), (wrap64 (x15_1 + 1)), wZ, wZ, H', ⟨by have := HK1.out; omega⟩, ⟨Kz BK0.out⟩, by repeat (first | exact Drawn0.refl _ | apply Drawn0.step)⟩
        ·rw [if_neg c10] at H
         have c10b0 : ((rd tk6 x15_1) == 3) = false := beq_eq_false_iff_ne.mpr c10; have c10b1 : ((rd tk6 x15_1) != 3) = true := bne_iff_ne.mpr c10; have H' := am H; clear H; obtain ⟨ad642, e642, hx642_0⟩ := Kd.at_int HR641.out x15_1 dT dT; cases e642; have p642 := eT (0 ≤ (x15_1 : Int)); have q642 := eT (x15_1 < (tk6.length : Int))
         go_wp2
         go_roundg k1
         case measure => have := HK1.out; omega
         case rel => exact ⟨(wrap64 (x5_1 + 1)), (wrap64 (x15_1 + 1)), wZ, wZ, H', ⟨by have := HK1.out; omega⟩, ⟨Kz BK0.out⟩, by repeat (first | exact Drawn0.refl _ | apply Drawn0.step)⟩
       ·rw [if_neg c9] at H
        exact absurd H (by simp)
      ·rw [if_neg c8] at H
       exact absurd H (by simp)
     ·rw [if_neg c7] at H
      have c7b0 : decide (x15_1 < (tk6.length : Int)) = false := decide_eq_false c7; clear c7; obtain rfl := Option.some.inj H
      go_wp2
      go_ret
      exact ⟨by first | rfl | (simp; done) | (simp [*]; done), by repeat (first | exact Drawn0.refl _ | apply Drawn0.step)⟩
  ·rw [if_neg c4] at H
   exact absurd H (by simp)
 ·rw [if_neg c3] at H
  exact absurd H (by simp)

def impl_Peeled_index.f (k : Nat) (a0_0 : Int) (a0_1 : Int) (l0_2 : List Int) (a1 : ByteArray) : Option (Int × Bool) := (impl_Peeled_place.f k a0_0 a0_1 l0_2 a1).bind fun t643 => (if 0 ≤ t643 then (if t643 < (l0_2.length : Int) then (if (rd l0_2 t643) = 3 then (some (0, false)) else ((impl_Peeled_used.f k a0_0 a0_1 l0_2 t643).bind fun t645 => (some (t645, true)))) else (none)) else (none))
theorem impl_Peeled_index.calls (k : Nat) (g0 : Nat) (a0_0 : Int) (a0_1 : Int) (A0_2 : Option Addr) (c0_2 : Nat) (l0_2 : List Int) (a1 : ByteArray) (r1 : Int) (r2 : Bool) (w : World) (hb0 : w.heap[g0]? = some (.cells #[.int .i64 a0_0, .int .i64 a0_1, .slice A0_2 l0_2.length c0_2] 29 (0, 0))) (hr0_2 : Kd.C (Kd.int .i64) w A0_2 l0_2.length l0_2) (hc0_2 : l0_2.length ≤ c0_2) (h : impl_Peeled_index.f k a0_0 a0_1 l0_2 a1 = some (r1, r2)) :
  Calls Tryz.prog 50 #[.pointer (some ⟨g0, 0, none⟩), .string a1] w fun e w' => e = .returned (.tuple #[.int .i64 r1, .bool r2]) ∧ Below w.heap.size w w' := by
 have HR0_2 := am hr0_2; have HC0_2 := am hc0_2; clear hr0_2 hc0_2; have BK0 := am hb0; clear hb0; have HB := am (Below.refl w.heap.size w); have H : ((impl_Peeled_place.f k a0_0 a0_1 l0_2 a1).bind fun t643 => (if 0 ≤ t643 then (if t643 < (l0_2.length : Int) then (if (rd l0_2 t643) = 3 then (some (0, false)) else ((impl_Peeled_used.f k a0_0 a0_1 l0_2 t643).bind fun t645 => (some (t645, true)))) else (none)) else (none))) = some (r1, r2) := h; clear h; replace H := Option.bind_eq_some_iff.mp H; obtain ⟨t643, A30, H⟩ := H; (try dsimp -simprocs only at H); have A3 := am A30; clear A30
 by_cases c4 : 0 ≤ t643
 ·rw [if_pos c4] at H
  have c4b0 : decide (0 ≤ t643) = true := decide_eq_true c4; clear c4
  by_cases c5 : t643 < (l0_2.length : Int)
  ·rw [if_pos c5] at H
   have c5b0 : decide (t643 < (l0_2.length : Int)) = true := decide_eq_true c5; clear c5
   by_cases c6 : (rd l0_2 t643) = 3
   ·rw [if_pos c6] at H
    have c6b0 : ((rd l0_2 t643) == 3) = true := beq_iff_eq.mpr c6; have c6b1 : ((rd l0_2 t643) != 3) = false := bne_eq_false_iff_eq.mpr c6; clear c6
    simp only [Option.some.injEq, Prod.mk.injEq] at H
    obtain ⟨rfl, rfl⟩ := H
    go_enter Tryz.func50, Tryz.ntmps50
    go_wp2_with (first | ((with_reducible refine gate_callee (f := 49) rfl ?_); refine gL (some 9) Tryz.func49 #[.pointer (some ⟨g0, 0, none⟩), .string a1] ?_; (with_reducible refine (impl_Peeled_place.calls k g0 a0_0 a0_1 A0_2 c0_2 l0_2 a1 t643 _ ?side1 ?side2 ?side3 A3.out).mono ?_); (case side1 => exact Kz BK0.out); (case side2 => exact Cz HR0_2.out); (case side3 => exact HC0_2.out); rintro e w7 ⟨rfl, hb⟩; refine ⟨_, rfl, ?_⟩; have n0_ := Kb BK0 hb; have n1_ := Bc HB hb; clear BK0 HB; revert n0_ n1_; intro BK0 HB; (try clear hb); (try clear hb2); (try clear hk); (try clear hi); obtain ⟨hcz8_0, hcz8_1, hcz8_2, hfz8_0, hfz8_1, hfz8_2⟩ := cf3 (w := w7) BK0; have p644 : 0 ≤ (t643 : Int) := dT; have q644 : t643 < (l0_2.length : Int) := dT; obtain ⟨ad644, e644, hx644_0⟩ := Kd.at_int HR0_2.out t643 p644 q644; cases e644; replace hx644_0 := (HB.out.cell (World.block_lt_of_cell? w _ hx644_0)).trans hx644_0; replace p644 := eq_true p644; replace q644 := eq_true q644))
    go_ret2
    exact ⟨eZ, Bq⟩
   ·rw [if_neg c6] at H
    have c6b0 : ((rd l0_2 t643) == 3) = false := beq_eq_false_iff_ne.mpr c6; have c6b1 : ((rd l0_2 t643) != 3) = true := bne_iff_ne.mpr c6; replace H := Option.bind_eq_some_iff.mp H; obtain ⟨t645, A90, H⟩ := H; (try dsimp -simprocs only at H); have A9 := am A90; clear A90
    simp only [Option.some.injEq, Prod.mk.injEq] at H
    obtain ⟨rfl, rfl⟩ := H
    go_enter Tryz.func50, Tryz.ntmps50
    go_wp2_with (first | ((with_reducible refine gate_callee (f := 49) rfl ?_); refine gL (some 9) Tryz.func49 #[.pointer (some ⟨g0, 0, none⟩), .string a1] ?_; (with_reducible refine (impl_Peeled_place.calls k g0 a0_0 a0_1 A0_2 c0_2 l0_2 a1 t643 _ ?side1 ?side2 ?side3 A3.out).mono ?_); (case side1 => exact Kz BK0.out); (case side2 => exact Cz HR0_2.out); (case side3 => exact HC0_2.out); rintro e w10 ⟨rfl, hb⟩; refine ⟨_, rfl, ?_⟩; have n0_ := Kb BK0 hb; have n1_ := Bc HB hb; clear BK0 HB; revert n0_ n1_; intro BK0 HB; (try clear hb); (try clear hb2); (try clear hk); (try clear hi); obtain ⟨hcz11_0, hcz11_1, hcz11_2, hfz11_0, hfz11_1, hfz11_2⟩ := cf3 (w := w10) BK0; have p644 : 0 ≤ (t643 : Int) := dT; have q644 : t643 < (l0_2.length : Int) := dT; obtain ⟨ad644, e644, hx644_0⟩ := Kd.at_int HR0_2.out t643 p644 q644; cases e644; replace hx644_0 := (HB.out.cell (World.block_lt_of_cell? w _ hx644_0)).trans hx644_0; replace p644 := eq_true p644; replace q644 := eq_true q644) | ((with_reducible refine gate_callee (f := 85) rfl ?_); refine gL (some 20) Tryz.func85 #[.pointer (some ⟨g0, 0, none⟩), .int .i64 t643] ?_; (with_reducible refine (impl_Peeled_used.calls k g0 a0_0 a0_1 (some ad644) c0_2 l0_2 t643 t645 _ ?side1 ?side2 ?side3 A9.out).mono ?_); (case side1 => exact Kz BK0.out); (case side2 => exact Cz (Kd.C_below HR0_2.out HB.out)); (case side3 => exact HC0_2.out); rintro e w' ⟨rfl, ⟨nd, rfl⟩⟩; refine ⟨_, rfl, ?_⟩))
    go_ret2
    exact ⟨eZ, Bq⟩
  ·rw [if_neg c5] at H
   exact absurd H (by simp)
 ·rw [if_neg c4] at H
  exact absurd H (by simp)

-- BY HAND: function 84 (impl_distinct)

def impl_Peeled_isFor.l0 : Nat → List ByteArray → List Int → List ByteArray → Int → Int → Int → Int → List Int → Option (Bool)
 | 0, _, _, _, _, _, _, _, _ => none
 | k + 1, x1, x5, x11, x12, x13, x1000, x1001, x1002 => if x13 < x12 then (if 0 ≤ x13 then (if x13 < (x11.length : Int) then ((impl_Peeled_index.f k x1000 x1001 x1002 (rdOf ByteArray.empty x11 x13)).bind fun bt650 => (if bt650.2 = true then (if x5.length < 17592186044416 then (impl_Peeled_isFor.l0 k x1 (x5 ++ [bt650.1]) x11 x12 (wrap64 (x13 + 1)) x1000 x1001 x1002) else (none)) else (some false))) else (none)) else (none)) else ((impl_distinct.f x5).bind fun t655 => (if t655 = true then ((impl_Peeled_used.f k x1000 x1001 x1002 (x1002.length : Int)).bind fun t656 => (some (t656 == (x1.length : Int)))) else (some false)))
def impl_Peeled_isFor.f (k : Nat) (a0_0 : Int) (a0_1 : Int) (l0_2 : List Int) (l1 : List ByteArray) : Option (Bool) := impl_Peeled_isFor.l0 k l1 (([] : List Int)) l1 (l1.length : Int) 0 a0_0 a0_1 l0_2
theorem impl_Peeled_isFor.calls (k : Nat) (g0 : Nat) (a0_0 : Int) (a0_1 : Int) (A0_2 : Option Addr) (c0_2 : Nat) (l0_2 : List Int) (A1 : Option Addr) (c1 : Nat) (l1 : List ByteArray) (r : Bool) (w : World) (hb0 : w.heap[g0]? = some (.cells #[.int .i64 a0_0, .int .i64 a0_1, .slice A0_2 l0_2.length c0_2] 29 (0, 0))) (hr0_2 : Kd.C (Kd.int .i64) w A0_2 l0_2.length l0_2) (hc0_2 : l0_2.length ≤ c0_2) (hr1 : Kd.C Kd.string w A1 l1.length l1) (hc1 : l1.length ≤ c1) (h : impl_Peeled_isFor.f k a0_0 a0_1 l0_2 l1 = some r) :
  Calls Tryz.prog 47 #[.pointer (some ⟨g0, 0, none⟩), .slice A1 l1.length c1] w fun e w' => e = .returned (.bool r) ∧ Below w.heap.size w w' := by
 have HR0_2 := am hr0_2; have HC0_2 := am hc0_2; clear hr0_2 hc0_2; have HR1 := am hr1; have HC1 := am hc1; clear hr1 hc1; have BK0 := am hb0; clear hb0; have HB := am (Below.refl w.heap.size w); have H : (impl_Peeled_isFor.l0 k l1 (([] : List Int)) l1 (l1.length : Int) 0 a0_0 a0_1 l0_2) = some r := h; clear h; obtain ⟨y646, hy646⟩ : ∃ y_ : List Int, y_ = (([] : List Int)) := ⟨_, rfl⟩
 replace H : (impl_Peeled_isFor.l0 k l1 y646 l1 (l1.length : Int) 0 a0_0 a0_1 l0_2) = some r := by first | (rw [hy646]; with_reducible exact H) | (have H2_ := (Option.bind_some _ _).symm.trans H; rw [hy646]; with_reducible exact H2_) | (have H2_ := (Option.bind_some _ _).symm.trans H; with_reducible exact H2_) | with_reducible exact H | (rw [hy646]; exact H) | exact H
 have Ny646 := am hy646; clear hy646; have H' := am H; clear H
 go_enter Tryz.func47, Tryz.ntmps47
 go_wp2_with (first | ((with_reducible refine gate_dst (N := 10) rfl ?_); (try (refine gate_guard (by rfl) ?_; dsimp only)); refine Kd.R_lit (Kd.int .i64) _ 3 ?hg (N := 10) ?hd (xs := ([] : List Int)) (inner := []) (ok := fun _ => True) (okp := fun _ => True) ?hr ?hp (fun _ hk => hk) trivial (Below.refl _ _) (Nat.le_refl _) (by simp) ?_; (case hd => rfl); (case hg => rfl); (case hr => first | (go_simp; done) | (go_simp; rfl)); (case hp => exact (Reps.none _ _)); intro v647 w3 ho4 hb hg_ hnew_; clear hg_ hnew_; (first | rw [← Ny646.out] at ho4 | (simp only [Int.reduceToNat] at ho4; rw [← Ny646.out] at ho4)); have n0_ := Rm ho4 HB; have n1_ := Kb BK0 hb; have n2_ := Bc HB hb; clear BK0 HB; revert n0_ n1_ n2_; intro HO648 BK0 HB; clear hb ho4))
 (try simp only [aP])
 go_loopg [5, 13] k (fun kq v5 v13 w' => ∃ (x5_1 : List Int) (x13_1 : Int), v13 = .int .i64 x13_1 ∧ Aside0 (impl_Peeled_isFor.l0 kq l1 x5_1 l1 (l1.length : Int) x13_1 a0_0 a0_1 l0_2 = some r) ∧ Aside0 (kq ≤ k) ∧ Aside0 (Kd.R (Kd.int .i64) 3 w' w.heap.size (fun _ => True) v5 x5_1) ∧ Aside0 (w'.heap[g0]? = some (.cells #[.int .i64 a0_0, .int .i64 a0_1, (.slice A0_2 l0_2.length c0_2)] 29 (0, 0))) ∧ Aside0 (Below w.heap.size w w'))
 case atStart => exact ⟨(y646), (0), wZ, H', ⟨Nat.le_refl _⟩, ⟨Rz HO648.out⟩, ⟨Kz BK0.out⟩, ⟨Bq⟩⟩
 case round =>
  clear H'
  try clear c1
  try clear p2
  try clear c4
  obtain ⟨x5_1, x13_1, rfl, HA, HK1, HO_5, BK0, HB⟩ := hrel; cases gk with
  | zero => exact absurd HA.out (by simp [impl_Peeled_isFor.l0])
  | succ k1 =>
   have H := HA.out; clear HA
   simp only [impl_Peeled_isFor.l0] at H
   by_cases c5 : x13_1 < (l1.length : Int)
   ·rw [if_pos c5] at H
    have c5b0 : decide (x13_1 < (l1.length : Int)) = true := decide_eq_true c5; clear c5
    by_cases c6 : 0 ≤ x13_1
    ·rw [if_pos c6] at H
     have c6b0 : decide (0 ≤ x13_1) = true := decide_eq_true c6; clear c6
     by_cases c7 : x13_1 < (l1.length : Int)
     ·rw [if_pos c7] at H
      have c7b0 : decide (x13_1 < (l1.length : Int)) = true := decide_eq_true c7; clear c7; replace H := Option.bind_eq_some_iff.mp H; obtain ⟨⟨t650, t651⟩, A80, H⟩ := H; (try dsimp -simprocs only at H); have A8 := am A80; clear A80
      by_cases c9 : t651 = true
      ·subst c9
       rw [if_pos rfl] at H
       by_cases c10 : x5_1.length < 17592186044416
       ·rw [if_pos c10] at H
        have LMc10 := am c10; clear c10; obtain ⟨y652, hy652⟩ : ∃ y_ : List Int, y_ = (x5_1 ++ [t650]) := ⟨_, rfl⟩
        replace H : (impl_Peeled_isFor.l0 k1 l1 y652 l1 (l1.length : Int) (wrap64 (x13_1 + 1)) a0_0 a0_1 l0_2) = some r := by first | (rw [hy652]; with_reducible exact H) | (have H2_ := (Option.bind_some _ _).symm.trans H; rw [hy652]; with_reducible exact H2_) | (have H2_ := (Option.bind_some _ _).symm.trans H; with_reducible exact H2_) | with_reducible exact H | (rw [hy652]; exact H) | exact H
        have Ny652 := am hy652; clear hy652; have H' := am H; clear H; have p649 : 0 ≤ (x13_1 : Int) := dT; have q649 : x13_1 < (l1.length : Int) := dT; obtain ⟨ad649, e649, hx649_0⟩ := Kd.at_string HR1.out x13_1 p649 q649; cases e649; replace hx649_0 := (HB.out.cell (World.block_lt_of_cell? w _ hx649_0)).trans hx649_0; replace p649 := eq_true p649; replace q649 := eq_true q649
        go_wp2_with (first | ((with_reducible refine gate_callee (f := 50) rfl ?_); refine gL (some 20) Tryz.func50 #[.pointer (some ⟨g0, 0, none⟩), .string (rdOf ByteArray.empty l1 x13_1)] ?_; (with_reducible refine (impl_Peeled_index.calls k1 g0 a0_0 a0_1 A0_2 c0_2 l0_2 (rdOf ByteArray.empty l1 x13_1) t650 true _ ?side1 ?side2 ?side3 A8.out).mono ?_); (case side1 => exact Kz BK0.out); (case side2 => exact Cz (Kd.C_below HR0_2.out HB.out)); (case side3 => exact HC0_2.out); rintro e w11 ⟨rfl, hb⟩; refine ⟨_, rfl, ?_⟩; have n0_ := Rb HO_5 hb; have n1_ := Kb BK0 hb; have n2_ := Bc HB hb; clear HO_5 BK0 HB; revert n0_ n1_ n2_; intro HO_5 BK0 HB; (try clear hb); (try clear hb2); (try clear hk); (try clear hi)) | ((with_reducible refine gate_builtin (b := .append) (xs := #[.tmp 25, .tmp 27]) rfl ?_); (try (refine gate_guard (by rfl) ?_; dsimp only)); at_builtin; refine Kd.R_append (Kd.int .i64) (w0 := w) w.heap.size rfl (.tmp 25) (.tmp 27) 27 3 (.int .i64 0) 8 rfl Tryz.underlying27 info3 rfl (by decide) (by omega) u5 x5_1 t650 [.int .i64 t650] (fun _ => True) (fun _ => False) rfl rfl ?aP (fun _ hk => hk.elim) ?aF ?aO ?aB ?aS ?aL ?_; (case aP => exact rfl); (case aB => exact (Bq)); (case aF => exact (fun _ _ => trivial)); (case aO => exact (Rz HO_5.out)); (case aS => exact (below_size (w := w) (Bq))); (case aL => have := LMc10.out; omega); intro v653 w12 ho hb hg hat; rw [← Ny652.out] at ho; have n0_ := am (blk_grown (g := g0) (o := .cells #[.int .i64 a0_0, .int .i64 a0_1, .slice A0_2 l0_2.length c0_2] 29 (0, 0)) (Kz BK0.out) hg (Kd.R_ne HO_5.out BK0.out (by decide))); have n1_ := am (hb); have n2_ := am (ho); clear BK0 HB HO_5; revert n0_ n1_ n2_; intro BK0 HB HO654; clear ho hb hg hat))
        go_roundg k1
        case measure => have := HK1.out; omega
        case rel => exact ⟨(y652), (wrap64 (x13_1 + 1)), wZ, H', ⟨by have := HK1.out; omega⟩, ⟨Rz HO654.out⟩, ⟨Kz BK0.out⟩, ⟨Bq⟩⟩
       ·rw [if_neg c10] at H
        exact absurd H (by simp)
      ·replace c9 := Bool.eq_false_iff.mpr c9
       subst c9
       rw [if_neg (show ¬ (false = true) by decide)] at H; obtain rfl := Option.some.inj H; have p649 : 0 ≤ (x13_1 : Int) := dT; have q649 : x13_1 < (l1.length : Int) := dT; obtain ⟨ad649, e649, hx649_0⟩ := Kd.at_string HR1.out x13_1 p649 q649; cases e649; replace hx649_0 := (HB.out.cell (World.block_lt_of_cell? w _ hx649_0)).trans hx649_0; replace p649 := eq_true p649; replace q649 := eq_true q649
       go_wp2_with (first | ((with_reducible refine gate_callee (f := 50) rfl ?_); refine gL (some 20) Tryz.func50 #[.pointer (some ⟨g0, 0, none⟩), .string (rdOf ByteArray.empty l1 x13_1)] ?_; (with_reducible refine (impl_Peeled_index.calls k1 g0 a0_0 a0_1 A0_2 c0_2 l0_2 (rdOf ByteArray.empty l1 x13_1) t650 false _ ?side1 ?side2 ?side3 A8.out).mono ?_); (case side1 => exact Kz BK0.out); (case side2 => exact Cz (Kd.C_below HR0_2.out HB.out)); (case side3 => exact HC0_2.out); rintro e w13 ⟨rfl, hb⟩; refine ⟨_, rfl, ?_⟩; have n0_ := Rb HO_5 hb; have n1_ := Kb BK0 hb; have n2_ := Bc HB hb; clear HO_5 BK0 HB; revert n0_ n1_ n2_; intro HO_5 BK0 HB; (try clear hb); (try clear hb2); (try clear hk); (try clear hi)))
       go_ret
       exact ⟨eZ, Bq⟩
     ·rw [if_neg c7] at H
      exact absurd H (by simp)
    ·rw [if_neg c6] at H
     exact absurd H (by simp)
   ·rw [if_neg c5] at H
    have c5b0 : decide (x13_1 < (l1.length : Int)) = false := decide_eq_false c5; clear c5; replace H := Option.bind_eq_some_iff.mp H; obtain ⟨t655, A140, H⟩ := H; (try dsimp -simprocs only at H); have A14 := am A140; clear A140
    by_cases c15 : t655 = true
    ·subst c15
     rw [if_pos rfl] at H; replace H := Option.bind_eq_some_iff.mp H; obtain ⟨t656, A160, H⟩ := H; (try dsimp -simprocs only at H); have A16 := am A160; clear A160; obtain rfl := Option.some.inj H; obtain ⟨Ao17, co17, eo17⟩ := Kd.R_slice HO_5.out; subst eo17
     go_wp2_with (first | ((with_reducible refine gate_callee (f := 84) rfl ?_); refine gL (some 31) Tryz.func84 #[.slice Ao17 x5_1.length co17] ?_; (with_reducible refine (impl_distinct.calls _ _ x5_1 true _ ?side1 ?side2 A14.out).mono ?_); (case side1 => exact Cz ((Kd.R_reads' HO_5.out).2.2)); (case side2 => exact (Kd.R_reads' HO_5.out).2.1); rintro e w18 ⟨rfl, hb⟩; refine ⟨_, rfl, ?_⟩; have n0_ := Rb HO_5 hb; have n1_ := Kb BK0 hb; have n2_ := Bc HB hb; clear HO_5 BK0 HB; revert n0_ n1_ n2_; intro HO_5 BK0 HB; (try clear hb); (try clear hb2); (try clear hk); (try clear hi); obtain ⟨hcz19_0, hcz19_1, hcz19_2, hfz19_0, hfz19_1, hfz19_2⟩ := cf3 (w := w18) BK0) | (go_at_call 85; (with_reducible refine (impl_Peeled_used.calls k1 g0 a0_0 a0_1 A0_2 c0_2 l0_2 (l0_2.length : Int) t656 _ ?side1 ?side2 ?side3 A16.out).mono ?_); (case side1 => exact Kz BK0.out); (case side2 => exact Cz (Kd.C_below HR0_2.out HB.out)); (case side3 => exact HC0_2.out); rintro e w' ⟨rfl, ⟨nd, rfl⟩⟩))
     go_ret
     exact ⟨eZ, Bq⟩
    ·replace c15 := Bool.eq_false_iff.mpr c15
     subst c15
     rw [if_neg (show ¬ (false = true) by decide)] at H; obtain rfl := Option.some.inj H; obtain ⟨Ao20, co20, eo20⟩ := Kd.R_slice HO_5.out; subst eo20
     go_wp2_with (first | ((with_reducible refine gate_callee (f := 84) rfl ?_); refine gL (some 31) Tryz.func84 #[.slice Ao20 x5_1.length co20] ?_; (with_reducible refine (impl_distinct.calls _ _ x5_1 false _ ?side1 ?side2 A14.out).mono ?_); (case side1 => exact Cz ((Kd.R_reads' HO_5.out).2.2)); (case side2 => exact (Kd.R_reads' HO_5.out).2.1); rintro e w21 ⟨rfl, hb⟩; refine ⟨_, rfl, ?_⟩; have n0_ := Rb HO_5 hb; have n1_ := Kb BK0 hb; have n2_ := Bc HB hb; clear HO_5 BK0 HB; revert n0_ n1_ n2_; intro HO_5 BK0 HB; (try clear hb); (try clear hb2); (try clear hk); (try clear hi)))
     go_ret
     exact ⟨eZ, Bq⟩

def impl_IsPeeledFor.f (k : Nat) (a0_0 : Int) (a0_1 : Int) (l0_2 : List Int) (l1 : List ByteArray) : Option (Bool × Bool) := (impl_IsPeeled.f k a0_0 a0_1 l0_2).bind fun t658 => (if t658 = true then ((impl_AreKeys.f k l1).bind fun t659 => (if t659 = true then ((impl_Peeled_isFor.f k a0_0 a0_1 l0_2 l1).bind fun t660 => (some (t660, true))) else (some (false, false)))) else (some (false, false)))
theorem impl_IsPeeledFor.calls (k : Nat) (a0_0 : Int) (a0_1 : Int) (A0_2 : Option Addr) (c0_2 : Nat) (l0_2 : List Int) (A1 : Option Addr) (c1 : Nat) (l1 : List ByteArray) (r1 : Bool) (r2 : Bool) (w : World) (hr0_2 : Kd.C (Kd.int .i64) w A0_2 l0_2.length l0_2) (hc0_2 : l0_2.length ≤ c0_2) (hr1 : Kd.C Kd.string w A1 l1.length l1) (hc1 : l1.length ≤ c1) (h : impl_IsPeeledFor.f k a0_0 a0_1 l0_2 l1 = some (r1, r2)) :
  Calls Tryz.prog 12 #[.agg #[.int .i64 a0_0, .int .i64 a0_1, .slice A0_2 l0_2.length c0_2], .slice A1 l1.length c1] w fun e w' => e = .returned (.tuple #[.bool r1, .bool r2]) ∧ Below w.heap.size w w' := by
 have hu29 := Tryz.underlying29; have HR0_2 := am hr0_2; have HC0_2 := am hc0_2; clear hr0_2 hc0_2; have HR1 := am hr1; have HC1 := am hc1; clear hr1 hc1; have HB := am (Below.refl w.heap.size w); have H : ((impl_IsPeeled.f k a0_0 a0_1 l0_2).bind fun t658 => (if t658 = true then ((impl_AreKeys.f k l1).bind fun t659 => (if t659 = true then ((impl_Peeled_isFor.f k a0_0 a0_1 l0_2 l1).bind fun t660 => (some (t660, true))) else (some (false, false)))) else (some (false, false)))) = some (r1, r2) := h; clear h; replace H := Option.bind_eq_some_iff.mp H; obtain ⟨t658, A30, H⟩ := H; (try dsimp -simprocs only at H); have A3 := am A30; clear A30
 by_cases c4 : t658 = true
 ·subst c4
  rw [if_pos rfl] at H; replace H := Option.bind_eq_some_iff.mp H; obtain ⟨t659, A50, H⟩ := H; (try dsimp -simprocs only at H); have A5 := am A50; clear A50
  by_cases c6 : t659 = true
  ·subst c6
   rw [if_pos rfl] at H; replace H := Option.bind_eq_some_iff.mp H; obtain ⟨t660, A70, H⟩ := H; (try dsimp -simprocs only at H); have A7 := am A70; clear A70
   simp only [Option.some.injEq, Prod.mk.injEq] at H
   obtain ⟨rfl, rfl⟩ := H
   go_enter Tryz.func12, Tryz.ntmps12
   go_wp2_with (first | ((with_reducible refine gate_dst (N := 2) rfl ?_); refine bE 2 #[.int .i64 a0_0, .int .i64 a0_1, .slice A0_2 l0_2.length c0_2] 29 ?_; intro gb657 hg w8 hbox hb; have n0_ := Bb HB hb; have n1_ := am (hbox); have n2_ := Gl HB hg; have n3_ := Gl HB hg; clear HB; revert n0_ n1_ n2_ n3_; intro HB BK657 GW657 GE657; clear hb hbox hg; obtain ⟨hcz9_0, hcz9_1, hcz9_2, hfz9_0, hfz9_1, hfz9_2⟩ := cf3 (w := w8) BK657) | ((with_reducible refine gate_callee (f := 43) rfl ?_); refine gL (some 7) Tryz.func43 #[.agg #[.int .i64 a0_0, .int .i64 a0_1, .slice A0_2 l0_2.length c0_2]] ?_; (with_reducible refine (impl_IsPeeled.calls k a0_0 a0_1 _ _ l0_2 true _ ?side1 ?side2 A3.out).mono ?_); (case side1 => exact Cz (Kd.C_below HR0_2.out HB.out)); (case side2 => exact HC0_2.out); rintro e w10 ⟨rfl, hb⟩; refine ⟨_, rfl, ?_⟩; have n0_ := Kb BK657 hb; have n1_ := Bc HB hb; clear BK657 HB; revert n0_ n1_; intro BK657 HB; (try clear hb); (try clear hb2); (try clear hk); (try clear hi)) | (go_at_call 39; (with_reducible refine (impl_AreKeys.calls k _ _ l1 true _ ?side1 ?side2 A5.out).mono ?_); (case side1 => exact Cz (Kd.C_below HR1.out HB.out)); (case side2 => exact HC1.out); rintro e w' ⟨rfl, ⟨nd, rfl⟩⟩) | ((with_reducible refine gate_callee (f := 47) rfl ?_); refine gL (some 15) Tryz.func47 #[.pointer (some ⟨gb657, 0, none⟩), .slice A1 l1.length c1] ?_; (with_reducible refine (impl_Peeled_isFor.calls k gb657 a0_0 a0_1 A0_2 c0_2 l0_2 _ _ l1 t660 _ ?side1 ?side2 ?side3 ?side4 ?side5 A7.out).mono ?_); (case side1 => exact Kz BK657.out); (case side2 => exact Cz (Kd.C_below HR0_2.out (Bq))); (case side3 => exact HC0_2.out); (case side4 => exact Cz (Kd.C_below HR1.out (Bq))); (case side5 => exact HC1.out); rintro e w11 ⟨rfl, hb⟩; refine ⟨_, rfl, ?_⟩; have n0_ := Kb BK657 hb; have n1_ := Bc HB hb; clear BK657 HB; revert n0_ n1_; intro BK657 HB; (try clear hb); (try clear hb2); (try clear hk); (try clear hi)))
   go_ret2
   exact ⟨eZ, Bq⟩
  ·replace c6 := Bool.eq_false_iff.mpr c6
   subst c6
   rw [if_neg (show ¬ (false = true) by decide)] at H
   simp only [Option.some.injEq, Prod.mk.injEq] at H
   obtain ⟨rfl, rfl⟩ := H
   go_enter Tryz.func12, Tryz.ntmps12
   go_wp2_with (first | ((with_reducible refine gate_dst (N := 2) rfl ?_); refine bE 2 #[.int .i64 a0_0, .int .i64 a0_1, .slice A0_2 l0_2.length c0_2] 29 ?_; intro gb657 hg w12 hbox hb; have n0_ := Bb HB hb; have n1_ := am (hbox); have n2_ := Gl HB hg; have n3_ := Gl HB hg; clear HB; revert n0_ n1_ n2_ n3_; intro HB BK657 GW657 GE657; clear hb hbox hg; obtain ⟨hcz13_0, hcz13_1, hcz13_2, hfz13_0, hfz13_1, hfz13_2⟩ := cf3 (w := w12) BK657) | ((with_reducible refine gate_callee (f := 43) rfl ?_); refine gL (some 7) Tryz.func43 #[.agg #[.int .i64 a0_0, .int .i64 a0_1, .slice A0_2 l0_2.length c0_2]] ?_; (with_reducible refine (impl_IsPeeled.calls k a0_0 a0_1 _ _ l0_2 true _ ?side1 ?side2 A3.out).mono ?_); (case side1 => exact Cz (Kd.C_below HR0_2.out HB.out)); (case side2 => exact HC0_2.out); rintro e w14 ⟨rfl, hb⟩; refine ⟨_, rfl, ?_⟩; have n0_ := Kb BK657 hb; have n1_ := Bc HB hb; clear BK657 HB; revert n0_ n1_; intro BK657 HB; (try clear hb); (try clear hb2); (try clear hk); (try clear hi)) | (go_at_call 39; (with_reducible refine (impl_AreKeys.calls k _ _ l1 false _ ?side1 ?side2 A5.out).mono ?_); (case side1 => exact Cz (Kd.C_below HR1.out HB.out)); (case side2 => exact HC1.out); rintro e w' ⟨rfl, ⟨nd, rfl⟩⟩))
   go_ret2
   exact ⟨eZ, Bq⟩
 ·replace c4 := Bool.eq_false_iff.mpr c4
  subst c4
  rw [if_neg (show ¬ (false = true) by decide)] at H
  simp only [Option.some.injEq, Prod.mk.injEq] at H
  obtain ⟨rfl, rfl⟩ := H
  go_enter Tryz.func12, Tryz.ntmps12
  go_wp2_with (first | ((with_reducible refine gate_dst (N := 2) rfl ?_); refine bE 2 #[.int .i64 a0_0, .int .i64 a0_1, .slice A0_2 l0_2.length c0_2] 29 ?_; intro gb657 hg w15 hbox hb; have n0_ := Bb HB hb; have n1_ := am (hbox); have n2_ := Gl HB hg; have n3_ := Gl HB hg; clear HB; revert n0_ n1_ n2_ n3_; intro HB BK657 GW657 GE657; clear hb hbox hg; obtain ⟨hcz16_0, hcz16_1, hcz16_2, hfz16_0, hfz16_1, hfz16_2⟩ := cf3 (w := w15) BK657) | ((with_reducible refine gate_callee (f := 43) rfl ?_); refine gL (some 7) Tryz.func43 #[.agg #[.int .i64 a0_0, .int .i64 a0_1, .slice A0_2 l0_2.length c0_2]] ?_; (with_reducible refine (impl_IsPeeled.calls k a0_0 a0_1 _ _ l0_2 false _ ?side1 ?side2 A3.out).mono ?_); (case side1 => exact Cz (Kd.C_below HR0_2.out HB.out)); (case side2 => exact HC0_2.out); rintro e w17 ⟨rfl, hb⟩; refine ⟨_, rfl, ?_⟩; have n0_ := Kb BK657 hb; have n1_ := Bc HB hb; clear BK657 HB; revert n0_ n1_; intro BK657 HB; (try clear hb); (try clear hb2); (try clear hk); (try clear hi)))
  go_ret2
  exact ⟨eZ, Bq⟩

def impl_PeeledPlace.f (k : Nat) (a0_0 : Int) (a0_1 : Int) (l0_2 : List Int) (a1 : ByteArray) : Option (Int × Bool) := (impl_IsPeeled.f k a0_0 a0_1 l0_2).bind fun t662 => (if t662 = true then ((impl_IsKey.f k a1).bind fun t663 => (if t663 = true then ((impl_Peeled_place.f k a0_0 a0_1 l0_2 a1).bind fun t664 => (some (t664, true))) else (some (0, false)))) else (some (0, false)))
theorem impl_PeeledPlace.calls (k : Nat) (a0_0 : Int) (a0_1 : Int) (A0_2 : Option Addr) (c0_2 : Nat) (l0_2 : List Int) (a1 : ByteArray) (r1 : Int) (r2 : Bool) (w : World) (hr0_2 : Kd.C (Kd.int .i64) w A0_2 l0_2.length l0_2) (hc0_2 : l0_2.length ≤ c0_2) (h : impl_PeeledPlace.f k a0_0 a0_1 l0_2 a1 = some (r1, r2)) :
  Calls Tryz.prog 13 #[.agg #[.int .i64 a0_0, .int .i64 a0_1, .slice A0_2 l0_2.length c0_2], .string a1] w fun e w' => e = .returned (.tuple #[.int .i64 r1, .bool r2]) ∧ Below w.heap.size w w' := by
 have hu29 := Tryz.underlying29; have HR0_2 := am hr0_2; have HC0_2 := am hc0_2; clear hr0_2 hc0_2; have HB := am (Below.refl w.heap.size w); have H : ((impl_IsPeeled.f k a0_0 a0_1 l0_2).bind fun t662 => (if t662 = true then ((impl_IsKey.f k a1).bind fun t663 => (if t663 = true then ((impl_Peeled_place.f k a0_0 a0_1 l0_2 a1).bind fun t664 => (some (t664, true))) else (some (0, false)))) else (some (0, false)))) = some (r1, r2) := h; clear h; replace H := Option.bind_eq_some_iff.mp H; obtain ⟨t662, A30, H⟩ := H; (try dsimp -simprocs only at H); have A3 := am A30; clear A30
 by_cases c4 : t662 = true
 ·subst c4
  rw [if_pos rfl] at H; replace H := Option.bind_eq_some_iff.mp H; obtain ⟨t663, A50, H⟩ := H; (try dsimp -simprocs only at H); have A5 := am A50; clear A50
  by_cases c6 : t663 = true
  ·subst c6
   rw [if_pos rfl] at H; replace H := Option.bind_eq_some_iff.mp H; obtain ⟨t664, A70, H⟩ := H; (try dsimp -simprocs only at H); have A7 := am A70; clear A70
   simp only [Option.some.injEq, Prod.mk.injEq] at H
   obtain ⟨rfl, rfl⟩ := H
   go_enter Tryz.func13, Tryz.ntmps13
   go_wp2_with (first | ((with_reducible refine gate_dst (N := 2) rfl ?_); refine bE 2 #[.int .i64 a0_0, .int .i64 a0_1, .slice A0_2 l0_2.length c0_2] 29 ?_; intro gb661 hg w8 hbox hb; have n0_ := Bb HB hb; have n1_ := am (hbox); have n2_ := Gl HB hg; have n3_ := Gl HB hg; clear HB; revert n0_ n1_ n2_ n3_; intro HB BK661 GW661 GE661; clear hb hbox hg; obtain ⟨hcz9_0, hcz9_1, hcz9_2, hfz9_0, hfz9_1, hfz9_2⟩ := cf3 (w := w8) BK661) | ((with_reducible refine gate_callee (f := 43) rfl ?_); refine gL (some 7) Tryz.func43 #[.agg #[.int .i64 a0_0, .int .i64 a0_1, .slice A0_2 l0_2.length c0_2]] ?_; (with_reducible refine (impl_IsPeeled.calls k a0_0 a0_1 _ _ l0_2 true _ ?side1 ?side2 A3.out).mono ?_); (case side1 => exact Cz (Kd.C_below HR0_2.out HB.out)); (case side2 => exact HC0_2.out); rintro e w10 ⟨rfl, hb⟩; refine ⟨_, rfl, ?_⟩; have n0_ := Kb BK661 hb; have n1_ := Bc HB hb; clear BK661 HB; revert n0_ n1_; intro BK661 HB; (try clear hb); (try clear hb2); (try clear hk); (try clear hi)) | (go_at_call 48; (with_reducible refine (impl_IsKey.calls k a1 true _ A5.out).mono ?_); rintro e w' ⟨rfl, ⟨nd, rfl⟩⟩) | ((with_reducible refine gate_callee (f := 49) rfl ?_); refine gL (some 15) Tryz.func49 #[.pointer (some ⟨gb661, 0, none⟩), .string a1] ?_; (with_reducible refine (impl_Peeled_place.calls k gb661 a0_0 a0_1 A0_2 c0_2 l0_2 a1 t664 _ ?side1 ?side2 ?side3 A7.out).mono ?_); (case side1 => exact Kz BK661.out); (case side2 => exact Cz (Kd.C_below HR0_2.out (Bq))); (case side3 => exact HC0_2.out); rintro e w11 ⟨rfl, hb⟩; refine ⟨_, rfl, ?_⟩; have n0_ := Kb BK661 hb; have n1_ := Bc HB hb; clear BK661 HB; revert n0_ n1_; intro BK661 HB; (try clear hb); (try clear hb2); (try clear hk); (try clear hi)))
   go_ret2
   exact ⟨eZ, Bq⟩
  ·replace c6 := Bool.eq_false_iff.mpr c6
   subst c6
   rw [if_neg (show ¬ (false = true) by decide)] at H
   simp only [Option.some.injEq, Prod.mk.injEq] at H
   obtain ⟨rfl, rfl⟩ := H
   go_enter Tryz.func13, Tryz.ntmps13
   go_wp2_with (first | ((with_reducible refine gate_dst (N := 2) rfl ?_); refine bE 2 #[.int .i64 a0_0, .int .i64 a0_1, .slice A0_2 l0_2.length c0_2] 29 ?_; intro gb661 hg w12 hbox hb; have n0_ := Bb HB hb; have n1_ := am (hbox); have n2_ := Gl HB hg; have n3_ := Gl HB hg; clear HB; revert n0_ n1_ n2_ n3_; intro HB BK661 GW661 GE661; clear hb hbox hg; obtain ⟨hcz13_0, hcz13_1, hcz13_2, hfz13_0, hfz13_1, hfz13_2⟩ := cf3 (w := w12) BK661) | ((with_reducible refine gate_callee (f := 43) rfl ?_); refine gL (some 7) Tryz.func43 #[.agg #[.int .i64 a0_0, .int .i64 a0_1, .slice A0_2 l0_2.length c0_2]] ?_; (with_reducible refine (impl_IsPeeled.calls k a0_0 a0_1 _ _ l0_2 true _ ?side1 ?side2 A3.out).mono ?_); (case side1 => exact Cz (Kd.C_below HR0_2.out HB.out)); (case side2 => exact HC0_2.out); rintro e w14 ⟨rfl, hb⟩; refine ⟨_, rfl, ?_⟩; have n0_ := Kb BK661 hb; have n1_ := Bc HB hb; clear BK661 HB; revert n0_ n1_; intro BK661 HB; (try clear hb); (try clear hb2); (try clear hk); (try clear hi)) | (go_at_call 48; (with_reducible refine (impl_IsKey.calls k a1 false _ A5.out).mono ?_); rintro e w' ⟨rfl, ⟨nd, rfl⟩⟩))
   go_ret2
   exact ⟨eZ, Bq⟩
 ·replace c4 := Bool.eq_false_iff.mpr c4
  subst c4
  rw [if_neg (show ¬ (false = true) by decide)] at H
  simp only [Option.some.injEq, Prod.mk.injEq] at H
  obtain ⟨rfl, rfl⟩ := H
  go_enter Tryz.func13, Tryz.ntmps13
  go_wp2_with (first | ((with_reducible refine gate_dst (N := 2) rfl ?_); refine bE 2 #[.int .i64 a0_0, .int .i64 a0_1, .slice A0_2 l0_2.length c0_2] 29 ?_; intro gb661 hg w15 hbox hb; have n0_ := Bb HB hb; have n1_ := am (hbox); have n2_ := Gl HB hg; have n3_ := Gl HB hg; clear HB; revert n0_ n1_ n2_ n3_; intro HB BK661 GW661 GE661; clear hb hbox hg; obtain ⟨hcz16_0, hcz16_1, hcz16_2, hfz16_0, hfz16_1, hfz16_2⟩ := cf3 (w := w15) BK661) | ((with_reducible refine gate_callee (f := 43) rfl ?_); refine gL (some 7) Tryz.func43 #[.agg #[.int .i64 a0_0, .int .i64 a0_1, .slice A0_2 l0_2.length c0_2]] ?_; (with_reducible refine (impl_IsPeeled.calls k a0_0 a0_1 _ _ l0_2 false _ ?side1 ?side2 A3.out).mono ?_); (case side1 => exact Cz (Kd.C_below HR0_2.out HB.out)); (case side2 => exact HC0_2.out); rintro e w17 ⟨rfl, hb⟩; refine ⟨_, rfl, ?_⟩; have n0_ := Kb BK661 hb; have n1_ := Bc HB hb; clear BK661 HB; revert n0_ n1_; intro BK661 HB; (try clear hb); (try clear hb2); (try clear hk); (try clear hi)))
  go_ret2
  exact ⟨eZ, Bq⟩

def impl_PeeledIndex.f (k : Nat) (a0_0 : Int) (a0_1 : Int) (l0_2 : List Int) (a1 : ByteArray) : Option (Int × Bool) := (impl_IsPeeled.f k a0_0 a0_1 l0_2).bind fun t666 => (if t666 = true then ((impl_IsKey.f k a1).bind fun t667 => (if t667 = true then ((impl_Peeled_index.f k a0_0 a0_1 l0_2 a1).bind fun bt668 => (some (bt668.1, bt668.2))) else (some (0, false)))) else (some (0, false)))
theorem impl_PeeledIndex.calls (k : Nat) (a0_0 : Int) (a0_1 : Int) (A0_2 : Option Addr) (c0_2 : Nat) (l0_2 : List Int) (a1 : ByteArray) (r1 : Int) (r2 : Bool) (w : World) (hr0_2 : Kd.C (Kd.int .i64) w A0_2 l0_2.length l0_2) (hc0_2 : l0_2.length ≤ c0_2) (h : impl_PeeledIndex.f k a0_0 a0_1 l0_2 a1 = some (r1, r2)) :
  Calls Tryz.prog 14 #[.agg #[.int .i64 a0_0, .int .i64 a0_1, .slice A0_2 l0_2.length c0_2], .string a1] w fun e w' => e = .returned (.tuple #[.int .i64 r1, .bool r2]) ∧ Below w.heap.size w w' := by
 have hu29 := Tryz.underlying29; have HR0_2 := am hr0_2; have HC0_2 := am hc0_2; clear hr0_2 hc0_2; have HB := am (Below.refl w.heap.size w); have H : ((impl_IsPeeled.f k a0_0 a0_1 l0_2).bind fun t666 => (if t666 = true then ((impl_IsKey.f k a1).bind fun t667 => (if t667 = true then ((impl_Peeled_index.f k a0_0 a0_1 l0_2 a1).bind fun bt668 => (some (bt668.1, bt668.2))) else (some (0, false)))) else (some (0, false)))) = some (r1, r2) := h; clear h; replace H := Option.bind_eq_some_iff.mp H; obtain ⟨t666, A30, H⟩ := H; (try dsimp -simprocs only at H); have A3 := am A30; clear A30
 by_cases c4 : t666 = true
 ·subst c4
  rw [if_pos rfl] at H; replace H := Option.bind_eq_some_iff.mp H; obtain ⟨t667, A50, H⟩ := H; (try dsimp -simprocs only at H); have A5 := am A50; clear A50
  by_cases c6 : t667 = true
  ·subst c6
   rw [if_pos rfl] at H; replace H := Option.bind_eq_some_iff.mp H; obtain ⟨⟨t668, t669⟩, A70, H⟩ := H; (try dsimp -simprocs only at H); have A7 := am A70; clear A70
   simp only [Option.some.injEq, Prod.mk.injEq] at H
   obtain ⟨rfl, rfl⟩ := H
   go_enter Tryz.func14, Tryz.ntmps14
   go_wp2_with (first | ((with_reducible refine gate_dst (N := 2) rfl ?_); refine bE 2 #[.int .i64 a0_0, .int .i64 a0_1, .slice A0_2 l0_2.length c0_2] 29 ?_; intro gb665 hg w8 hbox hb; have n0_ := Bb HB hb; have n1_ := am (hbox); have n2_ := Gl HB hg; have n3_ := Gl HB hg; clear HB; revert n0_ n1_ n2_ n3_; intro HB BK665 GW665 GE665; clear hb hbox hg; obtain ⟨hcz9_0, hcz9_1, hcz9_2, hfz9_0, hfz9_1, hfz9_2⟩ := cf3 (w := w8) BK665) | ((with_reducible refine gate_callee (f := 43) rfl ?_); refine gL (some 7) Tryz.func43 #[.agg #[.int .i64 a0_0, .int .i64 a0_1, .slice A0_2 l0_2.length c0_2]] ?_; (with_reducible refine (impl_IsPeeled.calls k a0_0 a0_1 _ _ l0_2 true _ ?side1 ?side2 A3.out).mono ?_); (case side1 => exact Cz (Kd.C_below HR0_2.out HB.out)); (case side2 => exact HC0_2.out); rintro e w10 ⟨rfl, hb⟩; refine ⟨_, rfl, ?_⟩; have n0_ := Kb BK665 hb; have n1_ := Bc HB hb; clear BK665 HB; revert n0_ n1_; intro BK665 HB; (try clear hb); (try clear hb2); (try clear hk); (try clear hi)) | (go_at_call 48; (with_reducible refine (impl_IsKey.calls k a1 true _ A5.out).mono ?_); rintro e w' ⟨rfl, ⟨nd, rfl⟩⟩) | ((with_reducible refine gate_callee (f := 50) rfl ?_); refine gL (some 15) Tryz.func50 #[.pointer (some ⟨gb665, 0, none⟩), .string a1] ?_; (with_reducible refine (impl_Peeled_index.calls k gb665 a0_0 a0_1 A0_2 c0_2 l0_2 a1 t668 t669 _ ?side1 ?side2 ?side3 A7.out).mono ?_); (case side1 => exact Kz BK665.out); (case side2 => exact Cz (Kd.C_below HR0_2.out (Bq))); (case side3 => exact HC0_2.out); rintro e w11 ⟨rfl, hb⟩; refine ⟨_, rfl, ?_⟩; have n0_ := Kb BK665 hb; have n1_ := Bc HB hb; clear BK665 HB; revert n0_ n1_; intro BK665 HB; (try clear hb); (try clear hb2); (try clear hk); (try clear hi)))
   go_ret2
   exact ⟨eZ, Bq⟩
  ·replace c6 := Bool.eq_false_iff.mpr c6
   subst c6
   rw [if_neg (show ¬ (false = true) by decide)] at H
   simp only [Option.some.injEq, Prod.mk.injEq] at H
   obtain ⟨rfl, rfl⟩ := H
   go_enter Tryz.func14, Tryz.ntmps14
   go_wp2_with (first | ((with_reducible refine gate_dst (N := 2) rfl ?_); refine bE 2 #[.int .i64 a0_0, .int .i64 a0_1, .slice A0_2 l0_2.length c0_2] 29 ?_; intro gb665 hg w12 hbox hb; have n0_ := Bb HB hb; have n1_ := am (hbox); have n2_ := Gl HB hg; have n3_ := Gl HB hg; clear HB; revert n0_ n1_ n2_ n3_; intro HB BK665 GW665 GE665; clear hb hbox hg; obtain ⟨hcz13_0, hcz13_1, hcz13_2, hfz13_0, hfz13_1, hfz13_2⟩ := cf3 (w := w12) BK665) | ((with_reducible refine gate_callee (f := 43) rfl ?_); refine gL (some 7) Tryz.func43 #[.agg #[.int .i64 a0_0, .int .i64 a0_1, .slice A0_2 l0_2.length c0_2]] ?_; (with_reducible refine (impl_IsPeeled.calls k a0_0 a0_1 _ _ l0_2 true _ ?side1 ?side2 A3.out).mono ?_); (case side1 => exact Cz (Kd.C_below HR0_2.out HB.out)); (case side2 => exact HC0_2.out); rintro e w14 ⟨rfl, hb⟩; refine ⟨_, rfl, ?_⟩; have n0_ := Kb BK665 hb; have n1_ := Bc HB hb; clear BK665 HB; revert n0_ n1_; intro BK665 HB; (try clear hb); (try clear hb2); (try clear hk); (try clear hi)) | (go_at_call 48; (with_reducible refine (impl_IsKey.calls k a1 false _ A5.out).mono ?_); rintro e w' ⟨rfl, ⟨nd, rfl⟩⟩))
   go_ret2
   exact ⟨eZ, Bq⟩
 ·replace c4 := Bool.eq_false_iff.mpr c4
  subst c4
  rw [if_neg (show ¬ (false = true) by decide)] at H
  simp only [Option.some.injEq, Prod.mk.injEq] at H
  obtain ⟨rfl, rfl⟩ := H
  go_enter Tryz.func14, Tryz.ntmps14
  go_wp2_with (first | ((with_reducible refine gate_dst (N := 2) rfl ?_); refine bE 2 #[.int .i64 a0_0, .int .i64 a0_1, .slice A0_2 l0_2.length c0_2] 29 ?_; intro gb665 hg w15 hbox hb; have n0_ := Bb HB hb; have n1_ := am (hbox); have n2_ := Gl HB hg; have n3_ := Gl HB hg; clear HB; revert n0_ n1_ n2_ n3_; intro HB BK665 GW665 GE665; clear hb hbox hg; obtain ⟨hcz16_0, hcz16_1, hcz16_2, hfz16_0, hfz16_1, hfz16_2⟩ := cf3 (w := w15) BK665) | ((with_reducible refine gate_callee (f := 43) rfl ?_); refine gL (some 7) Tryz.func43 #[.agg #[.int .i64 a0_0, .int .i64 a0_1, .slice A0_2 l0_2.length c0_2]] ?_; (with_reducible refine (impl_IsPeeled.calls k a0_0 a0_1 _ _ l0_2 false _ ?side1 ?side2 A3.out).mono ?_); (case side1 => exact Cz (Kd.C_below HR0_2.out HB.out)); (case side2 => exact HC0_2.out); rintro e w17 ⟨rfl, hb⟩; refine ⟨_, rfl, ?_⟩; have n0_ := Kb BK665 hb; have n1_ := Bc HB hb; clear BK665 HB; revert n0_ n1_; intro BK665 HB; (try clear hb); (try clear hb2); (try clear hk); (try clear hi)))
  go_ret2
  exact ⟨eZ, Bq⟩

mutual
def impl_IsBits.j0 : Nat → Bool → Int → List Int → Option (Bool)
 | 0, _, _, _ => none
 | k + 1, x18, x671000, x671001 => if x18 = true then (some false) else (impl_IsBits.l0 k x671001 (x671001.length : Int) 0 x671000 x671001)
def impl_IsBits.l0 : Nat → List Int → Int → Int → Int → List Int → Option (Bool)
 | 0, _, _, _, _, _ => none
 | k + 1, x20, x21, x22, x671000, x671001 => if x22 < x21 then (if 0 ≤ x22 then (if x22 < (x20.length : Int) then ((impl_in.f (rd x20 x22) 0 65535).bind fun t674 => (if t674 = true then (impl_IsBits.l0 k x20 x21 (wrap64 (x22 + 1)) x671000 x671001) else (some false))) else (none)) else (none)) else (if (Int.tmod x671000 16) = 0 then (some true) else (if 0 ≤ (wrap64 ((x671001.length : Int) - 1)) then (if (wrap64 ((x671001.length : Int) - 1)) < (x671001.length : Int) then (if 0 ≤ (Int.tmod x671000 16) then (some ((shr .i64 (rd x671001 (wrap64 ((x671001.length : Int) - 1))) (Int.tmod x671000 16)) == 0)) else (none)) else (none)) else (none)))
end
def impl_IsBits.f (k : Nat) (a0_0 : Int) (l0_1 : List Int) : Option (Bool) := (impl_in.f a0_0 0 4096).bind fun t671 => (if t671 = true then ((impl_words.f a0_0).bind fun t672 => (impl_IsBits.j0 k ((l0_1.length : Int) != t672) a0_0 l0_1)) else (impl_IsBits.j0 k true a0_0 l0_1))
theorem impl_IsBits.calls (k : Nat) (a0_0 : Int) (A0_1 : Option Addr) (c0_1 : Nat) (l0_1 : List Int) (r : Bool) (w : World) (hr0_1 : Kd.C (Kd.int .i64) w A0_1 l0_1.length l0_1) (hc0_1 : l0_1.length ≤ c0_1) (h : impl_IsBits.f k a0_0 l0_1 = some r) :
  Calls Tryz.prog 55 #[.agg #[.int .i64 a0_0, .slice A0_1 l0_1.length c0_1]] w fun e w' => e = .returned (.bool r) ∧ Below w.heap.size w w' := by
 have hu42 := Tryz.underlying42; have HR0_1 := am hr0_1; have HC0_1 := am hc0_1; clear hr0_1 hc0_1; have HB := am (Below.refl w.heap.size w); have H : ((impl_in.f a0_0 0 4096).bind fun t671 => (if t671 = true then ((impl_words.f a0_0).bind fun t672 => (impl_IsBits.j0 k ((l0_1.length : Int) != t672) a0_0 l0_1)) else (impl_IsBits.j0 k true a0_0 l0_1))) = some r := h; clear h; have HC2 := am H; clear H
 go_enter Tryz.func55, Tryz.ntmps55
 go_upto_region 1 with (first | ((with_reducible refine gate_dst (N := 1) rfl ?_); (try (refine gate_guard (by rfl) ?_; dsimp only)); refine bE 1 #[.int .i64 a0_0, .slice A0_1 l0_1.length c0_1] 42 ?_; intro gb670 hg w3 hbox hb; have n0_ := Bb HB hb; have n1_ := am (hbox); have n2_ := Gl HB hg; have n3_ := Gl HB hg; clear HB; revert n0_ n1_ n2_ n3_; intro HB BK670 GW670 GE670; clear hb hbox hg))
 repeat (go_quiet (first | ((with_reducible refine gate_dst (N := 1) rfl ?_); (try (refine gate_guard (by rfl) ?_; dsimp only)); refine bE 1 #[.int .i64 a0_0, .slice A0_1 l0_1.length c0_1] 42 ?_; intro gb670 hg w3 hbox hb; have n0_ := Bb HB hb; have n1_ := am (hbox); have n2_ := Gl HB hg; have n3_ := Gl HB hg; clear HB; revert n0_ n1_ n2_ n3_; intro HB BK670 GW670 GE670; clear hb hbox hg)); go_upto_region 1 with (first | ((with_reducible refine gate_dst (N := 1) rfl ?_); (try (refine gate_guard (by rfl) ?_; dsimp only)); refine bE 1 #[.int .i64 a0_0, .slice A0_1 l0_1.length c0_1] 42 ?_; intro gb670 hg w3 hbox hb; have n0_ := Bb HB hb; have n1_ := am (hbox); have n2_ := Gl HB hg; have n3_ := Gl HB hg; clear HB; revert n0_ n1_ n2_ n3_; intro HB BK670 GW670 GE670; clear hb hbox hg)))
 (try simp only [aP])
 go_cut [18] (fun v18 wc => ∃ (kq : Nat) (x18_1 : Bool), v18 = .bool x18_1 ∧ Aside0 (impl_IsBits.j0 kq x18_1 a0_0 l0_1 = some r) ∧ Aside0 (kq ≤ k) ∧ Aside0 (wc.heap[gb670]? = some (.cells #[.int .i64 a0_0, (.slice A0_1 l0_1.length c0_1)] 42 (0, 0))) ∧ Aside0 (Below w.heap.size w wc))
 case first =>
  have H := HC2.out; clear HC2; replace H := Option.bind_eq_some_iff.mp H; obtain ⟨t671, A40, H⟩ := H; (try dsimp -simprocs only at H); have A4 := am A40; clear A40
  by_cases c5 : t671 = true
  ·subst c5
   rw [if_pos rfl] at H; replace H := Option.bind_eq_some_iff.mp H; obtain ⟨t672, A60, H⟩ := H; (try dsimp -simprocs only at H); have A6 := am A60; clear A60; have H' := am H; clear H; obtain ⟨hcz7_0, hcz7_1, hfz7_0, hfz7_1⟩ := cf2 (w := w3) BK670
   go_wp2_with (first | (go_at_call 52; (with_reducible refine (impl_in.calls a0_0 0 4096 true _ A4.out).mono ?_); rintro e w' ⟨rfl, ⟨nd, rfl⟩⟩; (try exact yZ)) | (go_at_call 89; (with_reducible refine (impl_words.calls a0_0 t672 _ A6.out).mono ?_); rintro e w' ⟨rfl, ⟨nd, rfl⟩⟩; (try exact yZ)))
   repeat (go_quiet (first | (go_at_call 52; (with_reducible refine (impl_in.calls a0_0 0 4096 true _ A4.out).mono ?_); rintro e w' ⟨rfl, ⟨nd, rfl⟩⟩; (try exact yZ)) | (go_at_call 89; (with_reducible refine (impl_words.calls a0_0 t672 _ A6.out).mono ?_); rintro e w' ⟨rfl, ⟨nd, rfl⟩⟩; (try exact yZ))); try go_wp2_with (first | (go_at_call 52; (with_reducible refine (impl_in.calls a0_0 0 4096 true _ A4.out).mono ?_); rintro e w' ⟨rfl, ⟨nd, rfl⟩⟩; (try exact yZ)) | (go_at_call 89; (with_reducible refine (impl_words.calls a0_0 t672 _ A6.out).mono ?_); rintro e w' ⟨rfl, ⟨nd, rfl⟩⟩; (try exact yZ))))
   go_meet
   case rel => exact ⟨_, (((l0_1.length : Int) != t672)), wZ, H', ⟨by first | omega | exact Nat.le_refl _⟩, ⟨Kz BK670.out⟩, ⟨Bq⟩⟩
  ·replace c5 := Bool.eq_false_iff.mpr c5
   subst c5
   rw [if_neg (show ¬ (false = true) by decide)] at H; have H' := am H; clear H; obtain ⟨hcz8_0, hcz8_1, hfz8_0, hfz8_1⟩ := cf2 (w := w3) BK670
   go_wp2_with (first | (go_at_call 52; (with_reducible refine (impl_in.calls a0_0 0 4096 false _ A4.out).mono ?_); rintro e w' ⟨rfl, ⟨nd, rfl⟩⟩; (try exact yZ)))
   repeat (go_quiet (first | (go_at_call 52; (with_reducible refine (impl_in.calls a0_0 0 4096 false _ A4.out).mono ?_); rintro e w' ⟨rfl, ⟨nd, rfl⟩⟩; (try exact yZ))); try go_wp2_with (first | (go_at_call 52; (with_reducible refine (impl_in.calls a0_0 0 4096 false _ A4.out).mono ?_); rintro e w' ⟨rfl, ⟨nd, rfl⟩⟩; (try exact yZ))))
   go_meet
   case rel => exact ⟨_, (true), wZ, H', ⟨by first | omega | exact Nat.le_refl _⟩, ⟨Kz BK670.out⟩, ⟨Bq⟩⟩
 case rest =>
  clear HC2
  try clear p2
  try clear c5
  try clear hcz7_0
  try clear hcz7_1
  try clear hcz8_0
  try clear hcz8_1
  try clear hfz7_0
  try clear hfz7_1
  try clear hfz8_0
  try clear hfz8_1
  obtain ⟨kq, x18_1, rfl, HA, HJ1, BK670, HB⟩ := hcut; cases kq with
  | zero => exact absurd HA.out (by simp [impl_IsBits.j0])
  | succ kj1 =>
   have H := HA.out; clear HA
   simp only [impl_IsBits.j0] at H
   by_cases c9 : x18_1 = true
   ·subst c9
    rw [if_pos rfl] at H; obtain rfl := Option.some.inj H
    go_wp2
    repeat (go_quiet (fail); try go_wp2)
    go_ret
    exact ⟨eZ, Bq⟩
   ·replace c9 := Bool.eq_false_iff.mpr c9
    subst c9
    rw [if_neg (show ¬ (false = true) by decide)] at H; have H' := am H; clear H; obtain ⟨hcz10_0, hcz10_1, hfz10_0, hfz10_1⟩ := cf2 (w := wc) BK670
    go_wp2
    repeat (go_quiet (fail); try go_wp2)
    go_loopg [22] kj1 (fun kq v22 w' => ∃ (x22_2 : Int), v22 = .int .i64 x22_2 ∧ Aside0 (impl_IsBits.l0 kq l0_1 (l0_1.length : Int) x22_2 a0_0 l0_1 = some r) ∧ Aside0 (kq ≤ kj1) ∧ Aside0 (w'.heap[gb670]? = some (.cells #[.int .i64 a0_0, (.slice A0_1 l0_1.length c0_1)] 42 (0, 0))) ∧ Aside0 (Below w.heap.size w w'))
    case atStart => exact ⟨(0), wZ, H', ⟨Nat.le_refl _⟩, ⟨Kz BK670.out⟩, ⟨Bq⟩⟩
    case round =>
     clear H'
     try clear p2
     try clear c5
     try clear c9
     try clear hcz10_0
     try clear hcz10_1
     try clear hcz7_0
     try clear hcz7_1
     try clear hcz8_0
     try clear hcz8_1
     try clear hfz10_0
     try clear hfz10_1
     try clear hfz7_0
     try clear hfz7_1
     try clear hfz8_0
     try clear hfz8_1
     try clear p2
     obtain ⟨x22_2, rfl, HA, HK2, BK670, HB⟩ := hrel; cases gk with
     | zero => exact absurd HA.out (by simp [impl_IsBits.l0])
     | succ k2 =>
      have H := HA.out; clear HA
      simp only [impl_IsBits.l0] at H
      by_cases c11 : x22_2 < (l0_1.length : Int)
      ·rw [if_pos c11] at H
       have c11b0 : decide (x22_2 < (l0_1.length : Int)) = true := decide_eq_true c11; clear c11
       by_cases c12 : 0 ≤ x22_2
       ·rw [if_pos c12] at H
        have c12b0 : decide (0 ≤ x22_2) = true := decide_eq_true c12; clear c12
        by_cases c13 : x22_2 < (l0_1.length : Int)
        ·rw [if_pos c13] at H
         have c13b0 : decide (x22_2 < (l0_1.length : Int)) = true := decide_eq_true c13; clear c13; replace H := Option.bind_eq_some_iff.mp H; obtain ⟨t674, A140, H⟩ := H; (try dsimp -simprocs only at H); have A14 := am A140; clear A140
         by_cases c15 : t674 = true
         ·subst c15
          rw [if_pos rfl] at H; have H' := am H; clear H; have p673 : 0 ≤ (x22_2 : Int) := dT; have q673 : x22_2 < (l0_1.length : Int) := dT; obtain ⟨ad673, e673, hx673_0⟩ := Kd.at_int HR0_1.out x22_2 p673 q673; cases e673; replace hx673_0 := (HB.out.cell (World.block_lt_of_cell? w _ hx673_0)).trans hx673_0; replace p673 := eq_true p673; replace q673 := eq_true q673
          go_wp2_with (first | (go_at_call 52; (with_reducible refine (impl_in.calls (rd l0_1 x22_2) 0 65535 true _ A14.out).mono ?_); rintro e w' ⟨rfl, ⟨nd, rfl⟩⟩; (try exact yZ)))
          repeat (go_quiet (first | (go_at_call 52; (with_reducible refine (impl_in.calls (rd l0_1 x22_2) 0 65535 true _ A14.out).mono ?_); rintro e w' ⟨rfl, ⟨nd, rfl⟩⟩; (try exact yZ))); try go_wp2_with (first | (go_at_call 52; (with_reducible refine (impl_in.calls (rd l0_1 x22_2) 0 65535 true _ A14.out).mono ?_); rintro e w' ⟨rfl, ⟨nd, rfl⟩⟩; (try exact yZ))))
          go_roundg k2
          case measure => have := HJ1.out; have := HK2.out; omega
          case rel => exact ⟨(wrap64 (x22_2 + 1)), wZ, H', ⟨by have := HJ1.out; have := HK2.out; omega⟩, ⟨Kz BK670.out⟩, ⟨Bq⟩⟩
         ·replace c15 := Bool.eq_false_iff.mpr c15
          subst c15
          rw [if_neg (show ¬ (false = true) by decide)] at H; obtain rfl := Option.some.inj H; have p673 : 0 ≤ (x22_2 : Int) := dT; have q673 : x22_2 < (l0_1.length : Int) := dT; obtain ⟨ad673, e673, hx673_0⟩ := Kd.at_int HR0_1.out x22_2 p673 q673; cases e673; replace hx673_0 := (HB.out.cell (World.block_lt_of_cell? w _ hx673_0)).trans hx673_0; replace p673 := eq_true p673; replace q673 := eq_true q673
          go_wp2_with (first | (go_at_call 52; (with_reducible refine (impl_in.calls (rd l0_1 x22_2) 0 65535 false _ A14.out).mono ?_); rintro e w' ⟨rfl, ⟨nd, rfl⟩⟩; (try exact yZ)))
          repeat (go_quiet (first | (go_at_call 52; (with_reducible refine (impl_in.calls (rd l0_1 x22_2) 0 65535 false _ A14.out).mono ?_); rintro e w' ⟨rfl, ⟨nd, rfl⟩⟩; (try exact yZ))); try go_wp2_with (first | (go_at_call 52; (with_reducible refine (impl_in.calls (rd l0_1 x22_2) 0 65535 false _ A14.out).mono ?_); rintro e w' ⟨rfl, ⟨nd, rfl⟩⟩; (try exact yZ))))
          go_ret
          exact ⟨eZ, Bq⟩
        ·rw [if_neg c13] at H
         exact absurd H (by simp)
       ·rw [if_neg c12] at H
        exact absurd H (by simp)
      ·rw [if_neg c11] at H
       have c11b0 : decide (x22_2 < (l0_1.length : Int)) = false := decide_eq_false c11; clear c11
       by_cases c16 : (Int.tmod a0_0 16) = 0
       ·rw [if_pos c16] at H
        have c16b0 : ((Int.tmod a0_0 16) == 0) = true := beq_iff_eq.mpr c16; have c16b1 : ((Int.tmod a0_0 16) != 0) = false := bne_eq_false_iff_eq.mpr c16; clear c16; obtain rfl := Option.some.inj H; obtain ⟨hcz17_0, hcz17_1, hfz17_0, hfz17_1⟩ := cf2 (w := wr) BK670
        go_wp2
        repeat (go_quiet (fail); try go_wp2)
        go_ret
        exact ⟨eZ, Bq⟩
       ·rw [if_neg c16] at H
        have c16b0 : ((Int.tmod a0_0 16) == 0) = false := beq_eq_false_iff_ne.mpr c16; have c16b1 : ((Int.tmod a0_0 16) != 0) = true := bne_iff_ne.mpr c16; obtain ⟨ji18, hji18⟩ : ∃ j_ : Int, (wrap64 ((l0_1.length : Int) - 1)) = j_ := ⟨_, rfl⟩
        replace H : (if 0 ≤ (ji18) then (if (ji18) < (l0_1.length : Int) then (if 0 ≤ (Int.tmod a0_0 16) then (some ((shr .i64 (rd l0_1 (ji18)) (Int.tmod a0_0 16)) == 0)) else (none)) else (none)) else (none)) = some r := by first | (rw [hji18] at H; exact H) | (simp only [hji18] at H ⊢; exact H)
        have hji18w : (IntKind.i64.wrap ((l0_1.length : Int) - 1)) = ji18 := (i64_w _).trans hji18
        by_cases c19 : 0 ≤ (ji18)
        ·rw [if_pos c19] at H
         have c19b0 : decide (0 ≤ (ji18)) = true := decide_eq_true c19; clear c19
         by_cases c20 : (ji18) < (l0_1.length : Int)
         ·rw [if_pos c20] at H
          have c20b0 : decide ((ji18) < (l0_1.length : Int)) = true := decide_eq_true c20; clear c20; obtain ⟨ji21, hji21⟩ : ∃ j_ : Int, (Int.tmod a0_0 16) = j_ := ⟨_, rfl⟩
          replace H : (if 0 ≤ (ji21) then (some ((shr .i64 (rd l0_1 (ji18)) (ji21)) == 0)) else (none)) = some r := by first | (rw [hji21] at H; exact H) | (simp only [hji21] at H ⊢; exact H)
          (try rw [hji21] at c16b0)
          (try rw [hji21] at c16b1)
          by_cases c22 : 0 ≤ (ji21)
          ·rw [if_pos c22] at H
           have c22b0 := eq_true c22; have c22b1 : decide (0 ≤ (ji21)) = true := decide_eq_true c22; clear c22; obtain ⟨ji23, hji23⟩ : ∃ j_ : Int, (shr .i64 (rd l0_1 (ji18)) (ji21)) = j_ := ⟨_, rfl⟩
           replace H : (some ((ji23) == 0)) = some r := by first | (rw [hji23] at H; exact H) | (simp only [hji23] at H ⊢; exact H)
           have hji23_ : ((rd l0_1 (ji18)) / 2 ^ min (ji21).toNat 64) = ji23 := hji23; have hji23z : (ji21) ≤ 64 → ((rd l0_1 (ji18)) / 2 ^ (ji21).toNat) = ji23 := shr_small hji23; obtain rfl := Option.some.inj H; obtain ⟨hcz24_0, hcz24_1, hfz24_0, hfz24_1⟩ := cf2 (w := wr) BK670; have p675 : 0 ≤ ((ji18) : Int) := dT; have q675 : (ji18) < (l0_1.length : Int) := dT; obtain ⟨ad675, e675, hx675_0⟩ := Kd.at_int HR0_1.out (ji18) p675 q675; cases e675; replace hx675_0 := (HB.out.cell (World.block_lt_of_cell? w _ hx675_0)).trans hx675_0; replace p675 := eq_true p675; replace q675 := eq_true q675
           go_wp2
           repeat (go_quiet (fail); try go_wp2)
           go_ret
           exact ⟨by first | rfl | (simp [errW_none, errW_some] <;> rfl) | (simp only [← hji18, ← hji21, ← hji23]; first | rfl | (simp [errW_none, errW_some] <;> rfl)) | (simp [*, errW_none, errW_some] <;> rfl), Bq⟩
          ·rw [if_neg c22] at H
           exact absurd H (by simp)
         ·rw [if_neg c20] at H
          exact absurd H (by simp)
        ·rw [if_neg c19] at H
         exact absurd H (by simp)

def slices_Equal_int_int.l0 : Nat → List Int → List Int → Int → Int → Option (Bool)
 | 0, _, _, _, _ => none
 | k + 1, x0, x1, x12, x13 => if x13 < x12 then (if 0 ≤ x13 then (if x13 < (x0.length : Int) then (if x13 < (x1.length : Int) then (if (rd x0 x13) = (rd x1 x13) then (slices_Equal_int_int.l0 k x0 x1 x12 (wrap64 (x13 + 1))) else (some false)) else (none)) else (none)) else (none)) else (some true)
def slices_Equal_int_int.f (k : Nat) (l0 : List Int) (l1 : List Int) : Option (Bool) := if (l0.length : Int) = (l1.length : Int) then (slices_Equal_int_int.l0 k l0 l1 (l0.length : Int) 0) else (some false)
theorem slices_Equal_int_int.calls (k : Nat) (A0 : Option Addr) (c0 : Nat) (l0 : List Int) (A1 : Option Addr) (c1 : Nat) (l1 : List Int) (r : Bool) (w : World) (hr0 : Kd.C (Kd.int .i64) w A0 l0.length l0) (hc0 : l0.length ≤ c0) (hr1 : Kd.C (Kd.int .i64) w A1 l1.length l1) (hc1 : l1.length ≤ c1) (h : slices_Equal_int_int.f k l0 l1 = some r) :
  Calls Tryz.prog 86 #[.slice A0 l0.length c0, .slice A1 l1.length c1] w fun e w' => e = .returned (.bool r) ∧ Drawn0 w w' := by
 have HR0 := am hr0; have HC0 := am hc0; clear hr0 hc0; have HR1 := am hr1; have HC1 := am hc1; clear hr1 hc1; have H : (if (l0.length : Int) = (l1.length : Int) then (slices_Equal_int_int.l0 k l0 l1 (l0.length : Int) 0) else (some false)) = some r := h; clear h
 by_cases c3 : (l0.length : Int) = (l1.length : Int)
 ·rw [if_pos c3] at H
  have c3b0 : ((l0.length : Int) == (l1.length : Int)) = true := beq_iff_eq.mpr c3; have c3b1 : ((l0.length : Int) != (l1.length : Int)) = false := bne_eq_false_iff_eq.mpr c3
  have c3b2 : (l0.length == l1.length) = true := by first | simpa using c3 | (simp at c3 ⊢; omega)
  clear c3; have H' := am H; clear H
  go_enter Tryz.func86, Tryz.ntmps86
  go_wp2
  repeat (go_quiet (fail); try go_wp2)
  go_loopg [13] k (fun kq v13 w' => ∃ (x13_1 : Int), v13 = .int .i64 x13_1 ∧ Aside0 (slices_Equal_int_int.l0 kq l0 l1 (l0.length : Int) x13_1 = some r) ∧ Aside0 (kq ≤ k) ∧ Drawn0 w w')
  case atStart => exact ⟨(0), wZ, H', ⟨Nat.le_refl _⟩, by repeat (first | exact Drawn0.refl _ | apply Drawn0.step)⟩
  case round =>
   clear H'
   try clear c1
   try clear p2
   try clear c3
   try clear c3b0
   try clear c3b1
   try clear c3b2
   obtain ⟨x13_1, rfl, HA, HK1, ⟨m1, rfl⟩⟩ := hrel; cases gk with
   | zero => exact absurd HA.out (by simp [slices_Equal_int_int.l0])
   | succ k1 =>
    have H := HA.out; clear HA
    simp only [slices_Equal_int_int.l0] at H
    by_cases c4 : x13_1 < (l0.length : Int)
    ·rw [if_pos c4] at H
     have c4b0 : decide (x13_1 < (l0.length : Int)) = true := decide_eq_true c4; clear c4
     by_cases c5 : 0 ≤ x13_1
     ·rw [if_pos c5] at H
      have c5b0 : decide (0 ≤ x13_1) = true := decide_eq_true c5; clear c5
      by_cases c6 : x13_1 < (l0.length : Int)
      ·rw [if_pos c6] at H
       have c6b0 : decide (x13_1 < (l0.length : Int)) = true := decide_eq_true c6; clear c6
       by_cases c7 : x13_1 < (l1.length : Int)
       ·rw [if_pos c7] at H
        have c7b0 : decide (x13_1 < (l1.length : Int)) = true := decide_eq_true c7; clear c7
        by_cases c8 : (rd l0 x13_1) = (rd l1 x13_1)
        ·rw [if_pos c8] at H
         have c8b0 : ((rd l0 x13_1) == (rd l1 x13_1)) = true := beq_iff_eq.mpr c8; have c8b1 : ((rd l0 x13_1) != (rd l1 x13_1)) = false := bne_eq_false_iff_eq.mpr c8; clear c8; have H' := am H; clear H; obtain ⟨ad676, e676, hx676_0⟩ := Kd.at_int HR0.out x13_1 dT dT; cases e676; have p676 := eT (0 ≤ (x13_1 : Int)); have q676 := eT (x13_1 < (l0.length : Int)); obtain ⟨ad677, e677, hx677_0⟩ := Kd.at_int HR1.out x13_1 dT dT; cases e677; have p677 := eT (0 ≤ (x13_1 : Int)); have q677 := eT (x13_1 < (l1.length : Int))
         go_wp2
         repeat (go_quiet (fail); try go_wp2)
         go_roundg k1
         case measure => have := HK1.out; omega
         case rel => exact ⟨(wrap64 (x13_1 + 1)), wZ, H', ⟨by have := HK1.out; omega⟩, by repeat (first | exact Drawn0.refl _ | apply Drawn0.step)⟩
        ·rw [if_neg c8] at H
         have c8b0 : ((rd l0 x13_1) == (rd l1 x13_1)) = false := beq_eq_false_iff_ne.mpr c8; have c8b1 : ((rd l0 x13_1) != (rd l1 x13_1)) = true := bne_iff_ne.mpr c8; obtain rfl := Option.some.inj H; obtain ⟨ad676, e676, hx676_0⟩ := Kd.at_int HR0.out x13_1 dT dT; cases e676; have p676 := eT (0 ≤ (x13_1 : Int)); have q676 := eT (x13_1 < (l0.length : Int)); obtain ⟨ad677, e677, hx677_0⟩ := Kd.at_int HR1.out x13_1 dT dT; cases e677; have p677 := eT (0 ≤ (x13_1 : Int)); have q677 := eT (x13_1 < (l1.length : Int))
         go_wp2
         repeat (go_quiet (fail); try go_wp2)
         go_ret
         exact ⟨by first | rfl | (simp; done) | (simp [*]; done), by repeat (first | exact Drawn0.refl _ | apply Drawn0.step)⟩
       ·rw [if_neg c7] at H
        exact absurd H (by simp)
      ·rw [if_neg c6] at H
       exact absurd H (by simp)
     ·rw [if_neg c5] at H
      exact absurd H (by simp)
    ·rw [if_neg c4] at H
     have c4b0 : decide (x13_1 < (l0.length : Int)) = false := decide_eq_false c4; clear c4; obtain rfl := Option.some.inj H
     go_wp2
     repeat (go_quiet (fail); try go_wp2)
     go_ret
     exact ⟨by first | rfl | (simp; done) | (simp [*]; done), by repeat (first | exact Drawn0.refl _ | apply Drawn0.step)⟩
 ·rw [if_neg c3] at H
  have c3b0 : ((l0.length : Int) == (l1.length : Int)) = false := beq_eq_false_iff_ne.mpr c3; have c3b1 : ((l0.length : Int) != (l1.length : Int)) = true := bne_iff_ne.mpr c3
  have c3b2 : (l0.length == l1.length) = false := by first | simpa using c3 | (simp at c3 ⊢; omega)
  obtain rfl := Option.some.inj H
  go_enter Tryz.func86, Tryz.ntmps86
  go_wp2
  repeat (go_quiet (fail); try go_wp2)
  go_ret
  exact ⟨by first | rfl | (simp; done) | (simp [*]; done), by repeat (first | exact Drawn0.refl _ | apply Drawn0.step)⟩

def impl_IsRanked.f (k : Nat) (a0_0 : Int) (l0_1 : List Int) (l0_2 : List Int) (l0_3 : List Int) : Option (Bool) := (impl_IsBits.f k a0_0 l0_1).bind fun t679 => (if t679 = true then ((impl_ranked.f k a0_0 l0_1).bind fun bt680 => ((slices_Equal_int_int.f k bt680.2.2.1 l0_2).bind fun t691 => (if t691 = true then ((slices_Equal_int_int.f k bt680.2.2.2 l0_3).bind fun t692 => (some t692)) else (some false)))) else (some false))
theorem impl_IsRanked.calls (k : Nat) (a0_0 : Int) (A0_1 : Option Addr) (c0_1 : Nat) (l0_1 : List Int) (A0_2 : Option Addr) (c0_2 : Nat) (l0_2 : List Int) (A0_3 : Option Addr) (c0_3 : Nat) (l0_3 : List Int) (r : Bool) (w : World) (hr0_1 : Kd.C (Kd.int .i64) w A0_1 l0_1.length l0_1) (hc0_1 : l0_1.length ≤ c0_1) (hr0_2 : Kd.C (Kd.int .i64) w A0_2 l0_2.length l0_2) (hc0_2 : l0_2.length ≤ c0_2) (hr0_3 : Kd.C (Kd.int .i64) w A0_3 l0_3.length l0_3) (hc0_3 : l0_3.length ≤ c0_3) (h : impl_IsRanked.f k a0_0 l0_1 l0_2 l0_3 = some r) :
  Calls Tryz.prog 51 #[.agg #[.int .i64 a0_0, .slice A0_1 l0_1.length c0_1, .slice A0_2 l0_2.length c0_2, .slice A0_3 l0_3.length c0_3]] w fun e w' => e = .returned (.bool r) ∧ Below w.heap.size w w' := by
 have hu44 := Tryz.underlying44; have hu42 := Tryz.underlying42; have HR0_1 := am hr0_1; have HC0_1 := am hc0_1; clear hr0_1 hc0_1; have HR0_2 := am hr0_2; have HC0_2 := am hc0_2; clear hr0_2 hc0_2; have HR0_3 := am hr0_3; have HC0_3 := am hc0_3; clear hr0_3 hc0_3; have HB := am (Below.refl w.heap.size w); have H : ((impl_IsBits.f k a0_0 l0_1).bind fun t679 => (if t679 = true then ((impl_ranked.f k a0_0 l0_1).bind fun bt680 => ((slices_Equal_int_int.f k bt680.2.2.1 l0_2).bind fun t691 => (if t691 = true then ((slices_Equal_int_int.f k bt680.2.2.2 l0_3).bind fun t692 => (some t692)) else (some false)))) else (some false))) = some r := h; clear h; replace H := Option.bind_eq_some_iff.mp H; obtain ⟨t679, A20, H⟩ := H; (try dsimp -simprocs only at H); have A2 := am A20; clear A20
 by_cases c3 : t679 = true
 ·subst c3
  rw [if_pos rfl] at H; replace H := Option.bind_eq_some_iff.mp H; obtain ⟨⟨t680, t681, t684, t687⟩, A40, H⟩ := H; (try dsimp -simprocs only at H); have A4 := am A40; clear A40; replace H := Option.bind_eq_some_iff.mp H; obtain ⟨t691, A50, H⟩ := H; (try dsimp -simprocs only at H); have A5 := am A50; clear A50
  by_cases c6 : t691 = true
  ·subst c6
   rw [if_pos rfl] at H; replace H := Option.bind_eq_some_iff.mp H; obtain ⟨t692, A70, H⟩ := H; (try dsimp -simprocs only at H); have A7 := am A70; clear A70; obtain rfl := Option.some.inj H
   go_enter Tryz.func51, Tryz.ntmps51
   go_wp2_with (first | ((with_reducible refine gate_dst (N := 1) rfl ?_); refine bE 1 #[.int .i64 a0_0, .slice A0_1 l0_1.length c0_1, .slice A0_2 l0_2.length c0_2, .slice A0_3 l0_3.length c0_3] 44 ?_; intro gb678 hg w8 hbox hb; have n0_ := Bb HB hb; have n1_ := am (hbox); have n2_ := Gl HB hg; have n3_ := Gl HB hg; clear HB; revert n0_ n1_ n2_ n3_; intro HB BK678 GW678 GE678; clear hb hbox hg; obtain ⟨hcz9_0, hcz9_1, hcz9_2, hcz9_3, hfz9_0, hfz9_1, hfz9_2, hfz9_3⟩ := cf4 (w := w8) BK678) | ((with_reducible refine gate_callee (f := 55) rfl ?_); refine gL (some 6) Tryz.func55 #[.agg #[.int .i64 a0_0, .slice A0_1 l0_1.length c0_1]] ?_; (with_reducible refine (impl_IsBits.calls k a0_0 _ _ l0_1 true _ ?side1 ?side2 A2.out).mono ?_); (case side1 => exact Cz (Kd.C_below HR0_1.out HB.out)); (case side2 => exact HC0_1.out); rintro e w10 ⟨rfl, hb⟩; refine ⟨_, rfl, ?_⟩; have n0_ := Kb BK678 hb; have n1_ := Bc HB hb; clear BK678 HB; revert n0_ n1_; intro BK678 HB; (try clear hb); (try clear hb2); (try clear hk); (try clear hi); obtain ⟨hcz11_0, hcz11_1, hcz11_2, hcz11_3, hfz11_0, hfz11_1, hfz11_2, hfz11_3⟩ := cf4 (w := w10) BK678) | ((with_reducible refine gate_callee (f := 44) rfl ?_); refine gL (some 10) Tryz.func44 #[.agg #[.int .i64 a0_0, .slice A0_1 l0_1.length c0_1]] ?_; (with_reducible refine (impl_ranked.calls k a0_0 _ _ l0_1 t680 t681 t684 t687 _ ?side1 ?side2 A4.out).mono ?_); (case side1 => exact Cz (Kd.C_below HR0_1.out HB.out)); (case side2 => exact HC0_1.out); rintro e w12 ⟨v682, v685, v688, rfl, ho0, ho1, ho2, hb⟩; refine ⟨_, rfl, ?_⟩; have n0_ := Rm ho0 HB; have n1_ := Rm ho1 HB; have n2_ := Rm ho2 HB; have n3_ := Kb BK678 hb; have n4_ := Bc HB hb; clear BK678 HB; revert n0_ n1_ n2_ n3_ n4_; intro HO683 HO686 HO689 BK678 HB; (try clear hb); (try clear hb2); (try clear hk); (try clear hi); (try clear ho0); (try clear ho1); (try clear ho2)) | ((with_reducible refine gate_dst (N := 3) rfl ?_); refine bE 3 #[.int .i64 0, .slice none 0 0, .slice none 0 0, .slice none 0 0] 44 ?_; intro gb690 hg w13 hbox hb; have n0_ := Rb HO683 hb; have n1_ := Rb HO686 hb; have n2_ := Rb HO689 hb; have n3_ := Kb BK678 hb; have n4_ := Bc HB hb; have n5_ := am (hbox); have n6_ := Gm HB hg; have n7_ := Gm HB hg; have n8_ := Nl BK678 hg; have n9_ := Ng BK678 hg; clear HO683 HO686 HO689 BK678 HB; revert n0_ n1_ n2_ n3_ n4_ n5_ n6_ n7_ n8_ n9_; intro HO683 HO686 HO689 BK678 HB BK690 GW690 GE690 NB678_690 NB690_678; clear hb hbox hg; have hnb14 := NB690_678.out; have hnc14 := NB678_690.out; obtain ⟨hcz15_0, hcz15_1, hcz15_2, hcz15_3, hfz15_0, hfz15_1, hfz15_2, hfz15_3⟩ := cf4 (w := w13) BK690; obtain ⟨Ao16, co16, eo16⟩ := Kd.R_slice HO683.out; subst eo16; obtain ⟨Ao17, co17, eo17⟩ := Kd.R_slice HO686.out; subst eo17; obtain ⟨Ao18, co18, eo18⟩ := Kd.R_slice HO689.out; subst eo18; obtain ⟨hcz19_0, hcz19_1, hcz19_2, hcz19_3, hfz19_0, hfz19_1, hfz19_2, hfz19_3⟩ := cf4 (w := w13) BK678) | ((with_reducible refine gate_callee (f := 86) rfl ?_); refine gL (some 15) Tryz.func86 #[.slice Ao17 t684.length co17, .slice A0_2 l0_2.length c0_2] ?_; (with_reducible refine (slices_Equal_int_int.calls k _ _ t684 _ _ l0_2 true _ ?side1 ?side2 ?side3 ?side4 A5.out).mono ?_); (case side1 => refine (Kd.R_reads' (e := 3) (base := w.heap.size) (ok := fun k_ => (some k_ ≠ (.slice Ao16 t681.length co16 : Value).ownBlock ∧ some k_ ≠ (.slice Ao18 t687.length co18 : Value).ownBlock)) (n := t684.length) (c := co17) ?_).2.2; exact (Rz (Kd.R_mono (Kd.R_far (p := ⟨gb690, 3, none⟩) (Kd.R_far (p := ⟨gb690, 2, none⟩) (Kd.R_far (p := ⟨gb690, 1, none⟩) (Kd.R_far (p := ⟨gb690, 0, none⟩) (Kd.R_types HO686.out BK690.out (by decide)) (fun _ hk => hk.2) (.int .i64 t680)) (fun _ hk => hk.2) (.slice Ao16 t681.length co16)) (fun _ hk => hk.2) (.slice Ao17 t684.length co17)) (fun _ hk => hk.2) (.slice Ao18 t687.length co18)) (fun _ h_ => h_.1)))); (case side2 => exact (Kd.R_reads' HO686.out).2.1); (case side3 => exact Kd.C_below HR0_2.out (Bq)); (case side4 => exact HC0_2.out); rintro e w' ⟨rfl, ⟨nd, rfl⟩⟩; refine ⟨_, rfl, ?_⟩) | (go_at_call 86; (with_reducible refine (slices_Equal_int_int.calls k _ _ t687 _ _ l0_3 t692 _ ?side1 ?side2 ?side3 ?side4 A7.out).mono ?_); (case side1 => refine (Kd.R_reads' (e := 3) (base := w.heap.size) (ok := fun k_ => (some k_ ≠ (.slice Ao16 t681.length co16 : Value).ownBlock ∧ some k_ ≠ (.slice Ao17 t684.length co17 : Value).ownBlock)) (n := t687.length) (c := co18) ?_).2.2; exact (Rz (Kd.R_mono (Kd.R_far (p := ⟨gb690, 3, none⟩) (Kd.R_far (p := ⟨gb690, 2, none⟩) (Kd.R_far (p := ⟨gb690, 1, none⟩) (Kd.R_far (p := ⟨gb690, 0, none⟩) (Kd.R_types HO689.out BK690.out (by decide)) (fun _ hk => hk.2) (.int .i64 t680)) (fun _ hk => hk.2) (.slice Ao16 t681.length co16)) (fun _ hk => hk.2) (.slice Ao17 t684.length co17)) (fun _ hk => hk.2) (.slice Ao18 t687.length co18)) (fun _ h_ => h_.1)))); (case side2 => exact (Kd.R_reads' HO689.out).2.1); (case side3 => exact Kd.C_below HR0_3.out (Bq)); (case side4 => exact HC0_3.out); rintro e w' ⟨rfl, ⟨nd, rfl⟩⟩))
   go_ret
   exact ⟨eZ, Bq⟩
  ·replace c6 := Bool.eq_false_iff.mpr c6
   subst c6
   rw [if_neg (show ¬ (false = true) by decide)] at H; obtain rfl := Option.some.inj H
   go_enter Tryz.func51, Tryz.ntmps51
   go_wp2_with (first | ((with_reducible refine gate_dst (N := 1) rfl ?_); refine bE 1 #[.int .i64 a0_0, .slice A0_1 l0_1.length c0_1, .slice A0_2 l0_2.length c0_2, .slice A0_3 l0_3.length c0_3] 44 ?_; intro gb678 hg w20 hbox hb; have n0_ := Bb HB hb; have n1_ := am (hbox); have n2_ := Gl HB hg; have n3_ := Gl HB hg; clear HB; revert n0_ n1_ n2_ n3_; intro HB BK678 GW678 GE678; clear hb hbox hg; obtain ⟨hcz21_0, hcz21_1, hcz21_2, hcz21_3, hfz21_0, hfz21_1, hfz21_2, hfz21_3⟩ := cf4 (w := w20) BK678) | ((with_reducible refine gate_callee (f := 55) rfl ?_); refine gL (some 6) Tryz.func55 #[.agg #[.int .i64 a0_0, .slice A0_1 l0_1.length c0_1]] ?_; (with_reducible refine (impl_IsBits.calls k a0_0 _ _ l0_1 true _ ?side1 ?side2 A2.out).mono ?_); (case side1 => exact Cz (Kd.C_below HR0_1.out HB.out)); (case side2 => exact HC0_1.out); rintro e w22 ⟨rfl, hb⟩; refine ⟨_, rfl, ?_⟩; have n0_ := Kb BK678 hb; have n1_ := Bc HB hb; clear BK678 HB; revert n0_ n1_; intro BK678 HB; (try clear hb); (try clear hb2); (try clear hk); (try clear hi); obtain ⟨hcz23_0, hcz23_1, hcz23_2, hcz23_3, hfz23_0, hfz23_1, hfz23_2, hfz23_3⟩ := cf4 (w := w22) BK678) | ((with_reducible refine gate_callee (f := 44) rfl ?_); refine gL (some 10) Tryz.func44 #[.agg #[.int .i64 a0_0, .slice A0_1 l0_1.length c0_1]] ?_; (with_reducible refine (impl_ranked.calls k a0_0 _ _ l0_1 t680 t681 t684 t687 _ ?side1 ?side2 A4.out).mono ?_); (case side1 => exact Cz (Kd.C_below HR0_1.out HB.out)); (case side2 => exact HC0_1.out); rintro e w24 ⟨v682, v685, v688, rfl, ho0, ho1, ho2, hb⟩; refine ⟨_, rfl, ?_⟩; have n0_ := Rm ho0 HB; have n1_ := Rm ho1 HB; have n2_ := Rm ho2 HB; have n3_ := Kb BK678 hb; have n4_ := Bc HB hb; clear BK678 HB; revert n0_ n1_ n2_ n3_ n4_; intro HO683 HO686 HO689 BK678 HB; (try clear hb); (try clear hb2); (try clear hk); (try clear hi); (try clear ho0); (try clear ho1); (try clear ho2)) | ((with_reducible refine gate_dst (N := 3) rfl ?_); refine bE 3 #[.int .i64 0, .slice none 0 0, .slice none 0 0, .slice none 0 0] 44 ?_; intro gb690 hg w25 hbox hb; have n0_ := Rb HO683 hb; have n1_ := Rb HO686 hb; have n2_ := Rb HO689 hb; have n3_ := Kb BK678 hb; have n4_ := Bc HB hb; have n5_ := am (hbox); have n6_ := Gm HB hg; have n7_ := Gm HB hg; have n8_ := Nl BK678 hg; have n9_ := Ng BK678 hg; clear HO683 HO686 HO689 BK678 HB; revert n0_ n1_ n2_ n3_ n4_ n5_ n6_ n7_ n8_ n9_; intro HO683 HO686 HO689 BK678 HB BK690 GW690 GE690 NB678_690 NB690_678; clear hb hbox hg; have hnb26 := NB690_678.out; have hnc26 := NB678_690.out; obtain ⟨hcz27_0, hcz27_1, hcz27_2, hcz27_3, hfz27_0, hfz27_1, hfz27_2, hfz27_3⟩ := cf4 (w := w25) BK690; obtain ⟨Ao28, co28, eo28⟩ := Kd.R_slice HO683.out; subst eo28; obtain ⟨Ao29, co29, eo29⟩ := Kd.R_slice HO686.out; subst eo29; obtain ⟨Ao30, co30, eo30⟩ := Kd.R_slice HO689.out; subst eo30; obtain ⟨hcz31_0, hcz31_1, hcz31_2, hcz31_3, hfz31_0, hfz31_1, hfz31_2, hfz31_3⟩ := cf4 (w := w25) BK678) | ((with_reducible refine gate_callee (f := 86) rfl ?_); refine gL (some 15) Tryz.func86 #[.slice Ao29 t684.length co29, .slice A0_2 l0_2.length c0_2] ?_; (with_reducible refine (slices_Equal_int_int.calls k _ _ t684 _ _ l0_2 false _ ?side1 ?side2 ?side3 ?side4 A5.out).mono ?_); (case side1 => refine (Kd.R_reads' (e := 3) (base := w.heap.size) (ok := fun k_ => (some k_ ≠ (.slice Ao28 t681.length co28 : Value).ownBlock ∧ some k_ ≠ (.slice Ao30 t687.length co30 : Value).ownBlock)) (n := t684.length) (c := co29) ?_).2.2; exact (Rz (Kd.R_mono (Kd.R_far (p := ⟨gb690, 3, none⟩) (Kd.R_far (p := ⟨gb690, 2, none⟩) (Kd.R_far (p := ⟨gb690, 1, none⟩) (Kd.R_far (p := ⟨gb690, 0, none⟩) (Kd.R_types HO686.out BK690.out (by decide)) (fun _ hk => hk.2) (.int .i64 t680)) (fun _ hk => hk.2) (.slice Ao28 t681.length co28)) (fun _ hk => hk.2) (.slice Ao29 t684.length co29)) (fun _ hk => hk.2) (.slice Ao30 t687.length co30)) (fun _ h_ => h_.1)))); (case side2 => exact (Kd.R_reads' HO686.out).2.1); (case side3 => exact Kd.C_below HR0_2.out (Bq)); (case side4 => exact HC0_2.out); rintro e w' ⟨rfl, ⟨nd, rfl⟩⟩; refine ⟨_, rfl, ?_⟩))
   go_ret
   exact ⟨eZ, Bq⟩
 ·replace c3 := Bool.eq_false_iff.mpr c3
  subst c3
  rw [if_neg (show ¬ (false = true) by decide)] at H; obtain rfl := Option.some.inj H
  go_enter Tryz.func51, Tryz.ntmps51
  go_wp2_with (first | ((with_reducible refine gate_dst (N := 1) rfl ?_); refine bE 1 #[.int .i64 a0_0, .slice A0_1 l0_1.length c0_1, .slice A0_2 l0_2.length c0_2, .slice A0_3 l0_3.length c0_3] 44 ?_; intro gb678 hg w32 hbox hb; have n0_ := Bb HB hb; have n1_ := am (hbox); have n2_ := Gl HB hg; have n3_ := Gl HB hg; clear HB; revert n0_ n1_ n2_ n3_; intro HB BK678 GW678 GE678; clear hb hbox hg; obtain ⟨hcz33_0, hcz33_1, hcz33_2, hcz33_3, hfz33_0, hfz33_1, hfz33_2, hfz33_3⟩ := cf4 (w := w32) BK678) | ((with_reducible refine gate_callee (f := 55) rfl ?_); refine gL (some 6) Tryz.func55 #[.agg #[.int .i64 a0_0, .slice A0_1 l0_1.length c0_1]] ?_; (with_reducible refine (impl_IsBits.calls k a0_0 _ _ l0_1 false _ ?side1 ?side2 A2.out).mono ?_); (case side1 => exact Cz (Kd.C_below HR0_1.out HB.out)); (case side2 => exact HC0_1.out); rintro e w34 ⟨rfl, hb⟩; refine ⟨_, rfl, ?_⟩; have n0_ := Kb BK678 hb; have n1_ := Bc HB hb; clear BK678 HB; revert n0_ n1_; intro BK678 HB; (try clear hb); (try clear hb2); (try clear hk); (try clear hi)))
  go_ret
  exact ⟨eZ, Bq⟩

def impl_Rank1.f (k : Nat) (a0_0 : Int) (l0_1 : List Int) (l0_2 : List Int) (l0_3 : List Int) (a1 : Int) : Option (Int × Bool) := (impl_IsRanked.f k a0_0 l0_1 l0_2 l0_3).bind fun t699 => (if t699 = true then ((impl_in.f a1 0 a0_0).bind fun t700 => (if t700 = true then ((impl_Bits_count.f k a0_0 l0_1 0 a1).bind fun t701 => (some (t701, true))) else (some (0, false)))) else (some (0, false)))
theorem impl_Rank1.calls (k : Nat) (a0_0 : Int) (A0_1 : Option Addr) (c0_1 : Nat) (l0_1 : List Int) (A0_2 : Option Addr) (c0_2 : Nat) (l0_2 : List Int) (A0_3 : Option Addr) (c0_3 : Nat) (l0_3 : List Int) (a1 : Int) (r1 : Int) (r2 : Bool) (w : World) (hr0_1 : Kd.C (Kd.int .i64) w A0_1 l0_1.length l0_1) (hc0_1 : l0_1.length ≤ c0_1) (hr0_2 : Kd.C (Kd.int .i64) w A0_2 l0_2.length l0_2) (hc0_2 : l0_2.length ≤ c0_2) (hr0_3 : Kd.C (Kd.int .i64) w A0_3 l0_3.length l0_3) (hc0_3 : l0_3.length ≤ c0_3) (h : impl_Rank1.f k a0_0 l0_1 l0_2 l0_3 a1 = some (r1, r2)) :
  Calls Tryz.prog 15 #[.agg #[.int .i64 a0_0, .slice A0_1 l0_1.length c0_1, .slice A0_2 l0_2.length c0_2, .slice A0_3 l0_3.length c0_3], .int .i64 a1] w fun e w' => e = .returned (.tuple #[.int .i64 r1, .bool r2]) ∧ Below w.heap.size w w' := by
 have hu44 := Tryz.underlying44; have HR0_1 := am hr0_1; have HC0_1 := am hc0_1; clear hr0_1 hc0_1; have HR0_2 := am hr0_2; have HC0_2 := am hc0_2; clear hr0_2 hc0_2; have HR0_3 := am hr0_3; have HC0_3 := am hc0_3; clear hr0_3 hc0_3; have HB := am (Below.refl w.heap.size w); have H : ((impl_IsRanked.f k a0_0 l0_1 l0_2 l0_3).bind fun t699 => (if t699 = true then ((impl_in.f a1 0 a0_0).bind fun t700 => (if t700 = true then ((impl_Bits_count.f k a0_0 l0_1 0 a1).bind fun t701 => (some (t701, true))) else (some (0, false)))) else (some (0, false)))) = some (r1, r2) := h; clear h; replace H := Option.bind_eq_some_iff.mp H; obtain ⟨t699, A30, H⟩ := H; (try dsimp -simprocs only at H); have A3 := am A30; clear A30
 by_cases c4 : t699 = true
 ·subst c4
  rw [if_pos rfl] at H; replace H := Option.bind_eq_some_iff.mp H; obtain ⟨t700, A50, H⟩ := H; (try dsimp -simprocs only at H); have A5 := am A50; clear A50
  by_cases c6 : t700 = true
  ·subst c6
   rw [if_pos rfl] at H; replace H := Option.bind_eq_some_iff.mp H; obtain ⟨t701, A70, H⟩ := H; (try dsimp -simprocs only at H); have A7 := am A70; clear A70
   simp only [Option.some.injEq, Prod.mk.injEq] at H
   obtain ⟨rfl, rfl⟩ := H
   go_enter Tryz.func15, Tryz.ntmps15
   go_wp2_with (first | ((with_reducible refine gate_dst (N := 2) rfl ?_); refine bE 2 #[.int .i64 a0_0, .slice A0_1 l0_1.length c0_1, .slice A0_2 l0_2.length c0_2, .slice A0_3 l0_3.length c0_3] 44 ?_; intro gb698 hg w8 hbox hb; have n0_ := Bb HB hb; have n1_ := am (hbox); have n2_ := Gl HB hg; have n3_ := Gl HB hg; clear HB; revert n0_ n1_ n2_ n3_; intro HB BK698 GW698 GE698; clear hb hbox hg; obtain ⟨hcz9_0, hcz9_1, hcz9_2, hcz9_3, hfz9_0, hfz9_1, hfz9_2, hfz9_3⟩ := cf4 (w := w8) BK698) | ((with_reducible refine gate_callee (f := 51) rfl ?_); refine gL (some 7) Tryz.func51 #[.agg #[.int .i64 a0_0, .slice A0_1 l0_1.length c0_1, .slice A0_2 l0_2.length c0_2, .slice A0_3 l0_3.length c0_3]] ?_; (with_reducible refine (impl_IsRanked.calls k a0_0 _ _ l0_1 _ _ l0_2 _ _ l0_3 true _ ?side1 ?side2 ?side3 ?side4 ?side5 ?side6 A3.out).mono ?_); (case side1 => exact Cz (Kd.C_below HR0_1.out HB.out)); (case side2 => exact HC0_1.out); (case side3 => exact Cz (Kd.C_below HR0_2.out HB.out)); (case side4 => exact HC0_2.out); (case side5 => exact Cz (Kd.C_below HR0_3.out HB.out)); (case side6 => exact HC0_3.out); rintro e w10 ⟨rfl, hb⟩; refine ⟨_, rfl, ?_⟩; have n0_ := Kb BK698 hb; have n1_ := Bc HB hb; clear BK698 HB; revert n0_ n1_; intro BK698 HB; (try clear hb); (try clear hb2); (try clear hk); (try clear hi); obtain ⟨hcz11_0, hcz11_1, hcz11_2, hcz11_3, hfz11_0, hfz11_1, hfz11_2, hfz11_3⟩ := cf4 (w := w10) BK698) | (go_at_call 52; (with_reducible refine (impl_in.calls a1 0 a0_0 true _ A5.out).mono ?_); rintro e w' ⟨rfl, ⟨nd, rfl⟩⟩) | ((with_reducible refine gate_callee (f := 53) rfl ?_); refine gL (some 19) Tryz.func53 #[.pointer (some ⟨gb698, 0, none⟩), .int .i64 0, .int .i64 a1] ?_; (with_reducible refine (impl_Bits_count.calls_v0_44_0 k gb698 (.slice A0_2 l0_2.length c0_2) (.slice A0_3 l0_3.length c0_3) a0_0 A0_1 c0_1 l0_1 0 a1 t701 _ ?side1 ?side2 ?side3 A7.out).mono ?_); (case side1 => exact Kz BK698.out); (case side2 => exact Cz (Kd.C_below HR0_1.out (Bq))); (case side3 => exact HC0_1.out); rintro e w' ⟨rfl, ⟨nd, rfl⟩⟩; refine ⟨_, rfl, ?_⟩))
   go_ret2
   exact ⟨eZ, Bq⟩
  ·replace c6 := Bool.eq_false_iff.mpr c6
   subst c6
   rw [if_neg (show ¬ (false = true) by decide)] at H
   simp only [Option.some.injEq, Prod.mk.injEq] at H
   obtain ⟨rfl, rfl⟩ := H
   go_enter Tryz.func15, Tryz.ntmps15
   go_wp2_with (first | ((with_reducible refine gate_dst (N := 2) rfl ?_); refine bE 2 #[.int .i64 a0_0, .slice A0_1 l0_1.length c0_1, .slice A0_2 l0_2.length c0_2, .slice A0_3 l0_3.length c0_3] 44 ?_; intro gb698 hg w12 hbox hb; have n0_ := Bb HB hb; have n1_ := am (hbox); have n2_ := Gl HB hg; have n3_ := Gl HB hg; clear HB; revert n0_ n1_ n2_ n3_; intro HB BK698 GW698 GE698; clear hb hbox hg; obtain ⟨hcz13_0, hcz13_1, hcz13_2, hcz13_3, hfz13_0, hfz13_1, hfz13_2, hfz13_3⟩ := cf4 (w := w12) BK698) | ((with_reducible refine gate_callee (f := 51) rfl ?_); refine gL (some 7) Tryz.func51 #[.agg #[.int .i64 a0_0, .slice A0_1 l0_1.length c0_1, .slice A0_2 l0_2.length c0_2, .slice A0_3 l0_3.length c0_3]] ?_; (with_reducible refine (impl_IsRanked.calls k a0_0 _ _ l0_1 _ _ l0_2 _ _ l0_3 true _ ?side1 ?side2 ?side3 ?side4 ?side5 ?side6 A3.out).mono ?_); (case side1 => exact Cz (Kd.C_below HR0_1.out HB.out)); (case side2 => exact HC0_1.out); (case side3 => exact Cz (Kd.C_below HR0_2.out HB.out)); (case side4 => exact HC0_2.out); (case side5 => exact Cz (Kd.C_below HR0_3.out HB.out)); (case side6 => exact HC0_3.out); rintro e w14 ⟨rfl, hb⟩; refine ⟨_, rfl, ?_⟩; have n0_ := Kb BK698 hb; have n1_ := Bc HB hb; clear BK698 HB; revert n0_ n1_; intro BK698 HB; (try clear hb); (try clear hb2); (try clear hk); (try clear hi); obtain ⟨hcz15_0, hcz15_1, hcz15_2, hcz15_3, hfz15_0, hfz15_1, hfz15_2, hfz15_3⟩ := cf4 (w := w14) BK698) | (go_at_call 52; (with_reducible refine (impl_in.calls a1 0 a0_0 false _ A5.out).mono ?_); rintro e w' ⟨rfl, ⟨nd, rfl⟩⟩))
   go_ret2
   exact ⟨eZ, Bq⟩
 ·replace c4 := Bool.eq_false_iff.mpr c4
  subst c4
  rw [if_neg (show ¬ (false = true) by decide)] at H
  simp only [Option.some.injEq, Prod.mk.injEq] at H
  obtain ⟨rfl, rfl⟩ := H
  go_enter Tryz.func15, Tryz.ntmps15
  go_wp2_with (first | ((with_reducible refine gate_dst (N := 2) rfl ?_); refine bE 2 #[.int .i64 a0_0, .slice A0_1 l0_1.length c0_1, .slice A0_2 l0_2.length c0_2, .slice A0_3 l0_3.length c0_3] 44 ?_; intro gb698 hg w16 hbox hb; have n0_ := Bb HB hb; have n1_ := am (hbox); have n2_ := Gl HB hg; have n3_ := Gl HB hg; clear HB; revert n0_ n1_ n2_ n3_; intro HB BK698 GW698 GE698; clear hb hbox hg; obtain ⟨hcz17_0, hcz17_1, hcz17_2, hcz17_3, hfz17_0, hfz17_1, hfz17_2, hfz17_3⟩ := cf4 (w := w16) BK698) | ((with_reducible refine gate_callee (f := 51) rfl ?_); refine gL (some 7) Tryz.func51 #[.agg #[.int .i64 a0_0, .slice A0_1 l0_1.length c0_1, .slice A0_2 l0_2.length c0_2, .slice A0_3 l0_3.length c0_3]] ?_; (with_reducible refine (impl_IsRanked.calls k a0_0 _ _ l0_1 _ _ l0_2 _ _ l0_3 false _ ?side1 ?side2 ?side3 ?side4 ?side5 ?side6 A3.out).mono ?_); (case side1 => exact Cz (Kd.C_below HR0_1.out HB.out)); (case side2 => exact HC0_1.out); (case side3 => exact Cz (Kd.C_below HR0_2.out HB.out)); (case side4 => exact HC0_2.out); (case side5 => exact Cz (Kd.C_below HR0_3.out HB.out)); (case side6 => exact HC0_3.out); rintro e w18 ⟨rfl, hb⟩; refine ⟨_, rfl, ?_⟩; have n0_ := Kb BK698 hb; have n1_ := Bc HB hb; clear BK698 HB; revert n0_ n1_; intro BK698 HB; (try clear hb); (try clear hb2); (try clear hk); (try clear hi)))
  go_ret2
  exact ⟨eZ, Bq⟩

def laws_pHas.l0 : Nat → Int → List Int → Int → Int → Option (Bool)
 | 0, _, _, _, _ => none
 | k + 1, x1, x7, x8, x9 => if x9 < x8 then (if 0 ≤ x9 then (if x9 < (x7.length : Int) then (if (rd x7 x9) = x1 then (some true) else (laws_pHas.l0 k x1 x7 x8 (wrap64 (x9 + 1)))) else (none)) else (none)) else (some false)
def laws_pHas.f (k : Nat) (l0 : List Int) (a1 : Int) : Option (Bool) := laws_pHas.l0 k a1 l0 (l0.length : Int) 0
theorem laws_pHas.calls (k : Nat) (A0 : Option Addr) (c0 : Nat) (l0 : List Int) (a1 : Int) (r : Bool) (w : World) (hr0 : Kd.C (Kd.int .i64) w A0 l0.length l0) (hc0 : l0.length ≤ c0) (h : laws_pHas.f k l0 a1 = some r) :
  Calls Tryz.prog 16 #[.slice A0 l0.length c0, .int .i64 a1] w fun e w' => e = .returned (.bool r) ∧ Drawn0 w w' := by
 have HR0 := am hr0; have HC0 := am hc0; clear hr0 hc0; have H : (laws_pHas.l0 k a1 l0 (l0.length : Int) 0) = some r := h; clear h; have H' := am H; clear H
 go_enter Tryz.func16, Tryz.ntmps16
 go_wp2
 go_loopg [9] k (fun kq v9 w' => ∃ (x9_1 : Int), v9 = .int .i64 x9_1 ∧ Aside0 (laws_pHas.l0 kq a1 l0 (l0.length : Int) x9_1 = some r) ∧ Aside0 (kq ≤ k) ∧ Drawn0 w w')
 case atStart => exact ⟨(0), wZ, H', ⟨Nat.le_refl _⟩, by repeat (first | exact Drawn0.refl _ | apply Drawn0.step)⟩
 case round =>
  clear H'
  try clear c1
  try clear p2
  obtain ⟨x9_1, rfl, HA, HK1, ⟨m1, rfl⟩⟩ := hrel; cases gk with
  | zero => exact absurd HA.out (by simp [laws_pHas.l0])
  | succ k1 =>
   have H := HA.out; clear HA
   simp only [laws_pHas.l0] at H
   by_cases c3 : x9_1 < (l0.length : Int)
   ·rw [if_pos c3] at H
    have c3b0 : decide (x9_1 < (l0.length : Int)) = true := decide_eq_true c3; clear c3
    by_cases c4 : 0 ≤ x9_1
    ·rw [if_pos c4] at H
     have c4b0 : decide (0 ≤ x9_1) = true := decide_eq_true c4; clear c4
     by_cases c5 : x9_1 < (l0.length : Int)
     ·rw [if_pos c5] at H
      have c5b0 : decide (x9_1 < (l0.length : Int)) = true := decide_eq_true c5; clear c5
      by_cases c6 : (rd l0 x9_1) = a1
      ·rw [if_pos c6] at H
       have c6b0 : ((rd l0 x9_1) == a1) = true := beq_iff_eq.mpr c6; have c6b1 : ((rd l0 x9_1) != a1) = false := bne_eq_false_iff_eq.mpr c6; clear c6; obtain rfl := Option.some.inj H; obtain ⟨ad702, e702, hx702_0⟩ := Kd.at_int HR0.out x9_1 dT dT; cases e702; have p702 := eT (0 ≤ (x9_1 : Int)); have q702 := eT (x9_1 < (l0.length : Int))
       go_wp2
       go_ret
       exact ⟨by first | rfl | (simp; done) | (simp [*]; done), by repeat (first | exact Drawn0.refl _ | apply Drawn0.step)⟩
      ·rw [if_neg c6] at H
       have c6b0 : ((rd l0 x9_1) == a1) = false := beq_eq_false_iff_ne.mpr c6; have c6b1 : ((rd l0 x9_1) != a1) = true := bne_iff_ne.mpr c6; have H' := am H; clear H; obtain ⟨ad702, e702, hx702_0⟩ := Kd.at_int HR0.out x9_1 dT dT; cases e702; have p702 := eT (0 ≤ (x9_1 : Int)); have q702 := eT (x9_1 < (l0.length : Int))
       go_wp2
       go_roundg k1
       case measure => have := HK1.out; omega
       case rel => exact ⟨(wrap64 (x9_1 + 1)), wZ, H', ⟨by have := HK1.out; omega⟩, by repeat (first | exact Drawn0.refl _ | apply Drawn0.step)⟩
     ·rw [if_neg c5] at H
      exact absurd H (by simp)
    ·rw [if_neg c4] at H
     exact absurd H (by simp)
   ·rw [if_neg c3] at H
    have c3b0 : decide (x9_1 < (l0.length : Int)) = false := decide_eq_false c3; clear c3; obtain rfl := Option.some.inj H
    go_wp2
    go_ret
    exact ⟨by first | rfl | (simp; done) | (simp [*]; done), by repeat (first | exact Drawn0.refl _ | apply Drawn0.step)⟩

def impl_Bits_setField.l0 : Nat → Int → Int → Int → Int → Int → List Int → Option (List Int)
 | 0, _, _, _, _, _, _ => none
 | k + 1, x1, x3, x9, x10, x1000, x1001 => if x10 < x9 then (if 0 ≤ x10 then ((impl_Bits_set.f x1000 x1001 (wrap64 (x1 + x10)) ((Go.bits .and .i64 (shr .i64 x3 x10) 1) == 1)).bind fun t703 => (impl_Bits_setField.l0 k x1 x3 x9 (wrap64 (x10 + 1)) x1000 t703)) else (none)) else (some x1001)
def impl_Bits_setField.f (k : Nat) (a0_0 : Int) (l0_1 : List Int) (a1 : Int) (a2 : Int) (a3 : Int) : Option (List Int) := impl_Bits_setField.l0 k a1 a3 a2 0 a0_0 l0_1
theorem impl_Bits_setField.calls (k : Nat) (g0 : Nat) (a0_0 : Int) (P0_1_ : Nat → Prop) (u9000_ : Value) (l0_1 : List Int) (a1 : Int) (a2 : Int) (a3 : Int) (r : List Int) (w0 w : World) (hB : Below w0.heap.size w0 w) (hb0 : w.heap[g0]? = some (.cells #[.int .i64 a0_0, u9000_] 42 (0, 0))) (ho0_1 : Kd.R (Kd.int .i64) 3 w w0.heap.size P0_1_ u9000_ l0_1) (h : impl_Bits_setField.f k a0_0 l0_1 a1 a2 a3 = some r) :
  Calls Tryz.prog 88 #[.pointer (some ⟨g0, 0, none⟩), .int .i64 a1, .int .i64 a2, .int .i64 a3] w fun e w' => e = .returned (.tuple #[]) ∧ Kd.R (Kd.int .i64) 3 w' w0.heap.size (fun k_ => (P0_1_ k_ ∨ w.heap.size ≤ k_)) u9000_ r ∧ Below w0.heap.size w0 w' ∧ Kept w w' (fun k_ => P0_1_ k_) := by
 have HO0_1 := am (show Kd.R (Kd.int .i64) 3 w w0.heap.size (fun k_ => (P0_1_ k_ ∨ w.heap.size ≤ k_)) u9000_ l0_1 from Kd.R_mono ho0_1 (fun k_ hk => (.inl hk))); have HK := am (Kept.refl w (fun k_ => P0_1_ k_)); have BK0 := am hb0; clear hb0; have HW0 := am hB.size; have HB := am hB; clear hB; have H : (impl_Bits_setField.l0 k a1 a3 a2 0 a0_0 l0_1) = some r := h; clear h; have H' := am H; clear H
 go_enter Tryz.func88, Tryz.ntmps88
 go_wp2
 go_loopg [10] k (fun kq v10 w' => ∃ (x10_1 : Int) (x1001_1 : List Int), v10 = .int .i64 x10_1 ∧ Aside0 (impl_Bits_setField.l0 kq a1 a3 a2 x10_1 a0_0 x1001_1 = some r) ∧ Aside0 (kq ≤ k) ∧ Aside0 (Kd.R (Kd.int .i64) 3 w' w0.heap.size (fun k_ => (P0_1_ k_ ∨ w.heap.size ≤ k_)) u9000_ x1001_1) ∧ Aside0 (w'.heap[g0]? = some (.cells #[.int .i64 a0_0, u9000_] 42 (0, 0))) ∧ Aside0 (Kept w w' (fun k_ => P0_1_ k_)) ∧ Aside0 (Below w0.heap.size w0 w'))
 case atStart => exact ⟨(0), (l0_1), wZ, H', ⟨Nat.le_refl _⟩, ⟨Rz HO0_1.out⟩, ⟨Kz BK0.out⟩, ⟨by repeat (first | (with_reducible first | exact HK.out | apply Kept.alloc | apply Kept.drewN | apply Kept.drew | refine Kept.setCell ?_ (.inr GW0.out) _) | exact HK.out)⟩, ⟨Bq⟩⟩
 case round =>
  clear H'
  try clear p2
  obtain ⟨x10_1, x1001_1, rfl, HA, HK1, HO_1001, BK0, HK, HB⟩ := hrel; cases gk with
  | zero => exact absurd HA.out (by simp [impl_Bits_setField.l0])
  | succ k1 =>
   have H := HA.out; clear HA
   simp only [impl_Bits_setField.l0] at H
   by_cases c5 : x10_1 < a2
   ·rw [if_pos c5] at H
    have c5b0 : decide (x10_1 < a2) = true := decide_eq_true c5; clear c5
    by_cases c6 : 0 ≤ x10_1
    ·rw [if_pos c6] at H
     have c6b0 := eq_true c6; have c6b1 : decide (0 ≤ x10_1) = true := decide_eq_true c6; clear c6; obtain ⟨ji7, hji7⟩ : ∃ j_ : Int, (shr .i64 a3 x10_1) = j_ := ⟨_, rfl⟩
     replace H : ((impl_Bits_set.f a0_0 x1001_1 (wrap64 (a1 + x10_1)) ((Go.bits .and .i64 (ji7) 1) == 1)).bind fun t703 => (impl_Bits_setField.l0 k1 a1 a3 a2 (wrap64 (x10_1 + 1)) a0_0 t703)) = some r := by first | (rw [hji7] at H; exact H) | (simp only [hji7] at H ⊢; exact H)
     have hji7_ : (a3 / 2 ^ min x10_1.toNat 64) = ji7 := hji7; have hji7z : x10_1 ≤ 64 → (a3 / 2 ^ x10_1.toNat) = ji7 := shr_small hji7; replace H := Option.bind_eq_some_iff.mp H; obtain ⟨t703, A80, H⟩ := H; (try dsimp -simprocs only at H); have A8 := am A80; clear A80; have H' := am H; clear H; obtain ⟨Ao9, co9, eo9⟩ := Kd.R_slice HO_1001.out; subst eo9
     go_wp2_with (first | ((with_reducible refine gate_callee (f := 83) rfl ?_); refine goesL_ (some 22) rfl rfl Tryz.func83 (by kernel_rfl) rfl #[.pointer (some ⟨g0, 0, none⟩), .int .i64 (wrap64 (a1 + x10_1)), .bool ((Go.bits .and .i64 (ji7) 1) == 1)] rfl (by (try simp only [List.map_toArray, List.map_cons, List.map_nil]); first | done | (simp only [hji7]; rfl) | rfl | (simp only [List.length_drop, List.length_take]; rfl)) ?_; (with_reducible refine (impl_Bits_set.calls g0 a0_0 (fun k_ => some k_ = (.slice Ao9 x1001_1.length co9 : Value).ownBlock) (.slice Ao9 x1001_1.length co9) x1001_1 (wrap64 (a1 + x10_1)) ((Go.bits .and .i64 (ji7) 1) == 1) t703 w0 _ ?side1 ?side2 ?side3 A8.out).mono ?_); (case side1 => repeat (first | (with_reducible first | exact HB.out | apply below_alloc | apply pw_below_drewN | apply below_drew1 | refine below_set ?_ GE0.out) | exact HB.out)); (case side2 => exact Kz BK0.out); (case side3 => exact Kd.R_tight rfl HO_1001.out); rintro e w10 ⟨rfl, hy0, hb, hkp⟩; refine ⟨_, rfl, ?_⟩; have n0_ := am (Kd.R_reok rfl hy0 (fun k_ e_ => HO_1001.out.1 k_ e_)); have n1_ := am (blk_kept (Kz BK0.out) hkp (fun hs_ => (fun e_ => (Kd.R_ne HO_1001.out BK0.out (by decide)) e_) hs_)); have n2_ := am (Kept.then_ (S := (fun k_ => P0_1_ k_)) (by repeat (first | (with_reducible first | exact HK.out | apply Kept.alloc | apply Kept.drewN | apply Kept.drew | refine Kept.setCell ?_ (.inr GW0.out) _) | exact HK.out)) hkp (fun k_ hs_ => (fun e_ => (HO_1001.out.1 k_ e_.symm)) hs_)); have n3_ := am (hb); clear HO_1001 BK0 HK HB; revert n0_ n1_ n2_ n3_; intro HO_1001 BK0 HK HB; (try clear hb); (try clear hkp); (try clear hy0)))
     go_roundg k1
     case measure => have := HK1.out; omega
     case rel => exact ⟨(wrap64 (x10_1 + 1)), (t703), wZ, H', ⟨by have := HK1.out; omega⟩, ⟨Rz HO_1001.out⟩, ⟨Kz BK0.out⟩, ⟨by repeat (first | (with_reducible first | exact HK.out | apply Kept.alloc | apply Kept.drewN | apply Kept.drew | refine Kept.setCell ?_ (.inr GW0.out) _) | exact HK.out)⟩, ⟨Bq⟩⟩
    ·rw [if_neg c6] at H
     exact absurd H (by simp)
   ·rw [if_neg c5] at H
    have c5b0 : decide (x10_1 < a2) = false := decide_eq_false c5; clear c5; obtain rfl := Option.some.inj H
    go_wp2
    first | go_end0 | ((try simp only [Exit.inBlock, Exit.then]); refine bodyPost_ret (results_none rfl _ _ _) rfl ?_)
    exact ⟨eZ, Rz HO_1001.out, Bq, by repeat (first | (with_reducible first | exact HK.out | apply Kept.alloc | apply Kept.drewN | apply Kept.drew | refine Kept.setCell ?_ (.inr GW0.out) _) | exact HK.out)⟩

def impl_fields.l0 : Nat → Int → List Int → Int → Int → Int → List Int → Option (Int × List Int)
 | 0, _, _, _, _, _, _ => none
 | k + 1, x1, x13, x14, x15, x710000, x710001 => if x15 < x14 then (if 0 ≤ x15 then (if x15 < (x13.length : Int) then ((impl_Bits_setField.f k x710000 x710001 (wrap64 (x15 * x1)) x1 (rd x13 x15)).bind fun t711 => (impl_fields.l0 k x1 x13 x14 (wrap64 (x15 + 1)) x710000 t711)) else (none)) else (none)) else (some (x710000, x710001))
def impl_fields.f (k : Nat) (l0 : List Int) (a1 : Int) : Option (Int × List Int) := (impl_blank.f (wrap64 ((l0.length : Int) * a1))).bind fun bt705 => (impl_fields.l0 k a1 l0 (l0.length : Int) 0 bt705.1 bt705.2)
theorem impl_fields.calls (k : Nat) (A0 : Option Addr) (c0 : Nat) (l0 : List Int) (a1 : Int) (r1 : Int) (r2 : List Int) (w : World) (hr0 : Kd.C (Kd.int .i64) w A0 l0.length l0) (hc0 : l0.length ≤ c0) (h : impl_fields.f k l0 a1 = some (r1, r2)) :
  Calls Tryz.prog 54 #[.slice A0 l0.length c0, .int .i64 a1] w fun e w' => ∃ v1_ : Value, e = .returned (.agg #[.int .i64 r1, v1_]) ∧ Kd.R (Kd.int .i64) 3 w' w.heap.size (fun _ => True) v1_ r2 ∧ Below w.heap.size w w' := by
 have hu42 := Tryz.underlying42; have HR0 := am hr0; have HC0 := am hc0; clear hr0 hc0; have HB := am (Below.refl w.heap.size w); have H : ((impl_blank.f (wrap64 ((l0.length : Int) * a1))).bind fun bt705 => (impl_fields.l0 k a1 l0 (l0.length : Int) 0 bt705.1 bt705.2)) = some (r1, r2) := h; clear h; replace H := Option.bind_eq_some_iff.mp H; obtain ⟨⟨t705, t706⟩, A30, H⟩ := H; (try dsimp -simprocs only at H); have A3 := am A30; clear A30; have H' := am H; clear H
 go_enter Tryz.func54, Tryz.ntmps54
 go_wp2_with (first | ((with_reducible refine gate_dst (N := 4) rfl ?_); refine bE 4 #[.int .i64 0, .slice none 0 0] 42 ?_; intro gb704 hg w4 hbox hb; have n0_ := Bb HB hb; have n1_ := am (hbox); have n2_ := Gl HB hg; have n3_ := Gl HB hg; clear HB; revert n0_ n1_ n2_ n3_; intro HB BK704 GW704 GE704; clear hb hbox hg) | ((with_reducible refine gate_callee (f := 82) rfl ?_); refine gL (some 12) Tryz.func82 #[.int .i64 (wrap64 ((l0.length : Int) * a1))] ?_; (with_reducible refine (impl_blank.calls (wrap64 ((l0.length : Int) * a1)) t705 t706 _ A3.out).mono ?_); rintro e w5 ⟨v707, rfl, ho0, hb⟩; refine ⟨_, rfl, ?_⟩; have n0_ := Rm ho0 HB; have n1_ := Kb BK704 hb; have n2_ := Bc HB hb; clear BK704 HB; revert n0_ n1_ n2_; intro HO708 BK704 HB; (try clear hb); (try clear hb2); (try clear hk); (try clear hi); (try clear ho0)) | ((with_reducible refine gate_dst (N := 5) rfl ?_); refine bE 5 #[.int .i64 0, .slice none 0 0] 42 ?_; intro gb709 hg w6 hbox hb; have n0_ := Rb HO708 hb; have n1_ := Kb BK704 hb; have n2_ := Bc HB hb; have n3_ := am (hbox); have n4_ := Gm HB hg; have n5_ := Gm HB hg; have n6_ := Nl BK704 hg; have n7_ := Ng BK704 hg; clear HO708 BK704 HB; revert n0_ n1_ n2_ n3_ n4_ n5_ n6_ n7_; intro HO708 BK704 HB BK709 GW709 GE709 NB704_709 NB709_704; clear hb hbox hg; have hnb7 := NB709_704.out; have hnc7 := NB704_709.out; obtain ⟨hcz8_0, hcz8_1, hfz8_0, hfz8_1⟩ := cf2 (w := w6) BK709; obtain ⟨Ao9, co9, eo9⟩ := Kd.R_slice HO708.out; subst eo9))
 (try simp only [aP])
 go_loopg [15] k (fun kq v15 w' => ∃ (x15_1 : Int) (x710001_1 : List Int) (u710001 : Value), v15 = .int .i64 x15_1 ∧ Aside0 (impl_fields.l0 kq a1 l0 (l0.length : Int) x15_1 t705 x710001_1 = some (r1, r2)) ∧ Aside0 (kq ≤ k) ∧ Aside0 (Kd.R (Kd.int .i64) 3 w' w.heap.size (fun _ => True) u710001 x710001_1) ∧ Aside0 (w'.heap[gb704]? = some (.cells #[.int .i64 0, (.slice none 0 0)] 42 (0, 0))) ∧ Aside0 (w'.heap[gb709]? = some (.cells #[.int .i64 t705, u710001] 42 (0, 0))) ∧ Aside0 (Below w.heap.size w w'))
 case atStart => exact ⟨(0), (t706), (.slice Ao9 t706.length co9), wZ, H', ⟨Nat.le_refl _⟩, ⟨Rz (Kd.R_mono (Kd.R_far (p := ⟨gb709, 1, none⟩) (Kd.R_far (p := ⟨gb709, 0, none⟩) (Kd.R_types HO708.out BK709.out (by decide)) (fun _ hk => hk.2) (.int .i64 t705)) (fun _ hk => hk.2) (.slice Ao9 t706.length co9)) (fun _ hk => trivial))⟩, ⟨by (with_reducible repeat (first | refine blk_drewN ?_ _ | refine blk_drew ?_ | refine blk_alloc ?_ _)); refine blk_far ?_ NB704_709.out _; (with_reducible repeat (first | refine blk_drewN ?_ _ | refine blk_drew ?_ | refine blk_alloc ?_ _)); refine blk_far ?_ NB704_709.out _; (with_reducible repeat (first | refine blk_drewN ?_ _ | refine blk_drew ?_ | refine blk_alloc ?_ _)); exact BK704.out⟩, ⟨by (with_reducible repeat (first | refine blk_drewN ?_ _ | refine blk_drew ?_ | refine blk_alloc ?_ _)); refine blk_put (cs := #[.int .i64 t705, .slice none 0 0]) ?_ 1 _ rfl; (with_reducible repeat (first | refine blk_drewN ?_ _ | refine blk_drew ?_ | refine blk_alloc ?_ _)); refine blk_put (cs := #[.int .i64 0, .slice none 0 0]) ?_ 0 _ rfl; (with_reducible repeat (first | refine blk_drewN ?_ _ | refine blk_drew ?_ | refine blk_alloc ?_ _)); exact BK709.out⟩, ⟨Bq⟩⟩
 case round =>
  clear H'
  try clear p2
  try clear c5
  try clear p6
  try clear c7
  try clear c8
  try clear hcz8_0
  try clear hcz8_1
  try clear hfz8_0
  try clear hfz8_1
  obtain ⟨x15_1, x710001_1, u710001, rfl, HA, HK1, HO_710001, BK704, BK709, HB⟩ := hrel; cases gk with
  | zero => exact absurd HA.out (by simp [impl_fields.l0])
  | succ k1 =>
   have H := HA.out; clear HA
   simp only [impl_fields.l0] at H
   by_cases c10 : x15_1 < (l0.length : Int)
   ·rw [if_pos c10] at H
    have c10b0 : decide (x15_1 < (l0.length : Int)) = true := decide_eq_true c10; clear c10
    by_cases c11 : 0 ≤ x15_1
    ·rw [if_pos c11] at H
     have c11b0 : decide (0 ≤ x15_1) = true := decide_eq_true c11; clear c11
     by_cases c12 : x15_1 < (l0.length : Int)
     ·rw [if_pos c12] at H
      have c12b0 : decide (x15_1 < (l0.length : Int)) = true := decide_eq_true c12; clear c12; replace H := Option.bind_eq_some_iff.mp H; obtain ⟨t711, A130, H⟩ := H; (try dsimp -simprocs only at H); have A13 := am A130; clear A130; have H' := am H; clear H; have p710 : 0 ≤ (x15_1 : Int) := dT; have q710 : x15_1 < (l0.length : Int) := dT; obtain ⟨ad710, e710, hx710_0⟩ := Kd.at_int HR0.out x15_1 p710 q710; cases e710; replace hx710_0 := (HB.out.cell (World.block_lt_of_cell? w _ hx710_0)).trans hx710_0; replace p710 := eq_true p710; replace q710 := eq_true q710; obtain ⟨Ao14, co14, eo14⟩ := Kd.R_slice HO_710001.out; subst eo14
      go_wp2_with (first | ((with_reducible refine gate_callee (f := 88) rfl ?_); refine gL (some 25) Tryz.func88 #[.pointer (some ⟨gb709, 0, none⟩), .int .i64 (wrap64 (x15_1 * a1)), .int .i64 a1, .int .i64 (rd l0 x15_1)] ?_; (with_reducible refine (impl_Bits_setField.calls k1 gb709 t705 (fun k_ => some k_ = (.slice Ao14 x710001_1.length co14 : Value).ownBlock) (.slice Ao14 x710001_1.length co14) x710001_1 (wrap64 (x15_1 * a1)) a1 (rd l0 x15_1) t711 w _ ?side1 ?side2 ?side3 A13.out).mono ?_); (case side1 => repeat (first | (with_reducible first | exact HB.out | apply below_alloc | apply pw_below_drewN | apply below_drew1 | refine below_set ?_ GE704.out | refine below_set ?_ GE709.out) | exact HB.out)); (case side2 => exact Kz BK709.out); (case side3 => exact Kd.R_tight rfl HO_710001.out); rintro e w15 ⟨rfl, hy0, hb, hkp⟩; refine ⟨_, rfl, ?_⟩; have n0_ := am (Kd.R_reok rfl hy0 (fun k_ e_ => HO_710001.out.1 k_ e_)); have n1_ := am (blk_kept (Kz BK704.out) hkp (fun hs_ => (fun e_ => (Kd.R_ne HO_710001.out BK704.out (by decide)) e_) hs_)); have n2_ := am (blk_kept (Kz BK709.out) hkp (fun hs_ => (fun e_ => (Kd.R_ne HO_710001.out BK709.out (by decide)) e_) hs_)); have n3_ := am (hb); clear HO_710001 BK704 BK709 HB; revert n0_ n1_ n2_ n3_; intro HO_710001 BK704 BK709 HB; (try clear hb); (try clear hkp); (try clear hy0)))
      go_roundg k1
      case measure => have := HK1.out; omega
      case rel => exact ⟨(wrap64 (x15_1 + 1)), (t711), (.slice Ao14 x710001_1.length co14), wZ, H', ⟨by have := HK1.out; omega⟩, ⟨Rz HO_710001.out⟩, ⟨Kz BK704.out⟩, ⟨Kz BK709.out⟩, ⟨Bq⟩⟩
     ·rw [if_neg c12] at H
      exact absurd H (by simp)
    ·rw [if_neg c11] at H
     exact absurd H (by simp)
   ·rw [if_neg c10] at H
    have c10b0 : decide (x15_1 < (l0.length : Int)) = false := decide_eq_false c10; clear c10
    simp only [Option.some.injEq, Prod.mk.injEq] at H
    obtain ⟨rfl, rfl⟩ := H; have hnb16 := NB709_704.out; have hnc16 := NB704_709.out; obtain ⟨hcz17_0, hcz17_1, hfz17_0, hfz17_1⟩ := cf2 (w := wr) BK709; obtain ⟨hcz18_0, hcz18_1, hfz18_0, hfz18_1⟩ := cf2 (w := wr) BK704; obtain ⟨Ao19, co19, eo19⟩ := Kd.R_slice HO_710001.out; subst eo19
    go_wp2
    refine bodyPost_ret (results_cell_row rfl _ _ gb704 42 #[.int .i64 t705, .slice Ao19 x710001_1.length co19] (0, 0) _ rfl (by (with_reducible repeat (first | refine blk_drewN ?_ _ | refine blk_drew ?_ | refine blk_alloc ?_ _)); refine blk_put (cs := #[.int .i64 t705, .slice none 0 0]) ?_ 1 _ rfl; (with_reducible repeat (first | refine blk_drewN ?_ _ | refine blk_drew ?_ | refine blk_alloc ?_ _)); refine blk_put (cs := #[.int .i64 0, .slice none 0 0]) ?_ 0 _ rfl; exact Kz BK704.out) Tryz.underlying42 rfl (by kernel_rfl)) rfl ?_; exact ⟨_, eZ, Rz (Kd.R_mono (Kd.R_far (p := ⟨gb704, 1, none⟩) (Kd.R_far (p := ⟨gb704, 0, none⟩) (Kd.R_types HO_710001.out BK704.out (by decide)) (fun _ hk => hk.2) (.int .i64 t705)) (fun _ hk => hk.2) (.slice Ao19 x710001_1.length co19)) (fun _ hk => trivial)), Bq⟩

def impl_PackMarks.f (k : Nat) (a0_0 : Int) (a0_1 : Int) (l0_2 : List Int) : Option (Int × List Int × Bool) := (impl_IsPeeled.f k a0_0 a0_1 l0_2).bind fun t714 => (if t714 = true then ((impl_fields.f k l0_2 2).bind fun bt715 => (some (bt715.1, bt715.2, true))) else (some (0, ([] : List Int), false)))
theorem impl_PackMarks.calls (k : Nat) (a0_0 : Int) (a0_1 : Int) (A0_2 : Option Addr) (c0_2 : Nat) (l0_2 : List Int) (r1 : Int) (r2 : List Int) (r3 : Bool) (w : World) (hr0_2 : Kd.C (Kd.int .i64) w A0_2 l0_2.length l0_2) (hc0_2 : l0_2.length ≤ c0_2) (h : impl_PackMarks.f k a0_0 a0_1 l0_2 = some (r1, r2, r3)) :
  Calls Tryz.prog 17 #[.agg #[.int .i64 a0_0, .int .i64 a0_1, .slice A0_2 l0_2.length c0_2]] w fun e w' => ∃ v1_ : Value, e = .returned (.tuple #[.agg #[.int .i64 r1, v1_], .bool r3]) ∧ Kd.R (Kd.int .i64) 3 w' w.heap.size (fun _ => True) v1_ r2 ∧ Below w.heap.size w w' := by
 have hu29 := Tryz.underlying29; have hu42 := Tryz.underlying42; have HR0_2 := am hr0_2; have HC0_2 := am hc0_2; clear hr0_2 hc0_2; have HB := am (Below.refl w.heap.size w); have H : ((impl_IsPeeled.f k a0_0 a0_1 l0_2).bind fun t714 => (if t714 = true then ((impl_fields.f k l0_2 2).bind fun bt715 => (some (bt715.1, bt715.2, true))) else (some (0, ([] : List Int), false)))) = some (r1, r2, r3) := h; clear h; replace H := Option.bind_eq_some_iff.mp H; obtain ⟨t714, A20, H⟩ := H; (try dsimp -simprocs only at H); have A2 := am A20; clear A20
 by_cases c3 : t714 = true
 ·subst c3
  rw [if_pos rfl] at H; replace H := Option.bind_eq_some_iff.mp H; obtain ⟨⟨t715, t716⟩, A40, H⟩ := H; (try dsimp -simprocs only at H); have A4 := am A40; clear A40
  simp only [Option.some.injEq, Prod.mk.injEq] at H
  obtain ⟨rfl, rfl, rfl⟩ := H
  go_enter Tryz.func17, Tryz.ntmps17
  go_wp2_with (first | ((with_reducible refine gate_dst (N := 1) rfl ?_); refine bE 1 #[.int .i64 a0_0, .int .i64 a0_1, .slice A0_2 l0_2.length c0_2] 29 ?_; intro gb712 hg w5 hbox hb; have n0_ := Bb HB hb; have n1_ := am (hbox); have n2_ := Gl HB hg; have n3_ := Gl HB hg; clear HB; revert n0_ n1_ n2_ n3_; intro HB BK712 GW712 GE712; clear hb hbox hg) | ((with_reducible refine gate_dst (N := 2) rfl ?_); refine bE 2 #[.int .i64 0, .slice none 0 0] 42 ?_; intro gb713 hg w6 hbox hb; have n0_ := Kb BK712 hb; have n1_ := Bc HB hb; have n2_ := am (hbox); have n3_ := Gm HB hg; have n4_ := Gm HB hg; have n5_ := Nl BK712 hg; have n6_ := Ng BK712 hg; clear BK712 HB; revert n0_ n1_ n2_ n3_ n4_ n5_ n6_; intro BK712 HB BK713 GW713 GE713 NB712_713 NB713_712; clear hb hbox hg; have hnb7 := NB712_713.out; have hnc7 := NB713_712.out; obtain ⟨hcz8_0, hcz8_1, hcz8_2, hfz8_0, hfz8_1, hfz8_2⟩ := cf3 (w := w6) BK712) | ((with_reducible refine gate_callee (f := 43) rfl ?_); refine gL (some 5) Tryz.func43 #[.agg #[.int .i64 a0_0, .int .i64 a0_1, .slice A0_2 l0_2.length c0_2]] ?_; (with_reducible refine (impl_IsPeeled.calls k a0_0 a0_1 _ _ l0_2 true _ ?side1 ?side2 A2.out).mono ?_); (case side1 => exact Cz (Kd.C_below HR0_2.out HB.out)); (case side2 => exact HC0_2.out); rintro e w9 ⟨rfl, hb⟩; refine ⟨_, rfl, ?_⟩; have n0_ := Kb BK712 hb; have n1_ := Kb BK713 hb; have n2_ := Bc HB hb; clear BK712 BK713 HB; revert n0_ n1_ n2_; intro BK712 BK713 HB; (try clear hb); (try clear hb2); (try clear hk); (try clear hi); obtain ⟨hcz10_0, hcz10_1, hcz10_2, hfz10_0, hfz10_1, hfz10_2⟩ := cf3 (w := w9) BK712) | ((with_reducible refine gate_callee (f := 54) rfl ?_); refine gL (some 10) Tryz.func54 #[.slice A0_2 l0_2.length c0_2, .int .i64 2] ?_; (with_reducible refine (impl_fields.calls k _ _ l0_2 2 t715 t716 _ ?side1 ?side2 A4.out).mono ?_); (case side1 => exact Cz (Kd.C_below HR0_2.out HB.out)); (case side2 => exact HC0_2.out); rintro e w11 ⟨v717, rfl, ho0, hb⟩; refine ⟨_, rfl, ?_⟩; have n0_ := Rm ho0 HB; have n1_ := Kb BK712 hb; have n2_ := Kb BK713 hb; have n3_ := Bc HB hb; clear BK712 BK713 HB; revert n0_ n1_ n2_ n3_; intro HO718 BK712 BK713 HB; (try clear hb); (try clear hb2); (try clear hk); (try clear hi); (try clear ho0); obtain ⟨hcz12_0, hcz12_1, hfz12_0, hfz12_1⟩ := cf2 (w := w11) BK713; obtain ⟨Ao13, co13, eo13⟩ := Kd.R_slice HO718.out; subst eo13))
  refine bodyPost_ret (results_ct rfl _ _ gb713 42 #[.int .i64 t715, .slice Ao13 t716.length co13] (0, 0) _ rfl (by (with_reducible repeat (first | refine blk_drewN ?_ _ | refine blk_drew ?_ | refine blk_alloc ?_ _)); refine blk_put (cs := #[.int .i64 t715, .slice none 0 0]) ?_ 1 _ rfl; (with_reducible repeat (first | refine blk_drewN ?_ _ | refine blk_drew ?_ | refine blk_alloc ?_ _)); refine blk_put (cs := #[.int .i64 0, .slice none 0 0]) ?_ 0 _ rfl; exact Kz BK713.out) Tryz.underlying42 rfl (by kernel_rfl)) rfl ?_; exact ⟨_, eZ, Rz (Kd.R_mono (Kd.R_far (p := ⟨gb713, 1, none⟩) (Kd.R_far (p := ⟨gb713, 0, none⟩) (Kd.R_types HO718.out BK713.out (by decide)) (fun _ hk => hk.2) (.int .i64 t715)) (fun _ hk => hk.2) (.slice Ao13 t716.length co13)) (fun _ hk => trivial)), Bq⟩
 ·replace c3 := Bool.eq_false_iff.mpr c3
  subst c3
  rw [if_neg (show ¬ (false = true) by decide)] at H
  simp only [Option.some.injEq, Prod.mk.injEq] at H
  obtain ⟨rfl, rfl, rfl⟩ := H
  go_enter Tryz.func17, Tryz.ntmps17
  go_wp2_with (first | ((with_reducible refine gate_dst (N := 1) rfl ?_); refine bE 1 #[.int .i64 a0_0, .int .i64 a0_1, .slice A0_2 l0_2.length c0_2] 29 ?_; intro gb712 hg w14 hbox hb; have n0_ := Bb HB hb; have n1_ := am (hbox); have n2_ := Gl HB hg; have n3_ := Gl HB hg; clear HB; revert n0_ n1_ n2_ n3_; intro HB BK712 GW712 GE712; clear hb hbox hg) | ((with_reducible refine gate_dst (N := 2) rfl ?_); refine bE 2 #[.int .i64 0, .slice none 0 0] 42 ?_; intro gb713 hg w15 hbox hb; have n0_ := Kb BK712 hb; have n1_ := Bc HB hb; have n2_ := am (hbox); have n3_ := Gm HB hg; have n4_ := Gm HB hg; have n5_ := Nl BK712 hg; have n6_ := Ng BK712 hg; clear BK712 HB; revert n0_ n1_ n2_ n3_ n4_ n5_ n6_; intro BK712 HB BK713 GW713 GE713 NB712_713 NB713_712; clear hb hbox hg; have hnb16 := NB712_713.out; have hnc16 := NB713_712.out; obtain ⟨hcz17_0, hcz17_1, hcz17_2, hfz17_0, hfz17_1, hfz17_2⟩ := cf3 (w := w15) BK712) | ((with_reducible refine gate_callee (f := 43) rfl ?_); refine gL (some 5) Tryz.func43 #[.agg #[.int .i64 a0_0, .int .i64 a0_1, .slice A0_2 l0_2.length c0_2]] ?_; (with_reducible refine (impl_IsPeeled.calls k a0_0 a0_1 _ _ l0_2 false _ ?side1 ?side2 A2.out).mono ?_); (case side1 => exact Cz (Kd.C_below HR0_2.out HB.out)); (case side2 => exact HC0_2.out); rintro e w18 ⟨rfl, hb⟩; refine ⟨_, rfl, ?_⟩; have n0_ := Kb BK712 hb; have n1_ := Kb BK713 hb; have n2_ := Bc HB hb; clear BK712 BK713 HB; revert n0_ n1_ n2_; intro BK712 BK713 HB; (try clear hb); (try clear hb2); (try clear hk); (try clear hi); obtain ⟨hcz19_0, hcz19_1, hfz19_0, hfz19_1⟩ := cf2 (w := w18) BK713))
  refine bodyPost_ret (results_ct rfl _ _ gb713 42 #[.int .i64 0, .slice none 0 0] (0, 0) _ rfl (by (with_reducible repeat (first | refine blk_drewN ?_ _ | refine blk_drew ?_ | refine blk_alloc ?_ _)); refine blk_put (cs := #[.int .i64 0, .slice none 0 0]) ?_ 1 _ rfl; (with_reducible repeat (first | refine blk_drewN ?_ _ | refine blk_drew ?_ | refine blk_alloc ?_ _)); refine blk_put (cs := #[.int .i64 0, .slice none 0 0]) ?_ 0 _ rfl; exact Kz BK713.out) Tryz.underlying42 rfl (by kernel_rfl)) rfl ?_; exact ⟨_, eZ, nZ, Bq⟩

def impl_Bits_field.l0 : Nat → Int → Int → Int → Int → Int → List Int → Option (Int)
 | 0, _, _, _, _, _, _ => none
 | k + 1, x1, x7, x9, x10, x1000, x1001 => if x10 < x9 then ((impl_Bits_at.f x1000 x1001 (wrap64 (x1 + x10))).bind fun t719 => (if t719 = true then (if 0 ≤ x10 then (impl_Bits_field.l0 k x1 (Go.bits .or .i64 x7 (shl .i64 1 x10)) x9 (wrap64 (x10 + 1)) x1000 x1001) else (none)) else (impl_Bits_field.l0 k x1 x7 x9 (wrap64 (x10 + 1)) x1000 x1001))) else (some x7)
def impl_Bits_field.f (k : Nat) (a0_0 : Int) (l0_1 : List Int) (a1 : Int) (a2 : Int) : Option (Int) := impl_Bits_field.l0 k a1 0 a2 0 a0_0 l0_1
theorem impl_Bits_field.calls (k : Nat) (g0 : Nat) (a0_0 : Int) (A0_1 : Option Addr) (c0_1 : Nat) (l0_1 : List Int) (a1 : Int) (a2 : Int) (r : Int) (w : World) (hb0 : w.heap[g0]? = some (.cells #[.int .i64 a0_0, .slice A0_1 l0_1.length c0_1] 42 (0, 0))) (hr0_1 : Kd.C (Kd.int .i64) w A0_1 l0_1.length l0_1) (hc0_1 : l0_1.length ≤ c0_1) (h : impl_Bits_field.f k a0_0 l0_1 a1 a2 = some r) :
  Calls Tryz.prog 56 #[.pointer (some ⟨g0, 0, none⟩), .int .i64 a1, .int .i64 a2] w fun e w' => e = .returned (.int .i64 r) ∧ Drawn0 w w' := by
 have HR0_1 := am hr0_1; have HC0_1 := am hc0_1; clear hr0_1 hc0_1; have BK0 := am hb0; clear hb0; have H : (impl_Bits_field.l0 k a1 0 a2 0 a0_0 l0_1) = some r := h; clear h; have H' := am H; clear H
 go_enter Tryz.func56, Tryz.ntmps56
 go_wp2
 go_loopg [7, 10] k (fun kq v7 v10 w' => ∃ (x7_1 : Int) (x10_1 : Int), v7 = .int .i64 x7_1 ∧ v10 = .int .i64 x10_1 ∧ Aside0 (impl_Bits_field.l0 kq a1 x7_1 a2 x10_1 a0_0 l0_1 = some r) ∧ Aside0 (kq ≤ k) ∧ Aside0 (w'.heap[g0]? = some (.cells #[.int .i64 a0_0, (.slice A0_1 l0_1.length c0_1)] 42 (0, 0))) ∧ Drawn0 w w')
 case atStart => exact ⟨(0), (0), wZ, wZ, H', ⟨Nat.le_refl _⟩, ⟨Kz BK0.out⟩, by repeat (first | exact Drawn0.refl _ | apply Drawn0.step)⟩
 case round =>
  clear H'
  try clear p2
  obtain ⟨x7_1, x10_1, rfl, rfl, HA, HK1, BK0, ⟨m1, rfl⟩⟩ := hrel; cases gk with
  | zero => exact absurd HA.out (by simp [impl_Bits_field.l0])
  | succ k1 =>
   have H := HA.out; clear HA
   simp only [impl_Bits_field.l0] at H
   by_cases c4 : x10_1 < a2
   ·rw [if_pos c4] at H
    have c4b0 : decide (x10_1 < a2) = true := decide_eq_true c4; clear c4; replace H := Option.bind_eq_some_iff.mp H; obtain ⟨t719, A50, H⟩ := H; (try dsimp -simprocs only at H); have A5 := am A50; clear A50
    by_cases c6 : t719 = true
    ·subst c6
     rw [if_pos rfl] at H
     by_cases c7 : 0 ≤ x10_1
     ·rw [if_pos c7] at H
      have c7b0 := eq_true c7; have c7b1 : decide (0 ≤ x10_1) = true := decide_eq_true c7; clear c7; obtain ⟨ji8, hji8⟩ : ∃ j_ : Int, (shl .i64 1 x10_1) = j_ := ⟨_, rfl⟩
      replace H : (impl_Bits_field.l0 k1 a1 (Go.bits .or .i64 x7_1 (ji8)) a2 (wrap64 (x10_1 + 1)) a0_0 l0_1) = some r := by first | (rw [hji8] at H; exact H) | (simp only [hji8] at H ⊢; exact H)
      (try rw [hji8] at A5)
      have hji8_ : (IntKind.i64.wrap (1 * 2 ^ min x10_1.toNat 64)) = ji8 := hji8; have hji8z : x10_1 ≤ 64 → (IntKind.i64.wrap (1 * 2 ^ x10_1.toNat)) = ji8 := shl_small hji8
      have hji8u : (IntKind.i64.wrap (2 ^ min x10_1.toNat 64)) = ji8 := by have h_ := hji8_; rw [Int.one_mul] at h_; exact h_
      have hji8v : x10_1 ≤ 64 → (IntKind.i64.wrap (2 ^ x10_1.toNat)) = ji8 := fun hle_ => by have h_ := hji8z hle_; rw [Int.one_mul] at h_; exact h_
      have hji8y : (wrap64 (1 * 2 ^ min x10_1.toNat 64)) = ji8 := (i64_w _).symm.trans hji8_
      have hji8x : x10_1 ≤ 64 → (wrap64 (1 * 2 ^ x10_1.toNat)) = ji8 := fun h_ => (i64_w _).symm.trans (hji8z h_)
      have H' := am H; clear H
      go_wp2_with (first | ((with_reducible refine gate_callee (f := 87) rfl ?_); refine gL (some 17) Tryz.func87 #[.pointer (some ⟨g0, 0, none⟩), .int .i64 (wrap64 (a1 + x10_1))] ?_; (with_reducible refine (impl_Bits_at.calls g0 a0_0 A0_1 c0_1 l0_1 (wrap64 (a1 + x10_1)) true _ ?side1 ?side2 ?side3 A5.out).mono ?_); (case side1 => exact Kz BK0.out); (case side2 => exact Cz HR0_1.out); (case side3 => exact HC0_1.out); rintro e w' ⟨rfl, ⟨nd, rfl⟩⟩; refine ⟨_, rfl, ?_⟩))
      go_roundg k1
      case measure => have := HK1.out; omega
      case rel => exact ⟨(Go.bits .or .i64 x7_1 (ji8)), (wrap64 (x10_1 + 1)), (by first | rfl | (simp; done) | (simp only [← hji8] <;> (first | rfl | simp)) | (simp [*]; done)), wZ, H', ⟨by have := HK1.out; omega⟩, ⟨Kz BK0.out⟩, by repeat (first | exact Drawn0.refl _ | apply Drawn0.step)⟩
     ·rw [if_neg c7] at H
      exact absurd H (by simp)
    ·replace c6 := Bool.eq_false_iff.mpr c6
     subst c6
     rw [if_neg (show ¬ (false = true) by decide)] at H; have H' := am H; clear H
     go_wp2_with (first | ((with_reducible refine gate_callee (f := 87) rfl ?_); refine gL (some 17) Tryz.func87 #[.pointer (some ⟨g0, 0, none⟩), .int .i64 (wrap64 (a1 + x10_1))] ?_; (with_reducible refine (impl_Bits_at.calls g0 a0_0 A0_1 c0_1 l0_1 (wrap64 (a1 + x10_1)) false _ ?side1 ?side2 ?side3 A5.out).mono ?_); (case side1 => exact Kz BK0.out); (case side2 => exact Cz HR0_1.out); (case side3 => exact HC0_1.out); rintro e w' ⟨rfl, ⟨nd, rfl⟩⟩; refine ⟨_, rfl, ?_⟩))
     go_roundg k1
     case measure => have := HK1.out; omega
     case rel => exact ⟨(x7_1), (wrap64 (x10_1 + 1)), wZ, wZ, H', ⟨by have := HK1.out; omega⟩, ⟨Kz BK0.out⟩, by repeat (first | exact Drawn0.refl _ | apply Drawn0.step)⟩
   ·rw [if_neg c4] at H
    have c4b0 : decide (x10_1 < a2) = false := decide_eq_false c4; clear c4; obtain rfl := Option.some.inj H
    go_wp2
    go_ret
    exact ⟨by first | rfl | (simp; done) | (simp [*]; done), by repeat (first | exact Drawn0.refl _ | apply Drawn0.step)⟩

end Go.Proofs.YtmehagedoaopeaaGreat.PZ
-- printed by a program of this session (wip/gp) out of the translation; Lean checks it
namespace Go.Proofs.YtmehagedoaopeaaGreat.PZ
open Go.RowKit Go.Proofs.YtmehagedoaopeaaGreatW.PrintWords Go.Proofs.YtmehagedoaopeaaGreatW.PrintLast Go.Proofs.YtmehagedoaopeaaGreatW.PrintMore Go.Proofs.YtmehagedoaopeaaGreatSq
attribute [local go_sem] max2_int min2_int max_two min_two max_three min_three max_four min_four   -- for this text's walks alone
attribute [local go_sem] Go.Proofs.YtmehagedoaopeaaGreatGp.str_geq Go.Proofs.YtmehagedoaopeaaGreatGp.str_gtr Go.Proofs.YtmehagedoaopeaaGreatGp.str_leq
set_option linter.unusedVariables false
set_option linter.unusedSimpArgs false

set_option maxHeartbeats 8000000
set_option maxRecDepth 100000
mutual
def impl_UnpackMarks.j0 : Nat → Int → Int → Bool → Int → List Int → Option (Int × Int × List Int × Bool)
 | 0, _, _, _, _, _ => none
 | k + 1, x0, x1, x30, x721000, x721001 => if x30 = true then (some (0, 0, ([] : List Int), false)) else (impl_UnpackMarks.l0 k (wrap64 (3 * x1)) 0 x721000 x721001 x0 x1 ([] : List Int))
def impl_UnpackMarks.l0 : Nat → Int → Int → Int → List Int → Int → Int → List Int → Option (Int × Int × List Int × Bool)
 | 0, _, _, _, _, _, _, _ => none
 | k + 1, x36, x37, x721000, x721001, x726000, x726001, x726002 => if x37 < x36 then ((impl_Bits_field.f k x721000 x721001 (wrap64 (x37 * 2)) 2).bind fun t726 => (if x726002.length < 17592186044416 then (impl_UnpackMarks.l0 k x36 (wrap64 (x37 + 1)) x721000 x721001 x726000 x726001 (x726002 ++ [t726])) else (none))) else (some (x726000, x726001, x726002, true))
end
def impl_UnpackMarks.f (k : Nat) (a0 : Int) (a1 : Int) (a2_0 : Int) (l2_1 : List Int) : Option (Int × Int × List Int × Bool) := (impl_IsBits.f k a2_0 l2_1).bind fun t722 => (if t722 = true then ((impl_isSeed.f a0).bind fun t723 => (if t723 = true then ((impl_segmentOk.f a1).bind fun t724 => (if t724 = true then (impl_UnpackMarks.j0 k a0 a1 (a2_0 != (wrap64 ((wrap64 (3 * a1)) * 2))) a2_0 l2_1) else (impl_UnpackMarks.j0 k a0 a1 true a2_0 l2_1))) else (impl_UnpackMarks.j0 k a0 a1 true a2_0 l2_1))) else (impl_UnpackMarks.j0 k a0 a1 true a2_0 l2_1))
def impl_UnpackMarks.T7 : Bool × List (List Nat × List Nat) := (true, [([], []), ([0], [0]), ([], []), ([2], [2]), ([3], [3]), ([4], [4]), ([1, 5, 4], [1, 5]), ([0, 1, 2, 3, 4, 5, 6], []), ([7, 6, 6, 0, 1, 2, 3, 4, 5, 6], [6, 7])])
def impl_UnpackMarks.B7 : List Nat := [0, 1, 0, 4, 12, 28, 63, 127, 255]
theorem impl_UnpackMarks.tab7 : rtab .any (opsOf Tryz.f18 7) = impl_UnpackMarks.T7 := by kernel_rfl
theorem impl_UnpackMarks.bits7 : waitsOk impl_UnpackMarks.T7.2 impl_UnpackMarks.B7 = true := by kernel_rfl
theorem impl_UnpackMarks.calls (k : Nat) (a0 : Int) (a1 : Int) (a2_0 : Int) (A2_1 : Option Addr) (c2_1 : Nat) (l2_1 : List Int) (r1 : Int) (r2 : Int) (r3 : List Int) (r4 : Bool) (w : World) (hr2_1 : Kd.C (Kd.int .i64) w A2_1 l2_1.length l2_1) (hc2_1 : l2_1.length ≤ c2_1) (h : impl_UnpackMarks.f k a0 a1 a2_0 l2_1 = some (r1, r2, r3, r4)) :
  Calls Tryz.prog 18 #[.int .i64 a0, .int .i64 a1, .agg #[.int .i64 a2_0, .slice A2_1 l2_1.length c2_1]] w fun e w' => ∃ v2_ : Value, e = .returned (.tuple #[.agg #[.int .i64 r1, .int .i64 r2, v2_], .bool r4]) ∧ Kd.R (Kd.int .i64) 3 w' w.heap.size (fun _ => True) v2_ r3 ∧ Below w.heap.size w w' := by
 have hu42 := Tryz.underlying42; have hu29 := Tryz.underlying29; have HR2_1 := am hr2_1; have HC2_1 := am hc2_1; clear hr2_1 hc2_1; have HB := am (Below.refl w.heap.size w); have H : ((impl_IsBits.f k a2_0 l2_1).bind fun t722 => (if t722 = true then ((impl_isSeed.f a0).bind fun t723 => (if t723 = true then ((impl_segmentOk.f a1).bind fun t724 => (if t724 = true then (impl_UnpackMarks.j0 k a0 a1 (a2_0 != (wrap64 ((wrap64 (3 * a1)) * 2))) a2_0 l2_1) else (impl_UnpackMarks.j0 k a0 a1 true a2_0 l2_1))) else (impl_UnpackMarks.j0 k a0 a1 true a2_0 l2_1))) else (impl_UnpackMarks.j0 k a0 a1 true a2_0 l2_1))) = some (r1, r2, r3, r4) := h; clear h; have HC4 := am H; clear H
 go_enter Tryz.func18, Tryz.ntmps18
 go_upto_region 1 with (first | ((with_reducible refine gate_dst (N := 5) rfl ?_); refine bE 5 #[.int .i64 a2_0, .slice A2_1 l2_1.length c2_1] 42 ?_; intro gb720 hg w5 hbox hb; have n0_ := Bb HB hb; have n1_ := am (hbox); have n2_ := Gl HB hg; have n3_ := Gl HB hg; clear HB; revert n0_ n1_ n2_ n3_; intro HB BK720 GW720 GE720; clear hb hbox hg) | ((with_reducible refine gate_dst (N := 6) rfl ?_); refine bE 6 #[.int .i64 0, .int .i64 0, .slice none 0 0] 29 ?_; intro gb721 hg w6 hbox hb; have n0_ := Kb BK720 hb; have n1_ := Bc HB hb; have n2_ := am (hbox); have n3_ := Gm HB hg; have n4_ := Gm HB hg; have n5_ := Nl BK720 hg; have n6_ := Ng BK720 hg; clear BK720 HB; revert n0_ n1_ n2_ n3_ n4_ n5_ n6_; intro BK720 HB BK721 GW721 GE721 NB720_721 NB721_720; clear hb hbox hg))
 (try simp only [aP])
 go_cut [30] (fun v30 wc => ∃ (kq : Nat) (x30_3 : Bool), v30 = .bool x30_3 ∧ Aside0 (impl_UnpackMarks.j0 kq a0 a1 x30_3 a2_0 l2_1 = some (r1, r2, r3, r4)) ∧ Aside0 (kq ≤ k) ∧ Aside0 (wc.heap[gb720]? = some (.cells #[.int .i64 a2_0, (.slice A2_1 l2_1.length c2_1)] 42 (0, 0))) ∧ Aside0 (wc.heap[gb721]? = some (.cells #[.int .i64 0, .int .i64 0, (.slice none 0 0)] 29 (0, 0))) ∧ Aside0 (Below w.heap.size w wc))
 case first =>
  have H := HC4.out; clear HC4; replace H := Option.bind_eq_some_iff.mp H; obtain ⟨t722, A70, H⟩ := H; (try dsimp -simprocs only at H); have A7 := am A70; clear A70
  by_cases c8 : t722 = true
  ·subst c8
   rw [if_pos rfl] at H; replace H := Option.bind_eq_some_iff.mp H; obtain ⟨t723, A90, H⟩ := H; (try dsimp -simprocs only at H); have A9 := am A90; clear A90
   by_cases c10 : t723 = true
   ·subst c10
    rw [if_pos rfl] at H; replace H := Option.bind_eq_some_iff.mp H; obtain ⟨t724, A110, H⟩ := H; (try dsimp -simprocs only at H); have A11 := am A110; clear A110
    by_cases c12 : t724 = true
    ·subst c12
     rw [if_pos rfl] at H; have H' := am H; clear H; have hnb13 := NB720_721.out; have hnc13 := NB721_720.out; obtain ⟨hcz14_0, hcz14_1, hfz14_0, hfz14_1⟩ := cf2 (w := w6) BK720
     go_wp2_with (first | ((with_reducible refine gate_callee (f := 55) rfl ?_); refine gL (some 11) Tryz.func55 #[.agg #[.int .i64 a2_0, .slice A2_1 l2_1.length c2_1]] ?_; (with_reducible refine (impl_IsBits.calls k a2_0 _ _ l2_1 true _ ?side1 ?side2 A7.out).mono ?_); (case side1 => exact Cz (Kd.C_below HR2_1.out HB.out)); (case side2 => exact HC2_1.out); rintro e w15 ⟨rfl, hb⟩; refine ⟨_, rfl, ?_⟩; have n0_ := Kb BK720 hb; have n1_ := Kb BK721 hb; have n2_ := Bc HB hb; clear BK720 BK721 HB; revert n0_ n1_ n2_; intro BK720 BK721 HB; (try clear hb); (try clear hb2); (try clear hk); (try clear hi)) | (go_at_call 38; (with_reducible refine (impl_isSeed.calls a0 true _ A9.out).mono ?_); rintro e w' ⟨rfl, ⟨nd, rfl⟩⟩) | (go_at_call 40; (with_reducible refine (impl_segmentOk.calls a1 true _ A11.out).mono ?_); rintro e w' ⟨rfl, ⟨nd, rfl⟩⟩; obtain ⟨hcz16_0, hcz16_1, hfz16_0, hfz16_1⟩ := cf2 (w := w15) BK720))
     go_meet
     case rel => exact ⟨_, ((a2_0 != (wrap64 ((wrap64 (3 * a1)) * 2)))), wZ, H', ⟨by first | omega | exact Nat.le_refl _⟩, ⟨Kz BK720.out⟩, ⟨Kz BK721.out⟩, ⟨Bq⟩⟩
    ·replace c12 := Bool.eq_false_iff.mpr c12
     subst c12
     rw [if_neg (show ¬ (false = true) by decide)] at H; have H' := am H; clear H; have hnb17 := NB720_721.out; have hnc17 := NB721_720.out; obtain ⟨hcz18_0, hcz18_1, hfz18_0, hfz18_1⟩ := cf2 (w := w6) BK720
     go_wp2_with (first | ((with_reducible refine gate_callee (f := 55) rfl ?_); refine gL (some 11) Tryz.func55 #[.agg #[.int .i64 a2_0, .slice A2_1 l2_1.length c2_1]] ?_; (with_reducible refine (impl_IsBits.calls k a2_0 _ _ l2_1 true _ ?side1 ?side2 A7.out).mono ?_); (case side1 => exact Cz (Kd.C_below HR2_1.out HB.out)); (case side2 => exact HC2_1.out); rintro e w19 ⟨rfl, hb⟩; refine ⟨_, rfl, ?_⟩; have n0_ := Kb BK720 hb; have n1_ := Kb BK721 hb; have n2_ := Bc HB hb; clear BK720 BK721 HB; revert n0_ n1_ n2_; intro BK720 BK721 HB; (try clear hb); (try clear hb2); (try clear hk); (try clear hi)) | (go_at_call 38; (with_reducible refine (impl_isSeed.calls a0 true _ A9.out).mono ?_); rintro e w' ⟨rfl, ⟨nd, rfl⟩⟩) | (go_at_call 40; (with_reducible refine (impl_segmentOk.calls a1 false _ A11.out).mono ?_); rintro e w' ⟨rfl, ⟨nd, rfl⟩⟩))
     go_meet
     case rel => exact ⟨_, (true), wZ, H', ⟨by first | omega | exact Nat.le_refl _⟩, ⟨Kz BK720.out⟩, ⟨Kz BK721.out⟩, ⟨Bq⟩⟩
   ·replace c10 := Bool.eq_false_iff.mpr c10
    subst c10
    rw [if_neg (show ¬ (false = true) by decide)] at H; have H' := am H; clear H; have hnb20 := NB720_721.out; have hnc20 := NB721_720.out; obtain ⟨hcz21_0, hcz21_1, hfz21_0, hfz21_1⟩ := cf2 (w := w6) BK720
    go_wp2_with (first | ((with_reducible refine gate_callee (f := 55) rfl ?_); refine gL (some 11) Tryz.func55 #[.agg #[.int .i64 a2_0, .slice A2_1 l2_1.length c2_1]] ?_; (with_reducible refine (impl_IsBits.calls k a2_0 _ _ l2_1 true _ ?side1 ?side2 A7.out).mono ?_); (case side1 => exact Cz (Kd.C_below HR2_1.out HB.out)); (case side2 => exact HC2_1.out); rintro e w22 ⟨rfl, hb⟩; refine ⟨_, rfl, ?_⟩; have n0_ := Kb BK720 hb; have n1_ := Kb BK721 hb; have n2_ := Bc HB hb; clear BK720 BK721 HB; revert n0_ n1_ n2_; intro BK720 BK721 HB; (try clear hb); (try clear hb2); (try clear hk); (try clear hi)) | (go_at_call 38; (with_reducible refine (impl_isSeed.calls a0 false _ A9.out).mono ?_); rintro e w' ⟨rfl, ⟨nd, rfl⟩⟩))
    go_meet
    case rel => exact ⟨_, (true), wZ, H', ⟨by first | omega | exact Nat.le_refl _⟩, ⟨Kz BK720.out⟩, ⟨Kz BK721.out⟩, ⟨Bq⟩⟩
  ·replace c8 := Bool.eq_false_iff.mpr c8
   subst c8
   rw [if_neg (show ¬ (false = true) by decide)] at H; have H' := am H; clear H; have hnb23 := NB720_721.out; have hnc23 := NB721_720.out; obtain ⟨hcz24_0, hcz24_1, hfz24_0, hfz24_1⟩ := cf2 (w := w6) BK720
   go_wp2_with (first | ((with_reducible refine gate_callee (f := 55) rfl ?_); refine gL (some 11) Tryz.func55 #[.agg #[.int .i64 a2_0, .slice A2_1 l2_1.length c2_1]] ?_; (with_reducible refine (impl_IsBits.calls k a2_0 _ _ l2_1 false _ ?side1 ?side2 A7.out).mono ?_); (case side1 => exact Cz (Kd.C_below HR2_1.out HB.out)); (case side2 => exact HC2_1.out); rintro e w25 ⟨rfl, hb⟩; refine ⟨_, rfl, ?_⟩; have n0_ := Kb BK720 hb; have n1_ := Kb BK721 hb; have n2_ := Bc HB hb; clear BK720 BK721 HB; revert n0_ n1_ n2_; intro BK720 BK721 HB; (try clear hb); (try clear hb2); (try clear hk); (try clear hi)))
   go_meet
   case rel => exact ⟨_, (true), wZ, H', ⟨by first | omega | exact Nat.le_refl _⟩, ⟨Kz BK720.out⟩, ⟨Kz BK721.out⟩, ⟨Bq⟩⟩
 case rest =>
  clear HC4
  try clear c1
  try clear c2
  try clear p2
  try clear c5
  try clear p6
  try clear c8
  try clear c10
  try clear c12
  try clear c13
  try clear c17
  try clear c18
  try clear c20
  try clear c23
  try clear hcz14_0
  try clear hcz14_1
  try clear hcz16_0
  try clear hcz16_1
  try clear hcz18_0
  try clear hcz18_1
  try clear hcz21_0
  try clear hcz21_1
  try clear hcz24_0
  try clear hcz24_1
  try clear hfz14_0
  try clear hfz14_1
  try clear hfz16_0
  try clear hfz16_1
  try clear hfz18_0
  try clear hfz18_1
  try clear hfz21_0
  try clear hfz21_1
  try clear hfz24_0
  try clear hfz24_1
  obtain ⟨kq, x30_3, rfl, HA, HJ3, BK720, BK721, HB⟩ := hcut; cases kq with
  | zero => exact absurd HA.out (by simp [impl_UnpackMarks.j0])
  | succ kj3 =>
   have H := HA.out; clear HA
   simp only [impl_UnpackMarks.j0] at H
   by_cases c26 : x30_3 = true
   ·subst c26
    rw [if_pos rfl] at H
    simp only [Option.some.injEq, Prod.mk.injEq] at H
    obtain ⟨rfl, rfl, rfl, rfl⟩ := H; have hnb27 := NB721_720.out; have hnc27 := NB720_721.out; obtain ⟨hcz28_0, hcz28_1, hcz28_2, hfz28_0, hfz28_1, hfz28_2⟩ := cf3 (w := wc) BK721
    go_wp2
    refine bodyPost_ret (results_ct rfl _ _ gb721 29 #[.int .i64 0, .int .i64 0, .slice none 0 0] (0, 0) _ rfl (by (with_reducible repeat (first | refine blk_drewN ?_ _ | refine blk_drew ?_ | refine blk_alloc ?_ _)); refine blk_put (cs := #[.int .i64 0, .int .i64 0, .slice none 0 0]) ?_ 2 _ rfl; (with_reducible repeat (first | refine blk_drewN ?_ _ | refine blk_drew ?_ | refine blk_alloc ?_ _)); refine blk_put (cs := #[.int .i64 0, .int .i64 0, .slice none 0 0]) ?_ 1 _ rfl; (with_reducible repeat (first | refine blk_drewN ?_ _ | refine blk_drew ?_ | refine blk_alloc ?_ _)); refine blk_put (cs := #[.int .i64 0, .int .i64 0, .slice none 0 0]) ?_ 0 _ rfl; exact Kz BK721.out) Tryz.underlying29 rfl (by kernel_rfl)) rfl ?_; exact ⟨_, eZ, nZ, Bq⟩
   ·replace c26 := Bool.eq_false_iff.mpr c26
    subst c26
    rw [if_neg (show ¬ (false = true) by decide)] at H; have H' := am H; clear H
    go_wp2_with (first | ((with_reducible refine gate_dst (N := 8) rfl ?_); refine bE 8 #[.int .i64 0, .int .i64 0, .slice none 0 0] 29 ?_; intro gb725 hg w29 hbox hb; have n0_ := Kb BK720 hb; have n1_ := Kb BK721 hb; have n2_ := Bc HB hb; have n3_ := am (hbox); have n4_ := Gm HB hg; have n5_ := Gm HB hg; have n6_ := Nl BK720 hg; have n7_ := Ng BK720 hg; have n8_ := Nl BK721 hg; have n9_ := Ng BK721 hg; clear BK720 BK721 HB; revert n0_ n1_ n2_ n3_ n4_ n5_ n6_ n7_ n8_ n9_; intro BK720 BK721 HB BK725 GW725 GE725 NB720_725 NB725_720 NB721_725 NB725_721; clear hb hbox hg; have hnb30 := NB725_720.out; have hnc30 := NB720_725.out; have hnb31 := NB725_721.out; have hnc31 := NB721_725.out; obtain ⟨hcz32_0, hcz32_1, hcz32_2, hfz32_0, hfz32_1, hfz32_2⟩ := cf3 (w := w29) BK725))
    (try simp only [aP])
    go_loopg [37] kj3 (fun kq v37 w' => ∃ (x37_2 : Int) (x726002_2 : List Int) (u726002 : Value), v37 = .int .i64 x37_2 ∧ Aside0 (impl_UnpackMarks.l0 kq (wrap64 (3 * a1)) x37_2 a2_0 l2_1 a0 a1 x726002_2 = some (r1, r2, r3, r4)) ∧ Aside0 (kq ≤ kj3) ∧ Aside0 (Kd.R (Kd.int .i64) 3 w' w.heap.size (fun _ => True) u726002 x726002_2) ∧ Aside0 (w'.heap[gb720]? = some (.cells #[.int .i64 a2_0, (.slice A2_1 l2_1.length c2_1)] 42 (0, 0))) ∧ Aside0 (w'.heap[gb721]? = some (.cells #[.int .i64 0, .int .i64 0, (.slice none 0 0)] 29 (0, 0))) ∧ Aside0 (w'.heap[gb725]? = some (.cells #[.int .i64 a0, .int .i64 a1, u726002] 29 (0, 0))) ∧ Aside0 (Below w.heap.size w w'))
    case atStart => exact ⟨(0), (([] : List Int)), (.slice none 0 0), wZ, H', ⟨Nat.le_refl _⟩, ⟨nZ⟩, ⟨by (with_reducible repeat (first | refine blk_drewN ?_ _ | refine blk_drew ?_ | refine blk_alloc ?_ _)); refine blk_far ?_ NB720_725.out _; (with_reducible repeat (first | refine blk_drewN ?_ _ | refine blk_drew ?_ | refine blk_alloc ?_ _)); refine blk_far ?_ NB720_725.out _; (with_reducible repeat (first | refine blk_drewN ?_ _ | refine blk_drew ?_ | refine blk_alloc ?_ _)); refine blk_far ?_ NB720_725.out _; (with_reducible repeat (first | refine blk_drewN ?_ _ | refine blk_drew ?_ | refine blk_alloc ?_ _)); exact BK720.out⟩, ⟨by (with_reducible repeat (first | refine blk_drewN ?_ _ | refine blk_drew ?_ | refine blk_alloc ?_ _)); refine blk_far ?_ NB721_725.out _; (with_reducible repeat (first | refine blk_drewN ?_ _ | refine blk_drew ?_ | refine blk_alloc ?_ _)); refine blk_far ?_ NB721_725.out _; (with_reducible repeat (first | refine blk_drewN ?_ _ | refine blk_drew ?_ | refine blk_alloc ?_ _)); refine blk_far ?_ NB721_725.out _; (with_reducible repeat (first | refine blk_drewN ?_ _ | refine blk_drew ?_ | refine blk_alloc ?_ _)); exact BK721.out⟩, ⟨by (with_reducible repeat (first | refine blk_drewN ?_ _ | refine blk_drew ?_ | refine blk_alloc ?_ _)); refine blk_put (cs := #[.int .i64 a0, .int .i64 a1, .slice none 0 0]) ?_ 2 _ rfl; (with_reducible repeat (first | refine blk_drewN ?_ _ | refine blk_drew ?_ | refine blk_alloc ?_ _)); refine blk_put (cs := #[.int .i64 a0, .int .i64 0, .slice none 0 0]) ?_ 1 _ rfl; (with_reducible repeat (first | refine blk_drewN ?_ _ | refine blk_drew ?_ | refine blk_alloc ?_ _)); refine blk_put (cs := #[.int .i64 0, .int .i64 0, .slice none 0 0]) ?_ 0 _ rfl; (with_reducible repeat (first | refine blk_drewN ?_ _ | refine blk_drew ?_ | refine blk_alloc ?_ _)); exact BK725.out⟩, ⟨Bq⟩⟩
    case round =>
     clear H'
     try clear c1
     try clear c2
     try clear p2
     try clear c3
     try clear c5
     try clear p6
     try clear c8
     try clear c10
     try clear c12
     try clear c13
     try clear c17
     try clear c18
     try clear c20
     try clear c23
     try clear c26
     try clear c27
     try clear c30
     try clear c31
     try clear hcz14_0
     try clear hcz14_1
     try clear hcz16_0
     try clear hcz16_1
     try clear hcz18_0
     try clear hcz18_1
     try clear hcz21_0
     try clear hcz21_1
     try clear hcz24_0
     try clear hcz24_1
     try clear hcz28_0
     try clear hcz28_1
     try clear hcz28_2
     try clear hcz32_0
     try clear hcz32_1
     try clear hcz32_2
     try clear hfz14_0
     try clear hfz14_1
     try clear hfz16_0
     try clear hfz16_1
     try clear hfz18_0
     try clear hfz18_1
     try clear hfz21_0
     try clear hfz21_1
     try clear hfz24_0
     try clear hfz24_1
     try clear hfz28_0
     try clear hfz28_1
     try clear hfz28_2
     try clear hfz32_0
     try clear hfz32_1
     try clear hfz32_2
     try clear p2
     try clear p6
     obtain ⟨x37_2, x726002_2, u726002, rfl, HA, HK2, HO_726002, BK720, BK721, BK725, HB⟩ := hrel; cases gk with
     | zero => exact absurd HA.out (by simp [impl_UnpackMarks.l0])
     | succ k2 =>
      have H := HA.out; clear HA
      simp only [impl_UnpackMarks.l0] at H
      by_cases c33 : x37_2 < (wrap64 (3 * a1))
      ·rw [if_pos c33] at H
       have c33b0 : decide (x37_2 < (wrap64 (3 * a1))) = true := decide_eq_true c33; clear c33; replace H := Option.bind_eq_some_iff.mp H; obtain ⟨t726, A340, H⟩ := H; (try dsimp -simprocs only at H); have A34 := am A340; clear A340
       by_cases c35 : x726002_2.length < 17592186044416
       ·rw [if_pos c35] at H
        have LMc35 := am c35; clear c35; obtain ⟨y727, hy727⟩ : ∃ y_ : List Int, y_ = (x726002_2 ++ [t726]) := ⟨_, rfl⟩
        replace H : (impl_UnpackMarks.l0 k2 (wrap64 (3 * a1)) (wrap64 (x37_2 + 1)) a2_0 l2_1 a0 a1 y727) = some (r1, r2, r3, r4) := by first | (rw [hy727]; with_reducible exact H) | (have H2_ := (Option.bind_some _ _).symm.trans H; rw [hy727]; with_reducible exact H2_) | (have H2_ := (Option.bind_some _ _).symm.trans H; with_reducible exact H2_) | with_reducible exact H | (rw [hy727]; exact H) | exact H
        have Ny727 := am hy727; clear hy727; have H' := am H; clear H
        try go_wp2
        have n0_ := am (Kd.R_drew HO_726002.out); have n1_ := am (blk_drew BK720.out); have n2_ := am (blk_drew BK721.out); have n3_ := am (blk_drew BK725.out); have n4_ := am (below_drew1 HB.out); clear HO_726002 BK720 BK721 BK725 HB; revert n0_ n1_ n2_ n3_ n4_; intro HO_726002 BK720 BK721 BK725 HB; refine start_ (n := 9) (S := fun w' => w'.cell? ⟨gb725, 0, none⟩ = some (.int .i64 a0) ∧ w'.cell? ⟨gb725, 1, none⟩ = some (.int .i64 a1) ∧ w'.cell? ⟨gb725, 2, none⟩ = some (u726002)) (ds := [8]) (bA 9 0) (by kernel_rfl) rfl rfl ⟨cz BK725 0, cz BK725 1, cz BK725 2⟩ (fun hHeld => ?_); refine with_tabW impl_UnpackMarks.tab7 impl_UnpackMarks.bits7 (fun HT_ HW_ => ?_); generalize wr.drew = w36 at HO_726002 BK720 BK721 BK725 HB hHeld ⊢; refine pZ 0 (some 40) (bA 9 1) HT_.out ?_; refine pZ 2 (some 42) (bA 9 5) HT_.out ?_; refine pZ 3 (some 43) (bA 9 13) HT_.out ?_; refine tZ3 1 (some 41) (bA 9 15) HT_.out HW_.out hHeld ?_; refine oZ 4 (some 44) (bA 9 31) HT_.out (fun K hK => ?_); refine gZ Tryz.func56 #[.pointer (some ⟨gb720, 0, none⟩), .int .i64 (wrap64 (x37_2 * 2)), .int .i64 2] ?_
        with_reducible refine (impl_Bits_field.calls k2 gb720 a2_0 A2_1 c2_1 l2_1 (wrap64 (x37_2 * 2)) 2 t726 _ ?side1 ?side2 ?side3 A34.out).mono ?_
        (case side1 => exact Kz BK720.out)
        (case side2 => exact Cz (Kd.C_below HR2_1.out HB.out))
        (case side3 => exact HC2_1.out)
        rintro e w' ⟨rfl, ⟨nd, rfl⟩⟩; refine ⟨_, rfl, ?_⟩; refine hK.out _ _ ⟨cz BK725 0, cz BK725 1, cz BK725 2⟩ (fun hHeld => ?_); clear hK K; refine norm_ (a' := ?_) ?_ ?_; rotate_left; show Act.put _ (some 44) _ = _; simp only [aP, i64_w, i32_w]; rfl; refine oZ 5 (some 45) (bA 9 63) HT_.out (fun K hK => ?_); refine value_ (w1 := ?_) (v := ?_) (by rfl) rfl ?_ ?_
        rotate_left 2
        ·go_simp
         constructor
         ·rfl
         ·rfl
        refine hK.out _ _ ⟨(blk_cell (blk_alloc BK725.out _) 0).trans rfl, (blk_cell (blk_alloc BK725.out _) 1).trans rfl, (blk_cell (blk_alloc BK725.out _) 2).trans rfl⟩ (fun hHeld => ?_); clear hK K; refine norm_ (a' := ?_) ?_ ?_; rotate_left; show Act.put _ (some 45) _ = _; simp only [aP, i64_w, i32_w]; rfl; refine oZ 6 (some 46) (bA 9 127) HT_.out (fun K hK => ?_); refine Kd.R_append_step (Kd.int .i64) (w0 := w) w.heap.size (by rfl) (.tmp 41) (.tmp 45) 27 3 (.int .i64 0) 8 rfl Tryz.underlying27 info3 rfl (by decide) (by omega) u726002 x726002_2 t726 [.int .i64 t726] (fun _ => True) (fun _ => False) rfl rfl ?aP (fun _ hk => hk.elim) ?aF ?aO ?aB ?aS ?aL ?_
        (case aP => exact rfl)
        (case aB => exact (Bq))
        (case aF => exact (fun _ _ => trivial))
        (case aO => exact (Rz HO_726002.out))
        (case aS => exact (below_size (w := w) (Bq)))
        (case aL => have := LMc35.out; omega)
        intro v728 w37 ho hb hg hat; rw [← Ny727.out] at ho; have n0_ := am (blk_grown (g := gb720) (o := .cells #[.int .i64 a2_0, .slice A2_1 l2_1.length c2_1] 42 (0, 0)) (Kz BK720.out) hg (Kd.R_ne HO_726002.out BK720.out (by decide))); have n1_ := am (blk_grown (g := gb721) (o := .cells #[.int .i64 0, .int .i64 0, .slice none 0 0] 29 (0, 0)) (Kz BK721.out) hg (Kd.R_ne HO_726002.out BK721.out (by decide))); have n2_ := am (blk_grown (g := gb725) (o := .cells #[.int .i64 a0, .int .i64 a1, u726002] 29 (0, 0)) (Kz BK725.out) hg (Kd.R_ne HO_726002.out BK725.out (by decide))); have n3_ := am (hb); have n4_ := am (ho); clear BK720 BK721 BK725 HB HO_726002; revert n0_ n1_ n2_ n3_ n4_; intro BK720 BK721 BK725 HB HO729; clear ho hb hg hat; obtain ⟨Ao38, co38, eo38⟩ := Kd.R_slice HO729.out
        (first | subst eo38 | (injection eo38 with f1_ f2_ f3_; have f4_ := f1_.symm; have f5_ := f3_.symm; clear f1_ f2_ f3_; subst f4_; subst f5_))
        refine hK.out _ _ ⟨cz BK725 0, cz BK725 1, cz BK725 2⟩ (fun hHeld => ?_); clear hK K; refine norm_ (a' := ?_) ?_ ?_; rotate_left; show Act.put _ (some 46) _ = _; simp only [aP, i64_w, i32_w]; rfl; refine pZ 7 (some 47) (bA 9 255) HT_.out ?_; refine lZ 8 none (bA 9 511) HT_.out (fun K hK => ?_); have hs39 : w37.cell? ⟨gb725, 2, none⟩ = some (u726002) := cz BK725 2; have hfs39 := blk_frozen BK725.out 2; have hns39_0 := NB720_725.out; have hns39_1 := NB721_725.out; have hms39_0 := NB725_720.out; have hms39_1 := NB725_721.out; refine skip_ (w1 := ?_) (by rfl) rfl ?_ ?_
        rotate_left
        ·go_simp
         rfl
        refine hK.out _ _ ?_; clear hK K; refine done_ (done_of HT_.out (by kernel_rfl)) ?_
        try go_wp2
        go_roundg k2
        case measure => have := HJ3.out; have := HK2.out; omega
        case rel => exact ⟨(wrap64 (x37_2 + 1)), (y727), (.slice Ao38 y727.length co38), wZ, H', ⟨by have := HJ3.out; have := HK2.out; omega⟩, ⟨Rz (Kd.R_mono (Kd.R_far (p := ⟨gb725, 2, none⟩) (Kd.R_types HO729.out BK725.out (by decide)) (fun _ hk => hk.2) (.slice Ao38 y727.length co38)) (fun _ hk => trivial))⟩, ⟨by (with_reducible repeat (first | refine blk_drewN ?_ _ | refine blk_drew ?_ | refine blk_alloc ?_ _)); refine blk_far ?_ NB720_725.out _; (with_reducible repeat (first | refine blk_drewN ?_ _ | refine blk_drew ?_ | refine blk_alloc ?_ _)); exact BK720.out⟩, ⟨by (with_reducible repeat (first | refine blk_drewN ?_ _ | refine blk_drew ?_ | refine blk_alloc ?_ _)); refine blk_far ?_ NB721_725.out _; (with_reducible repeat (first | refine blk_drewN ?_ _ | refine blk_drew ?_ | refine blk_alloc ?_ _)); exact BK721.out⟩, ⟨by (with_reducible repeat (first | refine blk_drewN ?_ _ | refine blk_drew ?_ | refine blk_alloc ?_ _)); refine blk_put (cs := #[.int .i64 a0, .int .i64 a1, u726002]) ?_ 2 _ rfl; (with_reducible repeat (first | refine blk_drewN ?_ _ | refine blk_drew ?_ | refine blk_alloc ?_ _)); exact BK725.out⟩, ⟨Bq⟩⟩
       ·rw [if_neg c35] at H
        exact absurd H (by simp)
      ·rw [if_neg c33] at H
       have c33b0 : decide (x37_2 < (wrap64 (3 * a1))) = false := decide_eq_false c33; clear c33
       simp only [Option.some.injEq, Prod.mk.injEq] at H
       obtain ⟨rfl, rfl, rfl, rfl⟩ := H; have hnb40 := NB725_720.out; have hnc40 := NB720_725.out; have hnb41 := NB725_721.out; have hnc41 := NB721_725.out; obtain ⟨hcz42_0, hcz42_1, hcz42_2, hfz42_0, hfz42_1, hfz42_2⟩ := cf3 (w := wr) BK725; have hnb43 := NB721_720.out; have hnc43 := NB720_721.out; obtain ⟨hcz44_0, hcz44_1, hcz44_2, hfz44_0, hfz44_1, hfz44_2⟩ := cf3 (w := wr) BK721; obtain ⟨Ao45, co45, eo45⟩ := Kd.R_slice HO_726002.out; subst eo45
       go_wp2
       refine bodyPost_ret (results_ct rfl _ _ gb721 29 #[.int .i64 a0, .int .i64 a1, .slice Ao45 x726002_2.length co45] (0, 0) _ rfl (by (with_reducible repeat (first | refine blk_drewN ?_ _ | refine blk_drew ?_ | refine blk_alloc ?_ _)); refine blk_put (cs := #[.int .i64 a0, .int .i64 a1, .slice none 0 0]) ?_ 2 _ rfl; (with_reducible repeat (first | refine blk_drewN ?_ _ | refine blk_drew ?_ | refine blk_alloc ?_ _)); refine blk_put (cs := #[.int .i64 a0, .int .i64 0, .slice none 0 0]) ?_ 1 _ rfl; (with_reducible repeat (first | refine blk_drewN ?_ _ | refine blk_drew ?_ | refine blk_alloc ?_ _)); refine blk_put (cs := #[.int .i64 0, .int .i64 0, .slice none 0 0]) ?_ 0 _ rfl; exact Kz BK721.out) Tryz.underlying29 rfl (by kernel_rfl)) rfl ?_; exact ⟨_, eZ, Rz (Kd.R_mono (Kd.R_far (p := ⟨gb721, 2, none⟩) (Kd.R_far (p := ⟨gb721, 1, none⟩) (Kd.R_far (p := ⟨gb721, 0, none⟩) (Kd.R_types HO_726002.out BK721.out (by decide)) (fun _ hk => hk.2) (.int .i64 a0)) (fun _ hk => hk.2) (.int .i64 a1)) (fun _ hk => hk.2) (.slice Ao45 x726002_2.length co45)) (fun _ hk => trivial)), Bq⟩

def laws_pAllOnce.l0 : Nat → List Int → Int → Int → Option (Bool)
 | 0, _, _, _ => none
 | k + 1, x0, x1, x5 => if x5 < x1 then ((laws_pHas.f k x0 x5).bind fun t730 => (if t730 = true then (laws_pAllOnce.l0 k x0 x1 (wrap64 (x5 + 1))) else (some false))) else (some true)
def laws_pAllOnce.f (k : Nat) (l0 : List Int) (a1 : Int) : Option (Bool) := if (l0.length : Int) = a1 then (laws_pAllOnce.l0 k l0 a1 0) else (some false)
theorem laws_pAllOnce.calls (k : Nat) (A0 : Option Addr) (c0 : Nat) (l0 : List Int) (a1 : Int) (r : Bool) (w : World) (hr0 : Kd.C (Kd.int .i64) w A0 l0.length l0) (hc0 : l0.length ≤ c0) (h : laws_pAllOnce.f k l0 a1 = some r) :
  Calls Tryz.prog 19 #[.slice A0 l0.length c0, .int .i64 a1] w fun e w' => e = .returned (.bool r) ∧ Drawn0 w w' := by
 have HR0 := am hr0; have HC0 := am hc0; clear hr0 hc0; have H : (if (l0.length : Int) = a1 then (laws_pAllOnce.l0 k l0 a1 0) else (some false)) = some r := h; clear h
 by_cases c3 : (l0.length : Int) = a1
 ·rw [if_pos c3] at H
  have c3b0 : ((l0.length : Int) == a1) = true := beq_iff_eq.mpr c3; have c3b1 : ((l0.length : Int) != a1) = false := bne_eq_false_iff_eq.mpr c3; clear c3; have H' := am H; clear H
  go_enter Tryz.func19, Tryz.ntmps19
  go_wp2
  go_loopg [5] k (fun kq v5 w' => ∃ (x5_1 : Int), v5 = .int .i64 x5_1 ∧ Aside0 (laws_pAllOnce.l0 kq l0 a1 x5_1 = some r) ∧ Aside0 (kq ≤ k) ∧ Drawn0 w w')
  case atStart => exact ⟨(0), wZ, H', ⟨Nat.le_refl _⟩, by repeat (first | exact Drawn0.refl _ | apply Drawn0.step)⟩
  case round =>
   clear H'
   try clear c1
   try clear p2
   try clear c3
   try clear c3b0
   try clear c3b1
   obtain ⟨x5_1, rfl, HA, HK1, ⟨m1, rfl⟩⟩ := hrel; cases gk with
   | zero => exact absurd HA.out (by simp [laws_pAllOnce.l0])
   | succ k1 =>
    have H := HA.out; clear HA
    simp only [laws_pAllOnce.l0] at H
    by_cases c4 : x5_1 < a1
    ·rw [if_pos c4] at H
     have c4b0 : decide (x5_1 < a1) = true := decide_eq_true c4; clear c4; replace H := Option.bind_eq_some_iff.mp H; obtain ⟨t730, A50, H⟩ := H; (try dsimp -simprocs only at H); have A5 := am A50; clear A50
     by_cases c6 : t730 = true
     ·subst c6
      rw [if_pos rfl] at H; have H' := am H; clear H
      go_wp2_with (first | ((with_reducible refine gate_callee (f := 16) rfl ?_); refine gL (some 17) Tryz.func16 #[.slice A0 l0.length c0, .int .i64 x5_1] ?_; (with_reducible refine (laws_pHas.calls k1 _ _ l0 x5_1 true _ ?side1 ?side2 A5.out).mono ?_); (case side1 => exact Cz HR0.out); (case side2 => exact HC0.out); rintro e w' ⟨rfl, ⟨nd, rfl⟩⟩; refine ⟨_, rfl, ?_⟩))
      go_roundg k1
      case measure => have := HK1.out; omega
      case rel => exact ⟨(wrap64 (x5_1 + 1)), wZ, H', ⟨by have := HK1.out; omega⟩, by repeat (first | exact Drawn0.refl _ | apply Drawn0.step)⟩
     ·replace c6 := Bool.eq_false_iff.mpr c6
      subst c6
      rw [if_neg (show ¬ (false = true) by decide)] at H; obtain rfl := Option.some.inj H
      go_wp2_with (first | ((with_reducible refine gate_callee (f := 16) rfl ?_); refine gL (some 17) Tryz.func16 #[.slice A0 l0.length c0, .int .i64 x5_1] ?_; (with_reducible refine (laws_pHas.calls k1 _ _ l0 x5_1 false _ ?side1 ?side2 A5.out).mono ?_); (case side1 => exact Cz HR0.out); (case side2 => exact HC0.out); rintro e w' ⟨rfl, ⟨nd, rfl⟩⟩; refine ⟨_, rfl, ?_⟩))
      go_ret
      exact ⟨by first | rfl | (simp; done) | (simp [*]; done), by repeat (first | exact Drawn0.refl _ | apply Drawn0.step)⟩
    ·rw [if_neg c4] at H
     have c4b0 : decide (x5_1 < a1) = false := decide_eq_false c4; clear c4; obtain rfl := Option.some.inj H
     go_wp2
     go_ret
     exact ⟨by first | rfl | (simp; done) | (simp [*]; done), by repeat (first | exact Drawn0.refl _ | apply Drawn0.step)⟩
 ·rw [if_neg c3] at H
  have c3b0 : ((l0.length : Int) == a1) = false := beq_eq_false_iff_ne.mpr c3; have c3b1 : ((l0.length : Int) != a1) = true := bne_iff_ne.mpr c3; obtain rfl := Option.some.inj H
  go_enter Tryz.func19, Tryz.ntmps19
  go_wp2
  go_ret
  exact ⟨by first | rfl | (simp; done) | (simp [*]; done), by repeat (first | exact Drawn0.refl _ | apply Drawn0.step)⟩

mutual
def laws_FnPeeledIsPerfect.j0 : Nat → Int → List ByteArray → Int → Bool → Bool → Int → Int → List Int → Option (Bool)
 | 0, _, _, _, _, _, _, _, _ => none
 | k + 1, x5, x6, x7, x9, x64, x744000, x744001, x744002 => if x64 = true then (some false) else ((impl_HyperOf.f k x5 x6 x7).bind fun bt752 => ((impl_PeelOrder.f k bt752.1 bt752.2.1).bind fun bt758 => (if bt752.2.2 = true then (laws_FnPeeledIsPerfect.j1 k x5 x6 x7 x9 (x9 != bt758.2) x744000 x744001 x744002 bt752.1 bt752.2.1) else (laws_FnPeeledIsPerfect.j1 k x5 x6 x7 x9 (x9 != false) x744000 x744001 x744002 bt752.1 bt752.2.1))))
def laws_FnPeeledIsPerfect.j1 : Nat → Int → List ByteArray → Int → Bool → Bool → Int → Int → List Int → Int → List (List Int) → Option (Bool)
 | 0, _, _, _, _, _, _, _, _, _, _ => none
 | k + 1, x5, x6, x7, x9, x82, x744000, x744001, x744002, x758000, x758001 => if x82 = true then (some false) else (if x9 = true then ((impl_UsedOf.f k x744000 x744001 x744002).bind fun bt762 => ((impl_IsPeeledFor.f k x744000 x744001 x744002 x6).bind fun bt774 => (if bt762.2.2.2.2 = true then (if bt774.2 = true then (laws_FnPeeledIsPerfect.j2 k x5 x6 x7 (!bt774.1) x744000 x744001 x744002 x758000 x758001 bt762.1 bt762.2.1 bt762.2.2.1 bt762.2.2.2.1) else (laws_FnPeeledIsPerfect.j2 k x5 x6 x7 true x744000 x744001 x744002 x758000 x758001 bt762.1 bt762.2.1 bt762.2.2.1 bt762.2.2.2.1)) else (laws_FnPeeledIsPerfect.j2 k x5 x6 x7 true x744000 x744001 x744002 x758000 x758001 bt762.1 bt762.2.1 bt762.2.2.1 bt762.2.2.2.1)))) else (some true))
def laws_FnPeeledIsPerfect.j2 : Nat → Int → List ByteArray → Int → Bool → Int → Int → List Int → Int → List (List Int) → Int → List Int → List Int → List Int → Option (Bool)
 | 0, _, _, _, _, _, _, _, _, _, _, _, _, _ => none
 | k + 1, x5, x6, x7, x105, x744000, x744001, x744002, x758000, x758001, x774000, x774001, x774002, x774003 => if x105 = true then (some false) else (laws_FnPeeledIsPerfect.l0 k x5 x6 x7 ([] : List Int) x6 (x6.length : Int) 0 x744000 x744001 x744002 x758000 x758001 x774000 x774001 x774002 x774003)
def laws_FnPeeledIsPerfect.l0 : Nat → Int → List ByteArray → Int → List Int → List ByteArray → Int → Int → Int → Int → List Int → Int → List (List Int) → Int → List Int → List Int → List Int → Option (Bool)
 | 0, _, _, _, _, _, _, _, _, _, _, _, _, _, _, _, _ => none
 | k + 1, x5, x6, x7, x20, x106, x107, x108, x744000, x744001, x744002, x758000, x758001, x774000, x774001, x774002, x774003 => if x108 < x107 then (if 0 ≤ x108 then (if x108 < (x106.length : Int) then ((impl_PeeledPlace.f k x744000 x744001 x744002 (rdOf ByteArray.empty x106 x108)).bind fun bt777 => ((impl_PeeledIndex.f k x744000 x744001 x744002 (rdOf ByteArray.empty x106 x108)).bind fun bt779 => ((impl_Rank1.f k x774000 x774001 x774002 x774003 bt777.1).bind fun bt781 => (if bt777.2 = true then (if bt779.2 = true then (if bt781.2 = true then (if bt781.1 = bt779.1 then (if x108 < (x758001.length : Int) then ((laws_pHas.f k (rd_L3 x758001 x108) bt777.1).bind fun t784 => (if t784 = true then (if x20.length < 17592186044416 then (laws_FnPeeledIsPerfect.l0 k x5 x6 x7 (x20 ++ [bt779.1]) x106 x107 (wrap64 (x108 + 1)) x744000 x744001 x744002 x758000 x758001 x774000 x774001 x774002 x774003) else (none)) else (some false))) else (none)) else (some false)) else (some false)) else (some false)) else (some false))))) else (none)) else (none)) else ((impl_PackMarks.f k x744000 x744001 x744002).bind fun bt788 => ((impl_UnpackMarks.f k x5 x7 bt788.1 bt788.2.1).bind fun bt794 => (if bt788.2.2 = true then (if bt794.2.2.2 = true then ((laws_pSamePeeled.f k bt794.1 bt794.2.1 bt794.2.2.1 x744000 x744001 x744002).bind fun t801 => (if t801 = true then ((laws_pAllOnce.f k x20 (x6.length : Int)).bind fun t802 => (some t802)) else (some false))) else (some false)) else (some false))))
end
def laws_FnPeeledIsPerfect.f (k : Nat) (l0 : List Int) (l1 : List Int) : Option (Bool) := (laws_big.f l0 l1).bind fun t731 => (if t731 = true then (some true) else ((spec_DrawBuildPeeled.f k l0).bind fun bt732 => ((impl_BuildPeeled.f k bt732.1 bt732.2.1 bt732.2.2).bind fun bt737 => ((spec_BuildPeeled.f k bt732.1 bt732.2.1 bt732.2.2).bind fun bt744 => (if (bt737.2.2.2 != bt744.2.2.2) = true then (laws_FnPeeledIsPerfect.j0 k bt732.1 bt732.2.1 bt732.2.2 bt737.2.2.2 true bt737.1 bt737.2.1 bt737.2.2.1) else ((laws_pSamePeeled.f k bt737.1 bt737.2.1 bt737.2.2.1 bt744.1 bt744.2.1 bt744.2.2.1).bind fun t751 => (laws_FnPeeledIsPerfect.j0 k bt732.1 bt732.2.1 bt732.2.2 bt737.2.2.2 (!t751) bt737.1 bt737.2.1 bt737.2.2.1)))))))
theorem laws_FnPeeledIsPerfect.j0.dead (k : Nat) (y0 : Int) (y1 : List ByteArray) (y2 : Int) (y3 : Bool) (y5 : Int) (y6 : Int) (y7 : List Int) : laws_FnPeeledIsPerfect.j0 k y0 y1 y2 y3 true y5 y6 y7 ≠ some true := by cases k <;> simp [laws_FnPeeledIsPerfect.j0]
theorem laws_FnPeeledIsPerfect.j2.dead (k : Nat) (y0 : Int) (y1 : List ByteArray) (y2 : Int) (y4 : Int) (y5 : Int) (y6 : List Int) (y7 : Int) (y8 : List (List Int)) (y9 : Int) (y10 : List Int) (y11 : List Int) (y12 : List Int) : laws_FnPeeledIsPerfect.j2 k y0 y1 y2 true y4 y5 y6 y7 y8 y9 y10 y11 y12 ≠ some true := by cases k <;> simp [laws_FnPeeledIsPerfect.j2]
theorem laws_FnPeeledIsPerfect.calls (k : Nat) (A0 : Option Addr) (c0 : Nat) (l0 : List Int) (A1 : Option Addr) (c1 : Nat) (l1 : List Int) (r : Bool) (w : World) (hr0 : Kd.C (Kd.int .u8) w A0 l0.length l0) (hc0 : l0.length ≤ c0) (hr1 : Kd.C (Kd.int .u8) w A1 l1.length l1) (hc1 : l1.length ≤ c1) (h : laws_FnPeeledIsPerfect.f k l0 l1 = some r) (hT_ : r = true) :
  Calls Tryz.prog 3 #[.slice A0 l0.length c0, .slice A1 l1.length c1] w fun e w' => e = .returned (.bool r) ∧ Below w.heap.size w w' := by
 have hu29 := Tryz.underlying29; have hu35 := Tryz.underlying35; have hu44 := Tryz.underlying44; have hu42 := Tryz.underlying42; have HR0 := am hr0; have HC0 := am hc0; clear hr0 hc0; have HR1 := am hr1; have HC1 := am hc1; clear hr1 hc1; have HB := am (Below.refl w.heap.size w); have H : ((laws_big.f l0 l1).bind fun t731 => (if t731 = true then (some true) else ((spec_DrawBuildPeeled.f k l0).bind fun bt732 => ((impl_BuildPeeled.f k bt732.1 bt732.2.1 bt732.2.2).bind fun bt737 => ((spec_BuildPeeled.f k bt732.1 bt732.2.1 bt732.2.2).bind fun bt744 => (if (bt737.2.2.2 != bt744.2.2.2) = true then (laws_FnPeeledIsPerfect.j0 k bt732.1 bt732.2.1 bt732.2.2 bt737.2.2.2 true bt737.1 bt737.2.1 bt737.2.2.1) else ((laws_pSamePeeled.f k bt737.1 bt737.2.1 bt737.2.2.1 bt744.1 bt744.2.1 bt744.2.2.1).bind fun t751 => (laws_FnPeeledIsPerfect.j0 k bt732.1 bt732.2.1 bt732.2.2 bt737.2.2.2 (!t751) bt737.1 bt737.2.1 bt737.2.2.1)))))))) = some r := h; clear h; have HQT_ := am hT_; clear hT_; replace H := Option.bind_eq_some_iff.mp H; obtain ⟨t731, A30, H⟩ := H; (try dsimp -simprocs only at H); have A3 := am A30; clear A30
 by_cases c4 : t731 = true
 ·subst c4
  rw [if_pos rfl] at H; obtain rfl := Option.some.inj H
  go_enter Tryz.func3, Tryz.ntmps3
  go_wp2_with (first | ((with_reducible refine gate_callee (f := 4) rfl ?_); refine gL (some 35) Tryz.func4 #[.slice A0 l0.length c0, .slice A1 l1.length c1] ?_; (with_reducible refine (laws_big.calls _ _ l0 _ _ l1 true _ ?side1 ?side2 ?side3 ?side4 A3.out).mono ?_); (case side1 => exact Cz HR0.out); (case side2 => exact HC0.out); (case side3 => exact Cz HR1.out); (case side4 => exact HC1.out); rintro e w' ⟨rfl, ⟨nd, rfl⟩⟩; refine ⟨_, rfl, ?_⟩))
  go_ret
  exact ⟨eZ, Bz HB.out⟩
 ·replace c4 := Bool.eq_false_iff.mpr c4
  subst c4
  rw [if_neg (show ¬ (false = true) by decide)] at H; replace H := Option.bind_eq_some_iff.mp H; obtain ⟨⟨t732, t733, t734⟩, A50, H⟩ := H; (try dsimp -simprocs only at H); have A5 := am A50; clear A50; replace H := Option.bind_eq_some_iff.mp H; obtain ⟨⟨t737, t738, t739, t742⟩, A60, H⟩ := H; (try dsimp -simprocs only at H); have A6 := am A60; clear A60; replace H := Option.bind_eq_some_iff.mp H; obtain ⟨⟨t744, t745, t746, t749⟩, A70, H⟩ := H; (try dsimp -simprocs only at H); have A7 := am A70; clear A70; have HC8 := am H; clear H
  go_enter Tryz.func3, Tryz.ntmps3
  go_upto_region 6 with (first | ((with_reducible refine gate_callee (f := 4) rfl ?_); refine gL (some 35) Tryz.func4 #[.slice A0 l0.length c0, .slice A1 l1.length c1] ?_; (with_reducible refine (laws_big.calls _ _ l0 _ _ l1 false _ ?side1 ?side2 ?side3 ?side4 A3.out).mono ?_); (case side1 => exact Cz HR0.out); (case side2 => exact HC0.out); (case side3 => exact Cz HR1.out); (case side4 => exact HC1.out); rintro e w' ⟨rfl, ⟨nd, rfl⟩⟩; refine ⟨_, rfl, ?_⟩) | ((with_reducible refine gate_callee (f := 5) rfl ?_); refine gL (some 38) Tryz.func5 #[.slice A0 l0.length c0] ?_; (with_reducible refine (spec_DrawBuildPeeled.calls k _ _ l0 t732 t733 t734 _ ?side1 ?side2 A5.out).mono ?_); (case side1 => exact Cz HR0.out); (case side2 => exact HC0.out); rintro e w9 ⟨v735, rfl, ho0, hb⟩; refine ⟨_, rfl, ?_⟩; have n0_ := Rl ho0 HB; have n1_ := Bb HB hb; clear HB; revert n0_ n1_; intro HO736 HB; (try clear hb); (try clear hb2); (try clear hk); (try clear hi); (try clear ho0); obtain ⟨Ao10, co10, eo10⟩ := Kd.R_slice HO736.out; subst eo10) | ((with_reducible refine gate_callee (f := 6) rfl ?_); refine gL (some 46) Tryz.func6 #[.int .i64 t732, .slice Ao10 t733.length co10, .int .i64 t734] ?_; (with_reducible refine (impl_BuildPeeled.calls k t732 _ _ t733 t734 t737 t738 t739 t742 _ ?side1 ?side2 A6.out).mono ?_); (case side1 => exact Cz ((Kd.R_reads' HO736.out).2.2)); (case side2 => exact (Kd.R_reads' HO736.out).2.1); rintro e w11 ⟨v740, rfl, ho0, hb⟩; refine ⟨_, rfl, ?_⟩; have n0_ := Rb HO736 hb; have n1_ := Rl ho0 HB; have n2_ := Bb HB hb; clear HO736 HB; revert n0_ n1_ n2_; intro HO736 HO741 HB; (try clear hb); (try clear hb2); (try clear hk); (try clear hi); (try clear ho0)) | ((with_reducible refine gate_dst (N := 8) rfl ?_); (try (refine gate_guard (by rfl) ?_; dsimp only)); refine bE 8 #[.int .i64 0, .int .i64 0, .slice none 0 0] 29 ?_; intro gb743 hg w12 hbox hb; have n0_ := Rb HO736 hb; have n1_ := Rb HO741 hb; have n2_ := Bb HB hb; have n3_ := am (hbox); have n4_ := Gl HB hg; have n5_ := Gl HB hg; clear HO736 HO741 HB; revert n0_ n1_ n2_ n3_ n4_ n5_; intro HO736 HO741 HB BK743 GW743 GE743; clear hb hbox hg; obtain ⟨hcz13_0, hcz13_1, hcz13_2, hfz13_0, hfz13_1, hfz13_2⟩ := cf3 (w := w12) BK743; obtain ⟨Ao14, co14, eo14⟩ := Kd.R_slice HO741.out; subst eo14) | ((with_reducible refine gate_callee (f := 7) rfl ?_); refine gL (some 53) Tryz.func7 #[.int .i64 t732, .slice Ao10 t733.length co10, .int .i64 t734] ?_; (with_reducible refine (spec_BuildPeeled.calls k t732 _ _ t733 t734 t744 t745 t746 t749 _ ?side1 ?side2 A7.out).mono ?_); (case side1 => refine (Kd.R_reads' (e := 9) (base := w.heap.size) (ok := fun k_ => True) (n := t733.length) (c := co10) ?_).2.2; exact (Rz (Kd.R_mono (Kd.R_far (p := ⟨gb743, 2, none⟩) (Kd.R_far (p := ⟨gb743, 1, none⟩) (Kd.R_far (p := ⟨gb743, 0, none⟩) (Kd.R_types HO736.out BK743.out (by decide)) (fun _ hk => hk.2) (.int .i64 t737)) (fun _ hk => hk.2) (.int .i64 t738)) (fun _ hk => hk.2) (.slice Ao14 t739.length co14)) (fun _ h_ => h_.1)))); (case side2 => exact (Kd.R_reads' HO736.out).2.1); rintro e w15 ⟨v747, rfl, ho0, hb⟩; refine ⟨_, rfl, ?_⟩; have n0_ := am (Kd.R_below (Rz (Kd.R_mono (Kd.R_far (p := ⟨gb743, 2, none⟩) (Kd.R_far (p := ⟨gb743, 1, none⟩) (Kd.R_far (p := ⟨gb743, 0, none⟩) (Kd.R_types HO736.out BK743.out (by decide)) (fun _ hk => hk.2) (.int .i64 t737)) (fun _ hk => hk.2) (.int .i64 t738)) (fun _ hk => hk.2) (.slice Ao14 t739.length co14)) (fun _ h_ => h_.1))) hb); have n1_ := am (Kd.R_elder' (Rz (Kd.R_mono (Kd.R_far (p := ⟨gb743, 2, none⟩) (Kd.R_far (p := ⟨gb743, 1, none⟩) (Kd.R_far (p := ⟨gb743, 0, none⟩) (Kd.R_types HO741.out BK743.out (by decide)) (fun _ hk => hk.2) (.int .i64 t737)) (fun _ hk => hk.2) (.int .i64 t738)) (fun _ hk => hk.2) (.slice Ao14 t739.length co14)) (fun _ h_ => h_.1))) (Kd.R_base ho0) hb); have n2_ := am (Kd.R_lower (Kd.R_new' ho0 (Kd.R_lt (Rz (Kd.R_mono (Kd.R_far (p := ⟨gb743, 2, none⟩) (Kd.R_far (p := ⟨gb743, 1, none⟩) (Kd.R_far (p := ⟨gb743, 0, none⟩) (Kd.R_types HO741.out BK743.out (by decide)) (fun _ hk => hk.2) (.int .i64 t737)) (fun _ hk => hk.2) (.int .i64 t738)) (fun _ hk => hk.2) (.slice Ao14 t739.length co14)) (fun _ h_ => h_.1))))) (below_size (w := w) (Bq))); have n3_ := am (blk_below (g := gb743) (o := .cells #[.int .i64 t737, .int .i64 t738, .slice Ao14 t739.length co14] 29 (0, 0)) (by (with_reducible repeat (first | refine blk_drewN ?_ _ | refine blk_drew ?_ | refine blk_alloc ?_ _)); refine blk_put (cs := #[.int .i64 t737, .int .i64 t738, .slice none 0 0]) ?_ 2 _ rfl; (with_reducible repeat (first | refine blk_drewN ?_ _ | refine blk_drew ?_ | refine blk_alloc ?_ _)); refine blk_put (cs := #[.int .i64 t737, .int .i64 0, .slice none 0 0]) ?_ 1 _ rfl; (with_reducible repeat (first | refine blk_drewN ?_ _ | refine blk_drew ?_ | refine blk_alloc ?_ _)); refine blk_put (cs := #[.int .i64 0, .int .i64 0, .slice none 0 0]) ?_ 0 _ rfl; exact Kz BK743.out) hb); have n4_ := Bc HB hb; clear HO736 HO741 BK743 HB; revert n0_ n1_ n2_ n3_ n4_; intro HO736 HO741 HO748 BK743 HB; (try clear hb); (try clear hb2); (try clear hk); (try clear hi); (try clear ho0)) | ((with_reducible refine gate_dst (N := 10) rfl ?_); (try (refine gate_guard (by rfl) ?_; dsimp only)); refine bE 10 #[.int .i64 0, .int .i64 0, .slice none 0 0] 29 ?_; intro gb750 hg w16 hbox hb; have n0_ := Rb HO736 hb; have n1_ := Rb HO741 hb; have n2_ := Rb HO748 hb; have n3_ := Kb BK743 hb; have n4_ := Bc HB hb; have n5_ := am (hbox); have n6_ := Gm HB hg; have n7_ := Gm HB hg; have n8_ := Nl BK743 hg; have n9_ := Ng BK743 hg; clear HO736 HO741 HO748 BK743 HB; revert n0_ n1_ n2_ n3_ n4_ n5_ n6_ n7_ n8_ n9_; intro HO736 HO741 HO748 BK743 HB BK750 GW750 GE750 NB743_750 NB750_743; clear hb hbox hg; have hnb17 := NB750_743.out; have hnc17 := NB743_750.out; obtain ⟨hcz18_0, hcz18_1, hcz18_2, hfz18_0, hfz18_1, hfz18_2⟩ := cf3 (w := w16) BK750; obtain ⟨Ao19, co19, eo19⟩ := Kd.R_slice HO748.out; subst eo19))
  (try simp only [aP])
  go_cut [64] (fun v64 wc => ∃ (kq : Nat) (x64_7 : Bool), v64 = .bool x64_7 ∧ Aside0 (laws_FnPeeledIsPerfect.j0 kq t732 t733 t734 t742 x64_7 t737 t738 t739 = some r) ∧ Aside0 (kq ≤ k) ∧ Aside0 (Kd.R Kd.string 9 wc w.heap.size (fun _ => True) (.slice Ao10 t733.length co10) t733) ∧ Aside0 (Kd.R (Kd.int .i64) 3 wc w.heap.size (fun k_ => some k_ ≠ ((.slice Ao19 t746.length co19) : Value).ownBlock) (.slice Ao14 t739.length co14) t739) ∧ Aside0 (Kd.R (Kd.int .i64) 3 wc w.heap.size (fun k_ => some k_ ≠ ((.slice Ao14 t739.length co14) : Value).ownBlock) (.slice Ao19 t746.length co19) t746) ∧ Aside0 (wc.heap[gb743]? = some (.cells #[.int .i64 t737, .int .i64 t738, (.slice Ao14 t739.length co14)] 29 (0, 0))) ∧ Aside0 (wc.heap[gb750]? = some (.cells #[.int .i64 t744, .int .i64 t745, (.slice Ao19 t746.length co19)] 29 (0, 0))) ∧ Aside0 (Below w.heap.size w wc))
  case first =>
   have H := HC8.out; clear HC8
   by_cases c20 : (t742 != t749) = true
   ·rw [if_pos c20] at H
    have c20b0 : (t742 != t749) = true := c20
    (try (have c20b1 : decide (t742 = t749) = false := by simpa using c20))
    (try (have c20b2 : (t742 == t749) = false := by simpa using c20))
    (try (have c20b3 : ¬ (t742 = t749) := by simpa using c20))
    (try (have c20b4 : (!(t742 == t749)) = true := c20b0))
    clear c20
    (first | rw [c20b0] | (simp only [i64_w, i32_w]; rw [c20b0]) | skip)
    exact absurd (H.trans (congrArg some HQT_.out)) (laws_FnPeeledIsPerfect.j0.dead _ _ _ _ _ _ _ _)
   ·rw [if_neg c20] at H
    have c20b0 : (t742 != t749) = false := by simpa using c20
    (try (have c20b1 : decide (t742 = t749) = true := by simpa using c20))
    (try (have c20b2 : (t742 == t749) = true := by simpa using c20))
    (try (have c20b3 : (!(t742 == t749)) = false := c20b0))
    clear c20
    (first | rw [c20b0] | (simp only [i64_w, i32_w]; rw [c20b0]) | skip)
    replace H := Option.bind_eq_some_iff.mp H; obtain ⟨t751, A210, H⟩ := H; (try dsimp -simprocs only at H); have A21 := am A210; clear A210; have H' := am H; clear H; have hnb22 := NB743_750.out; have hnc22 := NB750_743.out; obtain ⟨hcz23_0, hcz23_1, hcz23_2, hfz23_0, hfz23_1, hfz23_2⟩ := cf3 (w := w16) BK743; obtain ⟨hcz24_0, hcz24_1, hcz24_2, hfz24_0, hfz24_1, hfz24_2⟩ := cf3 (w := w16) BK750
    go_wp2_with (first | (go_at_call 8; (with_reducible refine (laws_pSamePeeled.calls k t737 t738 _ _ t739 t744 t745 _ _ t746 t751 _ ?side1 ?side2 ?side3 ?side4 A21.out).mono ?_); (case side1 => refine (Kd.R_reads' (e := 3) (base := w.heap.size) (ok := fun k_ => (True ∧ some k_ ≠ (.slice Ao19 t746.length co19 : Value).ownBlock)) (n := t739.length) (c := co14) ?_).2.2; exact (Rz (Kd.R_mono (Kd.R_far (p := ⟨gb750, 2, none⟩) (Kd.R_far (p := ⟨gb750, 1, none⟩) (Kd.R_far (p := ⟨gb750, 0, none⟩) (Kd.R_types HO741.out BK750.out (by decide)) (fun _ hk => hk.2) (.int .i64 t744)) (fun _ hk => hk.2) (.int .i64 t745)) (fun _ hk => hk.2) (.slice Ao19 t746.length co19)) (fun _ h_ => h_.1)))); (case side2 => exact (Kd.R_reads' HO741.out).2.1); (case side3 => refine (Kd.R_reads' (e := 3) (base := w.heap.size) (ok := fun k_ => (True ∧ some k_ ≠ (.slice Ao14 t739.length co14 : Value).ownBlock)) (n := t746.length) (c := co19) ?_).2.2; exact (Rz (Kd.R_mono (Kd.R_far (p := ⟨gb750, 2, none⟩) (Kd.R_far (p := ⟨gb750, 1, none⟩) (Kd.R_far (p := ⟨gb750, 0, none⟩) (Kd.R_types HO748.out BK750.out (by decide)) (fun _ hk => hk.2) (.int .i64 t744)) (fun _ hk => hk.2) (.int .i64 t745)) (fun _ hk => hk.2) (.slice Ao19 t746.length co19)) (fun _ h_ => h_.1)))); (case side4 => exact (Kd.R_reads' HO748.out).2.1); rintro e w25 ⟨rfl, hb⟩; have n0_ := am (Kd.R_below (Rz (Kd.R_mono (Kd.R_far (p := ⟨gb750, 2, none⟩) (Kd.R_far (p := ⟨gb750, 1, none⟩) (Kd.R_far (p := ⟨gb750, 0, none⟩) (Kd.R_types HO736.out BK750.out (by decide)) (fun _ hk => hk.2) (.int .i64 t744)) (fun _ hk => hk.2) (.int .i64 t745)) (fun _ hk => hk.2) (.slice Ao19 t746.length co19)) (fun _ h_ => h_.1))) hb); have n1_ := am (Kd.R_below (Rz (Kd.R_mono (Kd.R_far (p := ⟨gb750, 2, none⟩) (Kd.R_far (p := ⟨gb750, 1, none⟩) (Kd.R_far (p := ⟨gb750, 0, none⟩) (Kd.R_types HO741.out BK750.out (by decide)) (fun _ hk => hk.2) (.int .i64 t744)) (fun _ hk => hk.2) (.int .i64 t745)) (fun _ hk => hk.2) (.slice Ao19 t746.length co19)) (fun _ h_ => h_.1))) hb); have n2_ := am (Kd.R_below (Rz (Kd.R_mono (Kd.R_far (p := ⟨gb750, 2, none⟩) (Kd.R_far (p := ⟨gb750, 1, none⟩) (Kd.R_far (p := ⟨gb750, 0, none⟩) (Kd.R_types HO748.out BK750.out (by decide)) (fun _ hk => hk.2) (.int .i64 t744)) (fun _ hk => hk.2) (.int .i64 t745)) (fun _ hk => hk.2) (.slice Ao19 t746.length co19)) (fun _ h_ => h_.1))) hb); have n3_ := am (blk_below (g := gb743) (o := .cells #[.int .i64 t737, .int .i64 t738, .slice Ao14 t739.length co14] 29 (0, 0)) (by (with_reducible repeat (first | refine blk_drewN ?_ _ | refine blk_drew ?_ | refine blk_alloc ?_ _)); refine blk_far ?_ NB743_750.out _; (with_reducible repeat (first | refine blk_drewN ?_ _ | refine blk_drew ?_ | refine blk_alloc ?_ _)); refine blk_far ?_ NB743_750.out _; (with_reducible repeat (first | refine blk_drewN ?_ _ | refine blk_drew ?_ | refine blk_alloc ?_ _)); refine blk_far ?_ NB743_750.out _; exact Kz BK743.out) hb); have n4_ := am (blk_below (g := gb750) (o := .cells #[.int .i64 t744, .int .i64 t745, .slice Ao19 t746.length co19] 29 (0, 0)) (by (with_reducible repeat (first | refine blk_drewN ?_ _ | refine blk_drew ?_ | refine blk_alloc ?_ _)); refine blk_put (cs := #[.int .i64 t744, .int .i64 t745, .slice none 0 0]) ?_ 2 _ rfl; (with_reducible repeat (first | refine blk_drewN ?_ _ | refine blk_drew ?_ | refine blk_alloc ?_ _)); refine blk_put (cs := #[.int .i64 t744, .int .i64 0, .slice none 0 0]) ?_ 1 _ rfl; (with_reducible repeat (first | refine blk_drewN ?_ _ | refine blk_drew ?_ | refine blk_alloc ?_ _)); refine blk_put (cs := #[.int .i64 0, .int .i64 0, .slice none 0 0]) ?_ 0 _ rfl; exact Kz BK750.out) hb); have n5_ := Bc HB hb; clear HO736 HO741 HO748 BK743 BK750 HB; revert n0_ n1_ n2_ n3_ n4_ n5_; intro HO736 HO741 HO748 BK743 BK750 HB; (try clear hb); (try clear hb2); (try clear hk); (try clear hi)))
    go_meet
    case rel => exact ⟨_, (!t751), wZ, H', ⟨by first | omega | exact Nat.le_refl _⟩, ⟨Rz HO736.out⟩, ⟨Rz (Kd.R_mono HO741.out (fun _ hk => hk.2))⟩, ⟨Rz (Kd.R_mono HO748.out (fun _ hk => hk.2))⟩, ⟨Kz BK743.out⟩, ⟨Kz BK750.out⟩, ⟨Bq⟩⟩
  case rest =>
   refine Nonempty.elim ?_ id
   refine (letI hh_ : Nonempty (_ : Prop) := ?apart1; (?close1 : type_of% hh_))
   case apart1 =>
    refine Nonempty.intro ?_
    clear HC8
    try clear c1
    try clear c2
    try clear p2
    try clear c3
    try clear c4
    try clear c5
    try clear c6
    try clear c7
    try clear c17
    try clear c20
    try clear c20b0
    try clear c20b1
    try clear c20b2
    try clear c22
    try clear hcz13_0
    try clear hcz13_1
    try clear hcz13_2
    try clear hcz18_0
    try clear hcz18_1
    try clear hcz18_2
    try clear hcz23_0
    try clear hcz23_1
    try clear hcz23_2
    try clear hcz24_0
    try clear hcz24_1
    try clear hcz24_2
    try clear hfz13_0
    try clear hfz13_1
    try clear hfz13_2
    try clear hfz18_0
    try clear hfz18_1
    try clear hfz18_2
    try clear hfz23_0
    try clear hfz23_1
    try clear hfz23_2
    try clear hfz24_0
    try clear hfz24_1
    try clear hfz24_2
    obtain ⟨kq, x64_7, rfl, HA, HJ7, HO_6, HO_744002, HO_751002, BK743, BK750, HB⟩ := hcut; cases kq with
    | zero => exact absurd HA.out (by simp [laws_FnPeeledIsPerfect.j0])
    | succ kj7 =>
     have H := HA.out; clear HA
     simp only [laws_FnPeeledIsPerfect.j0] at H
     by_cases c26 : x64_7 = true
     ·subst c26
      rw [if_pos rfl] at H; exact absurd (Option.some.inj H) (by rw [HQT_.out]; decide)
     ·replace c26 := Bool.eq_false_iff.mpr c26
      subst c26
      rw [if_neg (show ¬ (false = true) by decide)] at H; replace H := Option.bind_eq_some_iff.mp H; obtain ⟨⟨t752, t753, t756⟩, A270, H⟩ := H; (try dsimp -simprocs only at H); have A27 := am A270; clear A270; replace H := Option.bind_eq_some_iff.mp H; obtain ⟨⟨t758, t761⟩, A280, H⟩ := H; (try dsimp -simprocs only at H); have A28 := am A280; clear A280; have HC29 := am H; clear H
      go_upto_region 10 with (first | ((with_reducible refine gate_callee (f := 9) rfl ?_); refine gL (some 69) Tryz.func9 #[.int .i64 t732, .slice Ao10 t733.length co10, .int .i64 t734] ?_; (with_reducible refine (impl_HyperOf.calls kj7 t732 _ _ t733 t734 t752 t753 t756 _ ?side1 ?side2 A27.out).mono ?_); (case side1 => exact Cz ((Kd.R_reads' HO_6.out).2.2)); (case side2 => exact (Kd.R_reads' HO_6.out).2.1); rintro e w30 ⟨v754, rfl, ho0, hb⟩; refine ⟨_, rfl, ?_⟩; have n0_ := Rb HO_6 hb; have n1_ := Rb HO_744002 hb; have n2_ := Rb HO_751002 hb; have n3_ := am (Kd.S_lower (Kd.S_new' (Kd.S_new' ho0 (Kd.R_lt (Rz HO_744002.out))) (Kd.R_lt (Rz HO_751002.out))) (below_size (w := w) (Bq))); have n4_ := Kb BK743 hb; have n5_ := Kb BK750 hb; have n6_ := Bc HB hb; clear HO_6 HO_744002 HO_751002 BK743 BK750 HB; revert n0_ n1_ n2_ n3_ n4_ n5_ n6_; intro HO_6 HO_744002 HO_751002 HO755 BK743 BK750 HB; (try clear hb); (try clear hb2); (try clear hk); (try clear hi); (try clear ho0)) | ((with_reducible refine gate_dst (N := 12) rfl ?_); (try (refine gate_guard (by rfl) ?_; dsimp only)); refine bE 12 #[.int .i64 0, .slice none 0 0] 35 ?_; intro gb757 hg w31 hbox hb; have n0_ := Rb HO_6 hb; have n1_ := Rb HO_744002 hb; have n2_ := Rb HO_751002 hb; have n3_ := am (Kd.S_below (by (with_reducible repeat (first | apply Kd.S_alloc | apply Kd.S_drewN | apply Kd.S_drew)); exact HO755.out) hb); have n4_ := Kb BK743 hb; have n5_ := Kb BK750 hb; have n6_ := Bc HB hb; have n7_ := am (hbox); have n8_ := Gm HB hg; have n9_ := Gm HB hg; have n10_ := Nl BK743 hg; have n11_ := Ng BK743 hg; have n12_ := Nl BK750 hg; have n13_ := Ng BK750 hg; clear HO_6 HO_744002 HO_751002 HO755 BK743 BK750 HB; revert n0_ n1_ n2_ n3_ n4_ n5_ n6_ n7_ n8_ n9_ n10_ n11_ n12_ n13_; intro HO_6 HO_744002 HO_751002 HO755 BK743 BK750 HB BK757 GW757 GE757 NB743_757 NB757_743 NB750_757 NB757_750; clear hb hbox hg; have hnb32 := NB757_743.out; have hnc32 := NB743_757.out; have hnb33 := NB757_750.out; have hnc33 := NB750_757.out; obtain ⟨hcz34_0, hcz34_1, hfz34_0, hfz34_1⟩ := cf2 (w := w31) BK757; obtain ⟨Ao35, co35, eo35⟩ := Kd.S_slice HO755.out; subst eo35) | ((with_reducible refine gate_callee (f := 10) rfl ?_); refine gL (some 74) Tryz.func10 #[.agg #[.int .i64 t752, .slice Ao35 t753.length co35]] ?_; (with_reducible refine (impl_PeelOrder.calls kj7 t752 _ _ t753 t758 t761 _ ?side1 ?side2 A28.out).mono ?_); (case side1 => refine (Kd.S_reads' (e := 27) (base := w.heap.size) (ok := fun k_ => ((True ∧ some k_ ≠ (.slice Ao14 t739.length co14 : Value).ownBlock) ∧ some k_ ≠ (.slice Ao19 t746.length co19 : Value).ownBlock)) (n := t753.length) (c := co35) ?_).2.2; exact (by (with_reducible repeat (first | apply Kd.S_alloc | apply Kd.S_drewN | apply Kd.S_drew)); exact (Kd.S_mono (Kd.S_far (p := ⟨gb757, 1, none⟩) (Kd.S_far (p := ⟨gb757, 0, none⟩) (Kd.S_types HO755.out BK757.out (by decide)) (fun _ hk => hk.2) (.int .i64 t752)) (fun _ hk => hk.2) (.slice Ao35 t753.length co35)) (fun _ h_ => h_.1)))); (case side2 => exact (Kd.S_reads' HO755.out).2.1); rintro e w36 ⟨v759, rfl, ho0, hb⟩; refine ⟨_, rfl, ?_⟩; have n0_ := am (Kd.R_below (Rz (Kd.R_mono (Kd.R_far (p := ⟨gb757, 1, none⟩) (Kd.R_far (p := ⟨gb757, 0, none⟩) (Kd.R_types HO_6.out BK757.out (by decide)) (fun _ hk => hk.2) (.int .i64 t752)) (fun _ hk => hk.2) (.slice Ao35 t753.length co35)) (fun _ h_ => h_.1))) hb); have n1_ := am (Kd.R_below (Rz (Kd.R_mono (Kd.R_far (p := ⟨gb757, 1, none⟩) (Kd.R_far (p := ⟨gb757, 0, none⟩) (Kd.R_types HO_744002.out BK757.out (by decide)) (fun _ hk => hk.2) (.int .i64 t752)) (fun _ hk => hk.2) (.slice Ao35 t753.length co35)) (fun _ h_ => h_.1))) hb); have n2_ := am (Kd.R_below (Rz (Kd.R_mono (Kd.R_far (p := ⟨gb757, 1, none⟩) (Kd.R_far (p := ⟨gb757, 0, none⟩) (Kd.R_types HO_751002.out BK757.out (by decide)) (fun _ hk => hk.2) (.int .i64 t752)) (fun _ hk => hk.2) (.slice Ao35 t753.length co35)) (fun _ h_ => h_.1))) hb); have n3_ := am (Kd.S_below (by (with_reducible repeat (first | apply Kd.S_alloc | apply Kd.S_drewN | apply Kd.S_drew)); exact (Kd.S_mono (Kd.S_far (p := ⟨gb757, 1, none⟩) (Kd.S_far (p := ⟨gb757, 0, none⟩) (Kd.S_types HO755.out BK757.out (by decide)) (fun _ hk => hk.2) (.int .i64 t752)) (fun _ hk => hk.2) (.slice Ao35 t753.length co35)) (fun _ h_ => h_.1))) hb); have n4_ := Rm ho0 HB; have n5_ := am (blk_below (g := gb743) (o := .cells #[.int .i64 t737, .int .i64 t738, .slice Ao14 t739.length co14] 29 (0, 0)) (by (with_reducible repeat (first | refine blk_drewN ?_ _ | refine blk_drew ?_ | refine blk_alloc ?_ _)); refine blk_far ?_ NB743_757.out _; (with_reducible repeat (first | refine blk_drewN ?_ _ | refine blk_drew ?_ | refine blk_alloc ?_ _)); refine blk_far ?_ NB743_757.out _; exact Kz BK743.out) hb); have n6_ := am (blk_below (g := gb750) (o := .cells #[.int .i64 t744, .int .i64 t745, .slice Ao19 t746.length co19] 29 (0, 0)) (by (with_reducible repeat (first | refine blk_drewN ?_ _ | refine blk_drew ?_ | refine blk_alloc ?_ _)); refine blk_far ?_ NB750_757.out _; (with_reducible repeat (first | refine blk_drewN ?_ _ | refine blk_drew ?_ | refine blk_alloc ?_ _)); refine blk_far ?_ NB750_757.out _; exact Kz BK750.out) hb); have n7_ := am (blk_below (g := gb757) (o := .cells #[.int .i64 t752, .slice Ao35 t753.length co35] 35 (0, 0)) (by (with_reducible repeat (first | refine blk_drewN ?_ _ | refine blk_drew ?_ | refine blk_alloc ?_ _)); refine blk_put (cs := #[.int .i64 t752, .slice none 0 0]) ?_ 1 _ rfl; (with_reducible repeat (first | refine blk_drewN ?_ _ | refine blk_drew ?_ | refine blk_alloc ?_ _)); refine blk_put (cs := #[.int .i64 0, .slice none 0 0]) ?_ 0 _ rfl; exact Kz BK757.out) hb); have n8_ := Bc HB hb; clear HO_6 HO_744002 HO_751002 HO755 BK743 BK750 BK757 HB; revert n0_ n1_ n2_ n3_ n4_ n5_ n6_ n7_ n8_; intro HO_6 HO_744002 HO_751002 HO755 HO760 BK743 BK750 BK757 HB; (try clear hb); (try clear hb2); (try clear hk); (try clear hi); (try clear ho0)))
      (try simp only [aP])
      go_cut [82] (fun v82 wc => ∃ (kq : Nat) (x82_28 : Bool), v82 = .bool x82_28 ∧ Aside0 (laws_FnPeeledIsPerfect.j1 kq t732 t733 t734 t742 x82_28 t737 t738 t739 t752 t753 = some r) ∧ Aside0 (kq ≤ kj7) ∧ Aside0 (Kd.R Kd.string 9 wc w.heap.size (fun _ => True) (.slice Ao10 t733.length co10) t733) ∧ Aside0 (Kd.R (Kd.int .i64) 3 wc w.heap.size (fun k_ => some k_ ≠ ((.slice Ao19 t746.length co19) : Value).ownBlock) (.slice Ao14 t739.length co14) t739) ∧ Aside0 (Kd.R (Kd.int .i64) 3 wc w.heap.size (fun k_ => some k_ ≠ ((.slice Ao14 t739.length co14) : Value).ownBlock) (.slice Ao19 t746.length co19) t746) ∧ Aside0 (Kd.S (Kd.slice 3 (Kd.int .i64)) 27 wc w.heap.size (fun k_ => some k_ ≠ ((.slice Ao14 t739.length co14) : Value).ownBlock ∧ some k_ ≠ ((.slice Ao19 t746.length co19) : Value).ownBlock) (.slice Ao35 t753.length co35) t753) ∧ Aside0 (wc.heap[gb743]? = some (.cells #[.int .i64 t737, .int .i64 t738, (.slice Ao14 t739.length co14)] 29 (0, 0))) ∧ Aside0 (wc.heap[gb750]? = some (.cells #[.int .i64 t744, .int .i64 t745, (.slice Ao19 t746.length co19)] 29 (0, 0))) ∧ Aside0 (wc.heap[gb757]? = some (.cells #[.int .i64 t752, (.slice Ao35 t753.length co35)] 35 (0, 0))) ∧ Aside0 (Below w.heap.size w wc))
      case first =>
       have H := HC29.out; clear HC29
       by_cases c37 : t756 = true
       ·subst c37
        rw [if_pos rfl] at H; have H' := am H; clear H
        go_wp2
        go_meet
        case rel => exact ⟨_, ((t742 != t761)), wZ, H', ⟨by have := HJ7.out; first | omega | exact Nat.le_refl _⟩, ⟨Rz HO_6.out⟩, ⟨Rz HO_744002.out⟩, ⟨Rz HO_751002.out⟩, ⟨by (with_reducible repeat (first | apply Kd.S_alloc | apply Kd.S_drewN | apply Kd.S_drew)); exact Kd.S_mono HO755.out (fun _ hk => ⟨hk.1.2, hk.2⟩)⟩, ⟨Kz BK743.out⟩, ⟨Kz BK750.out⟩, ⟨Kz BK757.out⟩, ⟨Bq⟩⟩
       ·replace c37 := Bool.eq_false_iff.mpr c37
        subst c37
        rw [if_neg (show ¬ (false = true) by decide)] at H; have H' := am H; clear H
        go_wp2
        go_meet
        case rel => exact ⟨_, ((t742 != false)), wZ, H', ⟨by have := HJ7.out; first | omega | exact Nat.le_refl _⟩, ⟨Rz HO_6.out⟩, ⟨Rz HO_744002.out⟩, ⟨Rz HO_751002.out⟩, ⟨by (with_reducible repeat (first | apply Kd.S_alloc | apply Kd.S_drewN | apply Kd.S_drew)); exact Kd.S_mono HO755.out (fun _ hk => ⟨hk.1.2, hk.2⟩)⟩, ⟨Kz BK743.out⟩, ⟨Kz BK750.out⟩, ⟨Kz BK757.out⟩, ⟨Bq⟩⟩
      case rest =>
       refine Nonempty.elim ?_ id
       refine (letI hh_ : Nonempty (_ : Prop) := ?apart2; (?close2 : type_of% hh_))
       case apart2 =>
        refine Nonempty.intro ?_
        clear HC29
        try clear c1
        try clear c2
        try clear p2
        try clear c3
        try clear c4
        try clear c5
        try clear c6
        try clear c7
        try clear c9
        try clear c10
        try clear c17
        try clear c20
        try clear c20b0
        try clear c20b1
        try clear c20b2
        try clear c22
        try clear c26
        try clear c32
        try clear c33
        try clear c37
        try clear hcz13_0
        try clear hcz13_1
        try clear hcz13_2
        try clear hcz18_0
        try clear hcz18_1
        try clear hcz18_2
        try clear hcz23_0
        try clear hcz23_1
        try clear hcz23_2
        try clear hcz24_0
        try clear hcz24_1
        try clear hcz24_2
        try clear hcz34_0
        try clear hcz34_1
        try clear hfz13_0
        try clear hfz13_1
        try clear hfz13_2
        try clear hfz18_0
        try clear hfz18_1
        try clear hfz18_2
        try clear hfz23_0
        try clear hfz23_1
        try clear hfz23_2
        try clear hfz24_0
        try clear hfz24_1
        try clear hfz24_2
        try clear hfz34_0
        try clear hfz34_1
        try clear p2
        obtain ⟨kq, x82_28, rfl, HA, HJ28, HO_6, HO_744002, HO_751002, HO_758001, BK743, BK750, BK757, HB⟩ := hcut; cases kq with
        | zero => exact absurd HA.out (by simp [laws_FnPeeledIsPerfect.j1])
        | succ kj28 =>
         have H := HA.out; clear HA
         simp only [laws_FnPeeledIsPerfect.j1] at H
         by_cases c38 : x82_28 = true
         ·subst c38
          rw [if_pos rfl] at H; exact absurd (Option.some.inj H) (by rw [HQT_.out]; decide)
         ·replace c38 := Bool.eq_false_iff.mpr c38
          subst c38
          rw [if_neg (show ¬ (false = true) by decide)] at H
          by_cases c39 : t742 = true
          ·subst c39
           rw [if_pos rfl] at H; replace H := Option.bind_eq_some_iff.mp H; obtain ⟨⟨t762, t763, t766, t769, t772⟩, A400, H⟩ := H; (try dsimp -simprocs only at H); have A40 := am A400; clear A400; replace H := Option.bind_eq_some_iff.mp H; obtain ⟨⟨t774, t775⟩, A410, H⟩ := H; (try dsimp -simprocs only at H); have A41 := am A410; clear A410; have HC42 := am H; clear H; have hnb43 := NB743_750.out; have hnc43 := NB750_743.out; have hnb44 := NB743_757.out; have hnc44 := NB757_743.out; obtain ⟨hcz45_0, hcz45_1, hcz45_2, hfz45_0, hfz45_1, hfz45_2⟩ := cf3 (w := wc) BK743
           go_upto_region 16 with (first | ((with_reducible refine gate_callee (f := 11) rfl ?_); refine gL (some 87) Tryz.func11 #[.agg #[.int .i64 t737, .int .i64 t738, .slice Ao14 t739.length co14]] ?_; (with_reducible refine (impl_UsedOf.calls kj28 t737 t738 _ _ t739 t762 t763 t766 t769 t772 _ ?side1 ?side2 A40.out).mono ?_); (case side1 => exact Cz ((Kd.R_reads' HO_744002.out).2.2)); (case side2 => exact (Kd.R_reads' HO_744002.out).2.1); rintro e w46 ⟨v764, v767, v770, rfl, ho0, ho1, ho2, hb⟩; refine ⟨_, rfl, ?_⟩; have n0_ := Rb HO_6 hb; have n1_ := am (Kd.R_mono (Kd.R_told (Kd.R_told (Kd.R_told (Kd.R_old (Rz HO_744002.out) hb) (Kd.R_base ho0)) (Kd.R_base ho1)) (Kd.R_base ho2)) (fun _ h_ => h_.1)); have n2_ := am (Kd.R_mono (Kd.R_told (Kd.R_told (Kd.R_told (Kd.R_old (Rz HO_751002.out) hb) (Kd.R_base ho0)) (Kd.R_base ho1)) (Kd.R_base ho2)) (fun _ h_ => h_.1)); have n3_ := am (Kd.S_mono (Kd.S_told (Kd.S_told (Kd.S_told (Kd.S_old (by (with_reducible repeat (first | apply Kd.S_alloc | apply Kd.S_drewN | apply Kd.S_drew)); exact HO_758001.out) hb) (Kd.R_base ho0)) (Kd.R_base ho1)) (Kd.R_base ho2)) (fun _ h_ => h_.1)); have n4_ := Rm (Kd.R_new' (Kd.R_new' ho0 (Kd.R_lt (Rz HO_744002.out))) (Kd.R_lt (Rz HO_751002.out))) HB; have n5_ := Rm (Kd.R_new' (Kd.R_new' ho1 (Kd.R_lt (Rz HO_744002.out))) (Kd.R_lt (Rz HO_751002.out))) HB; have n6_ := Rm (Kd.R_new' (Kd.R_new' ho2 (Kd.R_lt (Rz HO_744002.out))) (Kd.R_lt (Rz HO_751002.out))) HB; have n7_ := Kb BK743 hb; have n8_ := Kb BK750 hb; have n9_ := Kb BK757 hb; have n10_ := Bc HB hb; clear HO_6 HO_744002 HO_751002 HO_758001 BK743 BK750 BK757 HB; revert n0_ n1_ n2_ n3_ n4_ n5_ n6_ n7_ n8_ n9_ n10_; intro HO_6 HO_744002 HO_751002 HO_758001 HO765 HO768 HO771 BK743 BK750 BK757 HB; (try clear hb); (try clear hb2); (try clear hk); (try clear hi); (try clear ho0); (try clear ho1); (try clear ho2)) | ((with_reducible refine gate_dst (N := 16) rfl ?_); (try (refine gate_guard (by rfl) ?_; dsimp only)); refine bE 16 #[.int .i64 0, .slice none 0 0, .slice none 0 0, .slice none 0 0] 44 ?_; intro gb773 hg w47 hbox hb; have n0_ := Rb HO_6 hb; have n1_ := Rb HO_744002 hb; have n2_ := Rb HO_751002 hb; have n3_ := am (Kd.S_below (by (with_reducible repeat (first | apply Kd.S_alloc | apply Kd.S_drewN | apply Kd.S_drew)); exact HO_758001.out) hb); have n4_ := Rb HO765 hb; have n5_ := Rb HO768 hb; have n6_ := Rb HO771 hb; have n7_ := Kb BK743 hb; have n8_ := Kb BK750 hb; have n9_ := Kb BK757 hb; have n10_ := Bc HB hb; have n11_ := am (hbox); have n12_ := Gm HB hg; have n13_ := Gm HB hg; have n14_ := Nl BK743 hg; have n15_ := Ng BK743 hg; have n16_ := Nl BK750 hg; have n17_ := Ng BK750 hg; have n18_ := Nl BK757 hg; have n19_ := Ng BK757 hg; clear HO_6 HO_744002 HO_751002 HO_758001 HO765 HO768 HO771 BK743 BK750 BK757 HB; revert n0_ n1_ n2_ n3_ n4_ n5_ n6_ n7_ n8_ n9_ n10_ n11_ n12_ n13_ n14_ n15_ n16_ n17_ n18_ n19_; intro HO_6 HO_744002 HO_751002 HO_758001 HO765 HO768 HO771 BK743 BK750 BK757 HB BK773 GW773 GE773 NB743_773 NB773_743 NB750_773 NB773_750 NB757_773 NB773_757; clear hb hbox hg; have hnb48 := NB773_743.out; have hnc48 := NB743_773.out; have hnb49 := NB773_750.out; have hnc49 := NB750_773.out; have hnb50 := NB773_757.out; have hnc50 := NB757_773.out; obtain ⟨hcz51_0, hcz51_1, hcz51_2, hcz51_3, hfz51_0, hfz51_1, hfz51_2, hfz51_3⟩ := cf4 (w := w47) BK773; obtain ⟨Ao52, co52, eo52⟩ := Kd.R_slice HO765.out; subst eo52; obtain ⟨Ao53, co53, eo53⟩ := Kd.R_slice HO768.out; subst eo53; obtain ⟨Ao54, co54, eo54⟩ := Kd.R_slice HO771.out; subst eo54; obtain ⟨hcz55_0, hcz55_1, hcz55_2, hfz55_0, hfz55_1, hfz55_2⟩ := cf3 (w := w47) BK743) | ((with_reducible refine gate_callee (f := 12) rfl ?_); refine gL (some 93) Tryz.func12 #[.agg #[.int .i64 t737, .int .i64 t738, .slice Ao14 t739.length co14], .slice Ao10 t733.length co10] ?_; (with_reducible refine (impl_IsPeeledFor.calls kj28 t737 t738 _ _ t739 _ _ t733 t774 t775 _ ?side1 ?side2 ?side3 ?side4 A41.out).mono ?_); (case side1 => refine (Kd.R_reads' (e := 3) (base := w.heap.size) (ok := fun k_ => (((some k_ ≠ (.slice Ao19 t746.length co19 : Value).ownBlock ∧ some k_ ≠ (.slice Ao52 t763.length co52 : Value).ownBlock) ∧ some k_ ≠ (.slice Ao53 t766.length co53 : Value).ownBlock) ∧ some k_ ≠ (.slice Ao54 t769.length co54 : Value).ownBlock)) (n := t739.length) (c := co14) ?_).2.2; exact (Rz (Kd.R_mono (Kd.R_far (p := ⟨gb773, 3, none⟩) (Kd.R_far (p := ⟨gb773, 2, none⟩) (Kd.R_far (p := ⟨gb773, 1, none⟩) (Kd.R_far (p := ⟨gb773, 0, none⟩) (Kd.R_types HO_744002.out BK773.out (by decide)) (fun _ hk => hk.2) (.int .i64 t762)) (fun _ hk => hk.2) (.slice Ao52 t763.length co52)) (fun _ hk => hk.2) (.slice Ao53 t766.length co53)) (fun _ hk => hk.2) (.slice Ao54 t769.length co54)) (fun _ h_ => h_.1)))); (case side2 => exact (Kd.R_reads' HO_744002.out).2.1); (case side3 => refine (Kd.R_reads' (e := 9) (base := w.heap.size) (ok := fun k_ => True) (n := t733.length) (c := co10) ?_).2.2; exact (Rz (Kd.R_mono (Kd.R_far (p := ⟨gb773, 3, none⟩) (Kd.R_far (p := ⟨gb773, 2, none⟩) (Kd.R_far (p := ⟨gb773, 1, none⟩) (Kd.R_far (p := ⟨gb773, 0, none⟩) (Kd.R_types HO_6.out BK773.out (by decide)) (fun _ hk => hk.2) (.int .i64 t762)) (fun _ hk => hk.2) (.slice Ao52 t763.length co52)) (fun _ hk => hk.2) (.slice Ao53 t766.length co53)) (fun _ hk => hk.2) (.slice Ao54 t769.length co54)) (fun _ h_ => h_.1)))); (case side4 => exact (Kd.R_reads' HO_6.out).2.1); rintro e w56 ⟨rfl, hb⟩; refine ⟨_, rfl, ?_⟩; have n0_ := am (Kd.R_below (Rz (Kd.R_mono (Kd.R_far (p := ⟨gb773, 3, none⟩) (Kd.R_far (p := ⟨gb773, 2, none⟩) (Kd.R_far (p := ⟨gb773, 1, none⟩) (Kd.R_far (p := ⟨gb773, 0, none⟩) (Kd.R_types HO_6.out BK773.out (by decide)) (fun _ hk => hk.2) (.int .i64 t762)) (fun _ hk => hk.2) (.slice Ao52 t763.length co52)) (fun _ hk => hk.2) (.slice Ao53 t766.length co53)) (fun _ hk => hk.2) (.slice Ao54 t769.length co54)) (fun _ h_ => h_.1))) hb); have n1_ := am (Kd.R_below (Rz (Kd.R_mono (Kd.R_far (p := ⟨gb773, 3, none⟩) (Kd.R_far (p := ⟨gb773, 2, none⟩) (Kd.R_far (p := ⟨gb773, 1, none⟩) (Kd.R_far (p := ⟨gb773, 0, none⟩) (Kd.R_types HO_744002.out BK773.out (by decide)) (fun _ hk => hk.2) (.int .i64 t762)) (fun _ hk => hk.2) (.slice Ao52 t763.length co52)) (fun _ hk => hk.2) (.slice Ao53 t766.length co53)) (fun _ hk => hk.2) (.slice Ao54 t769.length co54)) (fun _ h_ => h_.1))) hb); have n2_ := am (Kd.R_below (Rz (Kd.R_mono (Kd.R_far (p := ⟨gb773, 3, none⟩) (Kd.R_far (p := ⟨gb773, 2, none⟩) (Kd.R_far (p := ⟨gb773, 1, none⟩) (Kd.R_far (p := ⟨gb773, 0, none⟩) (Kd.R_types HO_751002.out BK773.out (by decide)) (fun _ hk => hk.2) (.int .i64 t762)) (fun _ hk => hk.2) (.slice Ao52 t763.length co52)) (fun _ hk => hk.2) (.slice Ao53 t766.length co53)) (fun _ hk => hk.2) (.slice Ao54 t769.length co54)) (fun _ h_ => h_.1))) hb); have n3_ := am (Kd.S_below (by (with_reducible repeat (first | apply Kd.S_alloc | apply Kd.S_drewN | apply Kd.S_drew)); exact (Kd.S_mono (Kd.S_far (p := ⟨gb773, 3, none⟩) (Kd.S_far (p := ⟨gb773, 2, none⟩) (Kd.S_far (p := ⟨gb773, 1, none⟩) (Kd.S_far (p := ⟨gb773, 0, none⟩) (Kd.S_types HO_758001.out BK773.out (by decide)) (fun _ hk => hk.2) (.int .i64 t762)) (fun _ hk => hk.2) (.slice Ao52 t763.length co52)) (fun _ hk => hk.2) (.slice Ao53 t766.length co53)) (fun _ hk => hk.2) (.slice Ao54 t769.length co54)) (fun _ h_ => h_.1))) hb); have n4_ := am (Kd.R_below (Rz (Kd.R_mono (Kd.R_far (p := ⟨gb773, 3, none⟩) (Kd.R_far (p := ⟨gb773, 2, none⟩) (Kd.R_far (p := ⟨gb773, 1, none⟩) (Kd.R_far (p := ⟨gb773, 0, none⟩) (Kd.R_types HO765.out BK773.out (by decide)) (fun _ hk => hk.2) (.int .i64 t762)) (fun _ hk => hk.2) (.slice Ao52 t763.length co52)) (fun _ hk => hk.2) (.slice Ao53 t766.length co53)) (fun _ hk => hk.2) (.slice Ao54 t769.length co54)) (fun _ h_ => h_.1))) hb); have n5_ := am (Kd.R_below (Rz (Kd.R_mono (Kd.R_far (p := ⟨gb773, 3, none⟩) (Kd.R_far (p := ⟨gb773, 2, none⟩) (Kd.R_far (p := ⟨gb773, 1, none⟩) (Kd.R_far (p := ⟨gb773, 0, none⟩) (Kd.R_types HO768.out BK773.out (by decide)) (fun _ hk => hk.2) (.int .i64 t762)) (fun _ hk => hk.2) (.slice Ao52 t763.length co52)) (fun _ hk => hk.2) (.slice Ao53 t766.length co53)) (fun _ hk => hk.2) (.slice Ao54 t769.length co54)) (fun _ h_ => h_.1))) hb); have n6_ := am (Kd.R_below (Rz (Kd.R_mono (Kd.R_far (p := ⟨gb773, 3, none⟩) (Kd.R_far (p := ⟨gb773, 2, none⟩) (Kd.R_far (p := ⟨gb773, 1, none⟩) (Kd.R_far (p := ⟨gb773, 0, none⟩) (Kd.R_types HO771.out BK773.out (by decide)) (fun _ hk => hk.2) (.int .i64 t762)) (fun _ hk => hk.2) (.slice Ao52 t763.length co52)) (fun _ hk => hk.2) (.slice Ao53 t766.length co53)) (fun _ hk => hk.2) (.slice Ao54 t769.length co54)) (fun _ h_ => h_.1))) hb); have n7_ := am (blk_below (g := gb743) (o := .cells #[.int .i64 t737, .int .i64 t738, .slice Ao14 t739.length co14] 29 (0, 0)) (by (with_reducible repeat (first | refine blk_drewN ?_ _ | refine blk_drew ?_ | refine blk_alloc ?_ _)); refine blk_far ?_ NB743_773.out _; (with_reducible repeat (first | refine blk_drewN ?_ _ | refine blk_drew ?_ | refine blk_alloc ?_ _)); refine blk_far ?_ NB743_773.out _; (with_reducible repeat (first | refine blk_drewN ?_ _ | refine blk_drew ?_ | refine blk_alloc ?_ _)); refine blk_far ?_ NB743_773.out _; (with_reducible repeat (first | refine blk_drewN ?_ _ | refine blk_drew ?_ | refine blk_alloc ?_ _)); refine blk_far ?_ NB743_773.out _; exact Kz BK743.out) hb); have n8_ := am (blk_below (g := gb750) (o := .cells #[.int .i64 t744, .int .i64 t745, .slice Ao19 t746.length co19] 29 (0, 0)) (by (with_reducible repeat (first | refine blk_drewN ?_ _ | refine blk_drew ?_ | refine blk_alloc ?_ _)); refine blk_far ?_ NB750_773.out _; (with_reducible repeat (first | refine blk_drewN ?_ _ | refine blk_drew ?_ | refine blk_alloc ?_ _)); refine blk_far ?_ NB750_773.out _; (with_reducible repeat (first | refine blk_drewN ?_ _ | refine blk_drew ?_ | refine blk_alloc ?_ _)); refine blk_far ?_ NB750_773.out _; (with_reducible repeat (first | refine blk_drewN ?_ _ | refine blk_drew ?_ | refine blk_alloc ?_ _)); refine blk_far ?_ NB750_773.out _; exact Kz BK750.out) hb); have n9_ := am (blk_below (g := gb757) (o := .cells #[.int .i64 t752, .slice Ao35 t753.length co35] 35 (0, 0)) (by (with_reducible repeat (first | refine blk_drewN ?_ _ | refine blk_drew ?_ | refine blk_alloc ?_ _)); refine blk_far ?_ NB757_773.out _; (with_reducible repeat (first | refine blk_drewN ?_ _ | refine blk_drew ?_ | refine blk_alloc ?_ _)); refine blk_far ?_ NB757_773.out _; (with_reducible repeat (first | refine blk_drewN ?_ _ | refine blk_drew ?_ | refine blk_alloc ?_ _)); refine blk_far ?_ NB757_773.out _; (with_reducible repeat (first | refine blk_drewN ?_ _ | refine blk_drew ?_ | refine blk_alloc ?_ _)); refine blk_far ?_ NB757_773.out _; exact Kz BK757.out) hb); have n10_ := am (blk_below (g := gb773) (o := .cells #[.int .i64 t762, .slice Ao52 t763.length co52, .slice Ao53 t766.length co53, .slice Ao54 t769.length co54] 44 (0, 0)) (by (with_reducible repeat (first | refine blk_drewN ?_ _ | refine blk_drew ?_ | refine blk_alloc ?_ _)); refine blk_put (cs := #[.int .i64 t762, .slice Ao52 t763.length co52, .slice Ao53 t766.length co53, .slice none 0 0]) ?_ 3 _ rfl; (with_reducible repeat (first | refine blk_drewN ?_ _ | refine blk_drew ?_ | refine blk_alloc ?_ _)); refine blk_put (cs := #[.int .i64 t762, .slice Ao52 t763.length co52, .slice none 0 0, .slice none 0 0]) ?_ 2 _ rfl; (with_reducible repeat (first | refine blk_drewN ?_ _ | refine blk_drew ?_ | refine blk_alloc ?_ _)); refine blk_put (cs := #[.int .i64 t762, .slice none 0 0, .slice none 0 0, .slice none 0 0]) ?_ 1 _ rfl; (with_reducible repeat (first | refine blk_drewN ?_ _ | refine blk_drew ?_ | refine blk_alloc ?_ _)); refine blk_put (cs := #[.int .i64 0, .slice none 0 0, .slice none 0 0, .slice none 0 0]) ?_ 0 _ rfl; exact Kz BK773.out) hb); have n11_ := Bc HB hb; clear HO_6 HO_744002 HO_751002 HO_758001 HO765 HO768 HO771 BK743 BK750 BK757 BK773 HB; revert n0_ n1_ n2_ n3_ n4_ n5_ n6_ n7_ n8_ n9_ n10_ n11_; intro HO_6 HO_744002 HO_751002 HO_758001 HO765 HO768 HO771 BK743 BK750 BK757 BK773 HB; (try clear hb); (try clear hb2); (try clear hk); (try clear hi)))
           (try simp only [aP])
           go_cut [105] (fun v105 wc => ∃ (kq : Nat) (x105_41 : Bool), v105 = .bool x105_41 ∧ Aside0 (laws_FnPeeledIsPerfect.j2 kq t732 t733 t734 x105_41 t737 t738 t739 t752 t753 t762 t763 t766 t769 = some r) ∧ Aside0 (kq ≤ kj28) ∧ Aside0 (Kd.R Kd.string 9 wc w.heap.size (fun _ => True) (.slice Ao10 t733.length co10) t733) ∧ Aside0 (Kd.R (Kd.int .i64) 3 wc w.heap.size (fun k_ => some k_ ≠ ((.slice Ao19 t746.length co19) : Value).ownBlock ∧ some k_ ≠ ((.slice Ao52 t763.length co52) : Value).ownBlock ∧ some k_ ≠ ((.slice Ao53 t766.length co53) : Value).ownBlock ∧ some k_ ≠ ((.slice Ao54 t769.length co54) : Value).ownBlock) (.slice Ao14 t739.length co14) t739) ∧ Aside0 (Kd.R (Kd.int .i64) 3 wc w.heap.size (fun k_ => some k_ ≠ ((.slice Ao14 t739.length co14) : Value).ownBlock ∧ some k_ ≠ ((.slice Ao52 t763.length co52) : Value).ownBlock ∧ some k_ ≠ ((.slice Ao53 t766.length co53) : Value).ownBlock ∧ some k_ ≠ ((.slice Ao54 t769.length co54) : Value).ownBlock) (.slice Ao19 t746.length co19) t746) ∧ Aside0 (Kd.S (Kd.slice 3 (Kd.int .i64)) 27 wc w.heap.size (fun k_ => some k_ ≠ ((.slice Ao14 t739.length co14) : Value).ownBlock ∧ some k_ ≠ ((.slice Ao19 t746.length co19) : Value).ownBlock ∧ some k_ ≠ ((.slice Ao52 t763.length co52) : Value).ownBlock ∧ some k_ ≠ ((.slice Ao53 t766.length co53) : Value).ownBlock ∧ some k_ ≠ ((.slice Ao54 t769.length co54) : Value).ownBlock) (.slice Ao35 t753.length co35) t753) ∧ Aside0 (Kd.R (Kd.int .i64) 3 wc w.heap.size (fun k_ => some k_ ≠ ((.slice Ao14 t739.length co14) : Value).ownBlock ∧ some k_ ≠ ((.slice Ao19 t746.length co19) : Value).ownBlock ∧ some k_ ≠ ((.slice Ao53 t766.length co53) : Value).ownBlock ∧ some k_ ≠ ((.slice Ao54 t769.length co54) : Value).ownBlock) (.slice Ao52 t763.length co52) t763) ∧ Aside0 (Kd.R (Kd.int .i64) 3 wc w.heap.size (fun k_ => some k_ ≠ ((.slice Ao14 t739.length co14) : Value).ownBlock ∧ some k_ ≠ ((.slice Ao19 t746.length co19) : Value).ownBlock ∧ some k_ ≠ ((.slice Ao52 t763.length co52) : Value).ownBlock ∧ some k_ ≠ ((.slice Ao54 t769.length co54) : Value).ownBlock) (.slice Ao53 t766.length co53) t766) ∧ Aside0 (Kd.R (Kd.int .i64) 3 wc w.heap.size (fun k_ => some k_ ≠ ((.slice Ao14 t739.length co14) : Value).ownBlock ∧ some k_ ≠ ((.slice Ao19 t746.length co19) : Value).ownBlock ∧ some k_ ≠ ((.slice Ao52 t763.length co52) : Value).ownBlock ∧ some k_ ≠ ((.slice Ao53 t766.length co53) : Value).ownBlock) (.slice Ao54 t769.length co54) t769) ∧ Aside0 (wc.heap[gb743]? = some (.cells #[.int .i64 t737, .int .i64 t738, (.slice Ao14 t739.length co14)] 29 (0, 0))) ∧ Aside0 (wc.heap[gb750]? = some (.cells #[.int .i64 t744, .int .i64 t745, (.slice Ao19 t746.length co19)] 29 (0, 0))) ∧ Aside0 (wc.heap[gb757]? = some (.cells #[.int .i64 t752, (.slice Ao35 t753.length co35)] 35 (0, 0))) ∧ Aside0 (wc.heap[gb773]? = some (.cells #[.int .i64 t762, (.slice Ao52 t763.length co52), (.slice Ao53 t766.length co53), (.slice Ao54 t769.length co54)] 44 (0, 0))) ∧ Aside0 (Below w.heap.size w wc))
           case first =>
            have H := HC42.out; clear HC42
            by_cases c57 : t772 = true
            ·subst c57
             rw [if_pos rfl] at H
             by_cases c58 : t775 = true
             ·subst c58
              rw [if_pos rfl] at H; have H' := am H; clear H
              go_wp2
              go_meet
              case rel => exact ⟨_, (!t774), wZ, H', ⟨by have := HJ7.out; have := HJ28.out; first | omega | exact Nat.le_refl _⟩, ⟨Rz HO_6.out⟩, ⟨Rz (Kd.R_mono HO_744002.out (fun _ hk => ⟨hk.1.1.1, ⟨hk.1.1.2, ⟨hk.1.2, hk.2⟩⟩⟩))⟩, ⟨Rz (Kd.R_mono HO_751002.out (fun _ hk => ⟨hk.1.1.1, ⟨hk.1.1.2, ⟨hk.1.2, hk.2⟩⟩⟩))⟩, ⟨by (with_reducible repeat (first | apply Kd.S_alloc | apply Kd.S_drewN | apply Kd.S_drew)); exact Kd.S_mono HO_758001.out (fun _ hk => ⟨hk.1.1.1.1, ⟨hk.1.1.1.2, ⟨hk.1.1.2, ⟨hk.1.2, hk.2⟩⟩⟩⟩)⟩, ⟨Rz (Kd.R_mono HO765.out (fun _ hk => ⟨hk.1.2, ⟨hk.2, ⟨hk.1.1.1, hk.1.1.2⟩⟩⟩))⟩, ⟨Rz (Kd.R_mono HO768.out (fun _ hk => ⟨hk.1.2, ⟨hk.2, ⟨hk.1.1.1, hk.1.1.2⟩⟩⟩))⟩, ⟨Rz (Kd.R_mono HO771.out (fun _ hk => ⟨hk.1.2, ⟨hk.2, ⟨hk.1.1.1, hk.1.1.2⟩⟩⟩))⟩, ⟨Kz BK743.out⟩, ⟨Kz BK750.out⟩, ⟨Kz BK757.out⟩, ⟨Kz BK773.out⟩, ⟨Bq⟩⟩
             ·replace c58 := Bool.eq_false_iff.mpr c58
              subst c58
              rw [if_neg (show ¬ (false = true) by decide)] at H; exact absurd (H.trans (congrArg some HQT_.out)) (laws_FnPeeledIsPerfect.j2.dead _ _ _ _ _ _ _ _ _ _ _ _ _)
            ·replace c57 := Bool.eq_false_iff.mpr c57
             subst c57
             rw [if_neg (show ¬ (false = true) by decide)] at H; exact absurd (H.trans (congrArg some HQT_.out)) (laws_FnPeeledIsPerfect.j2.dead _ _ _ _ _ _ _ _ _ _ _ _ _)
           case rest =>
            refine Nonempty.elim ?_ id
            refine (letI hh_ : Nonempty (_ : Prop) := ?apart3; (?close3 : type_of% hh_))
            case apart3 =>
             refine Nonempty.intro ?_
             clear HC42
             try clear c1
             try clear c2
             try clear p2
             try clear c3
             try clear c4
             try clear c5
             try clear c6
             try clear c7
             try clear c9
             try clear c10
             try clear c11
             try clear c12
             try clear c17
             try clear c20
             try clear c20b0
             try clear c20b1
             try clear c20b2
             try clear c22
             try clear c26
             try clear c32
             try clear c33
             try clear c37
             try clear c38
             try clear c39
             try clear c43
             try clear c44
             try clear c48
             try clear c49
             try clear c50
             try clear c57
             try clear c58
             try clear hcz13_0
             try clear hcz13_1
             try clear hcz13_2
             try clear hcz18_0
             try clear hcz18_1
             try clear hcz18_2
             try clear hcz23_0
             try clear hcz23_1
             try clear hcz23_2
             try clear hcz24_0
             try clear hcz24_1
             try clear hcz24_2
             try clear hcz34_0
             try clear hcz34_1
             try clear hcz45_0
             try clear hcz45_1
             try clear hcz45_2
             try clear hcz51_0
             try clear hcz51_1
             try clear hcz51_2
             try clear hcz51_3
             try clear hcz55_0
             try clear hcz55_1
             try clear hcz55_2
             try clear hfz13_0
             try clear hfz13_1
             try clear hfz13_2
             try clear hfz18_0
             try clear hfz18_1
             try clear hfz18_2
             try clear hfz23_0
             try clear hfz23_1
             try clear hfz23_2
             try clear hfz24_0
             try clear hfz24_1
             try clear hfz24_2
             try clear hfz34_0
             try clear hfz34_1
             try clear hfz45_0
             try clear hfz45_1
             try clear hfz45_2
             try clear hfz51_0
             try clear hfz51_1
             try clear hfz51_2
             try clear hfz51_3
             try clear hfz55_0
             try clear hfz55_1
             try clear hfz55_2
             try clear p2
             obtain ⟨kq, x105_41, rfl, HA, HJ41, HO_6, HO_744002, HO_751002, HO_758001, HO_774001, HO_774002, HO_774003, BK743, BK750, BK757, BK773, HB⟩ := hcut; cases kq with
             | zero => exact absurd HA.out (by simp [laws_FnPeeledIsPerfect.j2])
             | succ kj41 =>
              have H := HA.out; clear HA
              simp only [laws_FnPeeledIsPerfect.j2] at H
              by_cases c59 : x105_41 = true
              ·subst c59
               rw [if_pos rfl] at H; exact absurd (Option.some.inj H) (by rw [HQT_.out]; decide)
              ·replace c59 := Bool.eq_false_iff.mpr c59
               subst c59
               rw [if_neg (show ¬ (false = true) by decide)] at H; have H' := am H; clear H
               go_wp2
               go_loopg [20, 108] kj41 (fun kq v20 v108 w' => ∃ (x20_4 : List Int) (x108_4 : Int), v108 = .int .i64 x108_4 ∧ Aside0 (laws_FnPeeledIsPerfect.l0 kq t732 t733 t734 x20_4 t733 (t733.length : Int) x108_4 t737 t738 t739 t752 t753 t762 t763 t766 t769 = some r) ∧ Aside0 (kq ≤ kj41) ∧ Aside0 (Kd.R Kd.string 9 w' w.heap.size (fun _ => True) (.slice Ao10 t733.length co10) t733) ∧ Aside0 (Kd.R (Kd.int .i64) 3 w' w.heap.size (fun k_ => some k_ ≠ ((.slice Ao14 t739.length co14) : Value).ownBlock ∧ some k_ ≠ ((.slice Ao19 t746.length co19) : Value).ownBlock ∧ some k_ ≠ ((.slice Ao52 t763.length co52) : Value).ownBlock ∧ some k_ ≠ ((.slice Ao53 t766.length co53) : Value).ownBlock ∧ some k_ ≠ ((.slice Ao54 t769.length co54) : Value).ownBlock) v20 x20_4) ∧ Aside0 (Kd.R Kd.string 9 w' w.heap.size (fun _ => True) (.slice Ao10 t733.length co10) t733) ∧ Aside0 (Kd.R (Kd.int .i64) 3 w' w.heap.size (fun k_ => some k_ ≠ (v20 : Value).ownBlock ∧ some k_ ≠ ((.slice Ao19 t746.length co19) : Value).ownBlock ∧ some k_ ≠ ((.slice Ao52 t763.length co52) : Value).ownBlock ∧ some k_ ≠ ((.slice Ao53 t766.length co53) : Value).ownBlock ∧ some k_ ≠ ((.slice Ao54 t769.length co54) : Value).ownBlock) (.slice Ao14 t739.length co14) t739) ∧ Aside0 (Kd.R (Kd.int .i64) 3 w' w.heap.size (fun k_ => some k_ ≠ (v20 : Value).ownBlock ∧ some k_ ≠ ((.slice Ao14 t739.length co14) : Value).ownBlock ∧ some k_ ≠ ((.slice Ao52 t763.length co52) : Value).ownBlock ∧ some k_ ≠ ((.slice Ao53 t766.length co53) : Value).ownBlock ∧ some k_ ≠ ((.slice Ao54 t769.length co54) : Value).ownBlock) (.slice Ao19 t746.length co19) t746) ∧ Aside0 (Kd.S (Kd.slice 3 (Kd.int .i64)) 27 w' w.heap.size (fun k_ => some k_ ≠ (v20 : Value).ownBlock ∧ some k_ ≠ ((.slice Ao14 t739.length co14) : Value).ownBlock ∧ some k_ ≠ ((.slice Ao19 t746.length co19) : Value).ownBlock ∧ some k_ ≠ ((.slice Ao52 t763.length co52) : Value).ownBlock ∧ some k_ ≠ ((.slice Ao53 t766.length co53) : Value).ownBlock ∧ some k_ ≠ ((.slice Ao54 t769.length co54) : Value).ownBlock) (.slice Ao35 t753.length co35) t753) ∧ Aside0 (Kd.R (Kd.int .i64) 3 w' w.heap.size (fun k_ => some k_ ≠ (v20 : Value).ownBlock ∧ some k_ ≠ ((.slice Ao14 t739.length co14) : Value).ownBlock ∧ some k_ ≠ ((.slice Ao19 t746.length co19) : Value).ownBlock ∧ some k_ ≠ ((.slice Ao53 t766.length co53) : Value).ownBlock ∧ some k_ ≠ ((.slice Ao54 t769.length co54) : Value).ownBlock) (.slice Ao52 t763.length co52) t763) ∧ Aside0 (Kd.R (Kd.int .i64) 3 w' w.heap.size (fun k_ => some k_ ≠ (v20 : Value).ownBlock ∧ some k_ ≠ ((.slice Ao14 t739.length co14) : Value).ownBlock ∧ some k_ ≠ ((.slice Ao19 t746.length co19) : Value).ownBlock ∧ some k_ ≠ ((.slice Ao52 t763.length co52) : Value).ownBlock ∧ some k_ ≠ ((.slice Ao54 t769.length co54) : Value).ownBlock) (.slice Ao53 t766.length co53) t766) ∧ Aside0 (Kd.R (Kd.int .i64) 3 w' w.heap.size (fun k_ => some k_ ≠ (v20 : Value).ownBlock ∧ some k_ ≠ ((.slice Ao14 t739.length co14) : Value).ownBlock ∧ some k_ ≠ ((.slice Ao19 t746.length co19) : Value).ownBlock ∧ some k_ ≠ ((.slice Ao52 t763.length co52) : Value).ownBlock ∧ some k_ ≠ ((.slice Ao53 t766.length co53) : Value).ownBlock) (.slice Ao54 t769.length co54) t769) ∧ Aside0 (w'.heap[gb743]? = some (.cells #[.int .i64 t737, .int .i64 t738, (.slice Ao14 t739.length co14)] 29 (0, 0))) ∧ Aside0 (w'.heap[gb750]? = some (.cells #[.int .i64 t744, .int .i64 t745, (.slice Ao19 t746.length co19)] 29 (0, 0))) ∧ Aside0 (w'.heap[gb757]? = some (.cells #[.int .i64 t752, (.slice Ao35 t753.length co35)] 35 (0, 0))) ∧ Aside0 (w'.heap[gb773]? = some (.cells #[.int .i64 t762, (.slice Ao52 t763.length co52), (.slice Ao53 t766.length co53), (.slice Ao54 t769.length co54)] 44 (0, 0))) ∧ Aside0 (Below w.heap.size w w'))
               case atStart => exact ⟨(([] : List Int)), (0), wZ, H', ⟨Nat.le_refl _⟩, ⟨Rz HO_6.out⟩, ⟨nZ⟩, ⟨Rz HO_6.out⟩, ⟨Rz (Kd.R_mono HO_744002.out (fun _ hk => ⟨(by simp [Value.ownBlock]), ⟨hk.1, ⟨hk.2.1, ⟨hk.2.2.1, hk.2.2.2⟩⟩⟩⟩))⟩, ⟨Rz (Kd.R_mono HO_751002.out (fun _ hk => ⟨(by simp [Value.ownBlock]), ⟨hk.1, ⟨hk.2.1, ⟨hk.2.2.1, hk.2.2.2⟩⟩⟩⟩))⟩, ⟨by (with_reducible repeat (first | apply Kd.S_alloc | apply Kd.S_drewN | apply Kd.S_drew)); exact Kd.S_mono HO_758001.out (fun _ hk => ⟨(by simp [Value.ownBlock]), ⟨hk.1, ⟨hk.2.1, ⟨hk.2.2.1, ⟨hk.2.2.2.1, hk.2.2.2.2⟩⟩⟩⟩⟩)⟩, ⟨Rz (Kd.R_mono HO_774001.out (fun _ hk => ⟨(by simp [Value.ownBlock]), ⟨hk.1, ⟨hk.2.1, ⟨hk.2.2.1, hk.2.2.2⟩⟩⟩⟩))⟩, ⟨Rz (Kd.R_mono HO_774002.out (fun _ hk => ⟨(by simp [Value.ownBlock]), ⟨hk.1, ⟨hk.2.1, ⟨hk.2.2.1, hk.2.2.2⟩⟩⟩⟩))⟩, ⟨Rz (Kd.R_mono HO_774003.out (fun _ hk => ⟨(by simp [Value.ownBlock]), ⟨hk.1, ⟨hk.2.1, ⟨hk.2.2.1, hk.2.2.2⟩⟩⟩⟩))⟩, ⟨Kz BK743.out⟩, ⟨Kz BK750.out⟩, ⟨Kz BK757.out⟩, ⟨Kz BK773.out⟩, ⟨Bq⟩⟩
               case round =>
                clear H'
                try clear c1
                try clear c2
                try clear p2
                try clear c3
                try clear c4
                try clear c5
                try clear c6
                try clear c7
                try clear c9
                try clear c10
                try clear c11
                try clear c12
                try clear c17
                try clear c20
                try clear c20b0
                try clear c20b1
                try clear c20b2
                try clear c22
                try clear c26
                try clear c32
                try clear c33
                try clear c37
                try clear c38
                try clear c39
                try clear c43
                try clear c44
                try clear c48
                try clear c49
                try clear c50
                try clear c57
                try clear c58
                try clear c59
                try clear hcz13_0
                try clear hcz13_1
                try clear hcz13_2
                try clear hcz18_0
                try clear hcz18_1
                try clear hcz18_2
                try clear hcz23_0
                try clear hcz23_1
                try clear hcz23_2
                try clear hcz24_0
                try clear hcz24_1
                try clear hcz24_2
                try clear hcz34_0
                try clear hcz34_1
                try clear hcz45_0
                try clear hcz45_1
                try clear hcz45_2
                try clear hcz51_0
                try clear hcz51_1
                try clear hcz51_2
                try clear hcz51_3
                try clear hcz55_0
                try clear hcz55_1
                try clear hcz55_2
                try clear hfz13_0
                try clear hfz13_1
                try clear hfz13_2
                try clear hfz18_0
                try clear hfz18_1
                try clear hfz18_2
                try clear hfz23_0
                try clear hfz23_1
                try clear hfz23_2
                try clear hfz24_0
                try clear hfz24_1
                try clear hfz24_2
                try clear hfz34_0
                try clear hfz34_1
                try clear hfz45_0
                try clear hfz45_1
                try clear hfz45_2
                try clear hfz51_0
                try clear hfz51_1
                try clear hfz51_2
                try clear hfz51_3
                try clear hfz55_0
                try clear hfz55_1
                try clear hfz55_2
                try clear p2
                obtain ⟨x20_4, x108_4, rfl, HA, HK4, HO_6, HO_20, HO_106, HO_744002, HO_751002, HO_758001, HO_774001, HO_774002, HO_774003, BK743, BK750, BK757, BK773, HB⟩ := hrel; cases gk with
                | zero => exact absurd HA.out (by simp [laws_FnPeeledIsPerfect.l0])
                | succ k4 =>
                 have H := HA.out; clear HA
                 simp only [laws_FnPeeledIsPerfect.l0] at H
                 by_cases c60 : x108_4 < (t733.length : Int)
                 ·rw [if_pos c60] at H
                  have c60b0 : decide (x108_4 < (t733.length : Int)) = true := decide_eq_true c60; clear c60
                  by_cases c61 : 0 ≤ x108_4
                  ·rw [if_pos c61] at H
                   have c61b0 : decide (0 ≤ x108_4) = true := decide_eq_true c61; clear c61
                   by_cases c62 : x108_4 < (t733.length : Int)
                   ·rw [if_pos c62] at H
                    have c62b0 : decide (x108_4 < (t733.length : Int)) = true := decide_eq_true c62; clear c62; replace H := Option.bind_eq_some_iff.mp H; obtain ⟨⟨t777, t778⟩, A630, H⟩ := H; (try dsimp -simprocs only at H); have A63 := am A630; clear A630; replace H := Option.bind_eq_some_iff.mp H; obtain ⟨⟨t779, t780⟩, A640, H⟩ := H; (try dsimp -simprocs only at H); have A64 := am A640; clear A640; replace H := Option.bind_eq_some_iff.mp H; obtain ⟨⟨t781, t782⟩, A650, H⟩ := H; (try dsimp -simprocs only at H); have A65 := am A650; clear A650
                    by_cases c66 : t778 = true
                    ·subst c66
                     rw [if_pos rfl] at H
                     by_cases c67 : t780 = true
                     ·subst c67
                      rw [if_pos rfl] at H
                      by_cases c68 : t782 = true
                      ·subst c68
                       rw [if_pos rfl] at H
                       by_cases c69 : t781 = t779
                       ·rw [if_pos c69] at H
                        have c69b0 : (t781 == t779) = true := beq_iff_eq.mpr c69; have c69b1 : (t781 != t779) = false := bne_eq_false_iff_eq.mpr c69; clear c69
                        by_cases c70 : x108_4 < (t753.length : Int)
                        ·rw [if_pos c70] at H
                         have c70b0 : decide (x108_4 < (t753.length : Int)) = true := decide_eq_true c70; clear c70; replace H := Option.bind_eq_some_iff.mp H; obtain ⟨t784, A710, H⟩ := H; (try dsimp -simprocs only at H); have A71 := am A710; clear A710
                         by_cases c72 : t784 = true
                         ·subst c72
                          rw [if_pos rfl] at H
                          by_cases c73 : x20_4.length < 17592186044416
                          ·rw [if_pos c73] at H
                           have LMc73 := am c73; clear c73; obtain ⟨y785, hy785⟩ : ∃ y_ : List Int, y_ = (x20_4 ++ [t779]) := ⟨_, rfl⟩
                           replace H : (laws_FnPeeledIsPerfect.l0 k4 t732 t733 t734 y785 t733 (t733.length : Int) (wrap64 (x108_4 + 1)) t737 t738 t739 t752 t753 t762 t763 t766 t769) = some r := by first | (rw [hy785]; with_reducible exact H) | (have H2_ := (Option.bind_some _ _).symm.trans H; rw [hy785]; with_reducible exact H2_) | (have H2_ := (Option.bind_some _ _).symm.trans H; with_reducible exact H2_) | with_reducible exact H | (rw [hy785]; exact H) | exact H
                           have Ny785 := am hy785; clear hy785; have H' := am H; clear H; obtain ⟨ad776, e776, hx776_0⟩ := Kd.at_string (Kd.R_reads' HO_106.out).2.2 x108_4 dT dT; cases e776; have p776 := eT (0 ≤ (x108_4 : Int)); have q776 := eT (x108_4 < (t733.length : Int)); have hnb74 := NB743_750.out; have hnc74 := NB750_743.out; have hnb75 := NB743_757.out; have hnc75 := NB757_743.out; have hnb76 := NB743_773.out; have hnc76 := NB773_743.out; obtain ⟨hcz77_0, hcz77_1, hcz77_2, hfz77_0, hfz77_1, hfz77_2⟩ := cf3 (w := wr) BK743
                           go_wp2_with (first | ((with_reducible refine gate_callee (f := 13) rfl ?_); refine gL (some 116) Tryz.func13 #[.agg #[.int .i64 t737, .int .i64 t738, .slice Ao14 t739.length co14], .string (rdOf ByteArray.empty t733 x108_4)] ?_; (with_reducible refine (impl_PeeledPlace.calls k4 t737 t738 _ _ t739 (rdOf ByteArray.empty t733 x108_4) t777 true _ ?side1 ?side2 A63.out).mono ?_); (case side1 => exact Cz ((Kd.R_reads' HO_744002.out).2.2)); (case side2 => exact (Kd.R_reads' HO_744002.out).2.1); rintro e w78 ⟨rfl, hb⟩; refine ⟨_, rfl, ?_⟩; have n0_ := Rb HO_6 hb; have n1_ := Rb HO_20 hb; have n2_ := Rb HO_106 hb; have n3_ := Rb HO_744002 hb; have n4_ := Rb HO_751002 hb; have n5_ := am (Kd.S_below (by (with_reducible repeat (first | apply Kd.S_alloc | apply Kd.S_drewN | apply Kd.S_drew)); exact HO_758001.out) hb); have n6_ := Rb HO_774001 hb; have n7_ := Rb HO_774002 hb; have n8_ := Rb HO_774003 hb; have n9_ := Kb BK743 hb; have n10_ := Kb BK750 hb; have n11_ := Kb BK757 hb; have n12_ := Kb BK773 hb; have n13_ := Bc HB hb; clear HO_6 HO_20 HO_106 HO_744002 HO_751002 HO_758001 HO_774001 HO_774002 HO_774003 BK743 BK750 BK757 BK773 HB; revert n0_ n1_ n2_ n3_ n4_ n5_ n6_ n7_ n8_ n9_ n10_ n11_ n12_ n13_; intro HO_6 HO_20 HO_106 HO_744002 HO_751002 HO_758001 HO_774001 HO_774002 HO_774003 BK743 BK750 BK757 BK773 HB; (try clear hb); (try clear hb2); (try clear hk); (try clear hi); obtain ⟨hcz79_0, hcz79_1, hcz79_2, hfz79_0, hfz79_1, hfz79_2⟩ := cf3 (w := w78) BK743) | ((with_reducible refine gate_callee (f := 14) rfl ?_); refine gL (some 122) Tryz.func14 #[.agg #[.int .i64 t737, .int .i64 t738, .slice Ao14 t739.length co14], .string (rdOf ByteArray.empty t733 x108_4)] ?_; (with_reducible refine (impl_PeeledIndex.calls k4 t737 t738 _ _ t739 (rdOf ByteArray.empty t733 x108_4) t779 true _ ?side1 ?side2 A64.out).mono ?_); (case side1 => exact Cz ((Kd.R_reads' HO_744002.out).2.2)); (case side2 => exact (Kd.R_reads' HO_744002.out).2.1); rintro e w80 ⟨rfl, hb⟩; refine ⟨_, rfl, ?_⟩; have n0_ := Rb HO_6 hb; have n1_ := Rb HO_20 hb; have n2_ := Rb HO_106 hb; have n3_ := Rb HO_744002 hb; have n4_ := Rb HO_751002 hb; have n5_ := am (Kd.S_below (by (with_reducible repeat (first | apply Kd.S_alloc | apply Kd.S_drewN | apply Kd.S_drew)); exact HO_758001.out) hb); have n6_ := Rb HO_774001 hb; have n7_ := Rb HO_774002 hb; have n8_ := Rb HO_774003 hb; have n9_ := Kb BK743 hb; have n10_ := Kb BK750 hb; have n11_ := Kb BK757 hb; have n12_ := Kb BK773 hb; have n13_ := Bc HB hb; clear HO_6 HO_20 HO_106 HO_744002 HO_751002 HO_758001 HO_774001 HO_774002 HO_774003 BK743 BK750 BK757 BK773 HB; revert n0_ n1_ n2_ n3_ n4_ n5_ n6_ n7_ n8_ n9_ n10_ n11_ n12_ n13_; intro HO_6 HO_20 HO_106 HO_744002 HO_751002 HO_758001 HO_774001 HO_774002 HO_774003 BK743 BK750 BK757 BK773 HB; (try clear hb); (try clear hb2); (try clear hk); (try clear hi); have hnb81 := NB773_750.out; have hnc81 := NB750_773.out; have hnb82 := NB773_757.out; have hnc82 := NB757_773.out; obtain ⟨hcz83_0, hcz83_1, hcz83_2, hcz83_3, hfz83_0, hfz83_1, hfz83_2, hfz83_3⟩ := cf4 (w := w80) BK773) | ((with_reducible refine gate_callee (f := 15) rfl ?_); refine gL (some 128) Tryz.func15 #[.agg #[.int .i64 t762, .slice Ao52 t763.length co52, .slice Ao53 t766.length co53, .slice Ao54 t769.length co54], .int .i64 t777] ?_; (with_reducible refine (impl_Rank1.calls k4 t762 _ _ t763 _ _ t766 _ _ t769 t777 t781 true _ ?side1 ?side2 ?side3 ?side4 ?side5 ?side6 A65.out).mono ?_); (case side1 => exact Cz ((Kd.R_reads' HO_774001.out).2.2)); (case side2 => exact (Kd.R_reads' HO_774001.out).2.1); (case side3 => exact Cz ((Kd.R_reads' HO_774002.out).2.2)); (case side4 => exact (Kd.R_reads' HO_774002.out).2.1); (case side5 => exact Cz ((Kd.R_reads' HO_774003.out).2.2)); (case side6 => exact (Kd.R_reads' HO_774003.out).2.1); rintro e w84 ⟨rfl, hb⟩; refine ⟨_, rfl, ?_⟩; have n0_ := Rb HO_6 hb; have n1_ := Rb HO_20 hb; have n2_ := Rb HO_106 hb; have n3_ := Rb HO_744002 hb; have n4_ := Rb HO_751002 hb; have n5_ := am (Kd.S_below (by (with_reducible repeat (first | apply Kd.S_alloc | apply Kd.S_drewN | apply Kd.S_drew)); exact HO_758001.out) hb); have n6_ := Rb HO_774001 hb; have n7_ := Rb HO_774002 hb; have n8_ := Rb HO_774003 hb; have n9_ := Kb BK743 hb; have n10_ := Kb BK750 hb; have n11_ := Kb BK757 hb; have n12_ := Kb BK773 hb; have n13_ := Bc HB hb; clear HO_6 HO_20 HO_106 HO_744002 HO_751002 HO_758001 HO_774001 HO_774002 HO_774003 BK743 BK750 BK757 BK773 HB; revert n0_ n1_ n2_ n3_ n4_ n5_ n6_ n7_ n8_ n9_ n10_ n11_ n12_ n13_; intro HO_6 HO_20 HO_106 HO_744002 HO_751002 HO_758001 HO_774001 HO_774002 HO_774003 BK743 BK750 BK757 BK773 HB; (try clear hb); (try clear hb2); (try clear hk); (try clear hi); have hnb85 := NB757_750.out; have hnc85 := NB750_757.out; obtain ⟨hcz86_0, hcz86_1, hfz86_0, hfz86_1⟩ := cf2 (w := w84) BK757; have p783 : 0 ≤ (x108_4 : Int) := dT; have q783 : x108_4 < (t753.length : Int) := dT; obtain ⟨ad783, A783_0, c783_0, e783, hx783_0, hl783_0, hi783_0⟩ := at_L3 (Kd.S_reads' HO_758001.out).2.2 x108_4 p783 q783; cases e783; obtain ⟨ce783, hce783, hMe783, hcc783⟩ := Kd.S_get HO_758001.out [] x108_4 p783 (by first | exact q783 | exact dT | (have e_ := (Kd.S_reads' HO_758001.out).1; omega)); obtain ⟨ve783_0, rfl, ge783_0⟩ := hMe783; have hv783_0 := hcc783 0 _ rfl; rw [Nat.add_zero, show ((Kd.slice 3 (Kd.int .i64))).sz = 1 from rfl, Nat.mul_one] at hv783_0; replace hv783_0 := Option.some.inj (hv783_0.symm.trans hx783_0); rw [hv783_0] at ge783_0; have HL783_0 := am (show Kd.R (Kd.int .i64) 3 _ _ _ _ (rd_L3 t753 x108_4) from ge783_0); clear hv783_0 ge783_0; clear hcc783 hce783; have HR783_0 := am hi783_0; have HC783_0 := am hl783_0; clear hi783_0 hl783_0; replace p783 := eq_true p783; replace q783 := eq_true q783) | (go_at_call 16; (with_reducible refine (laws_pHas.calls k4 _ _ (rd_L3 t753 x108_4) t777 true _ ?side1 ?side2 A71.out).mono ?_); (case side1 => repeat (first | exact (by repeat (first | (with_reducible exact HR783_0.out) | (with_reducible refine Kd.C_alloc ?_ _) | (with_reducible refine Kd.C_drewN ?_ _) | (with_reducible refine Kd.C_drew ?_) | exact HR783_0.out)) | (with_reducible refine Kd.C_alloc ?_ _) | (with_reducible refine Kd.C_drewN ?_ _) | (with_reducible refine Kd.C_drew ?_))); (case side2 => exact HC783_0.out); rintro e w' ⟨rfl, ⟨nd, rfl⟩⟩) | ((with_reducible refine gate_builtin (b := .append) (xs := #[.tmp 156, .tmp 158]) rfl ?_); (try (refine gate_guard (by rfl) ?_; dsimp only)); at_builtin; refine Kd.R_append (Kd.int .i64) (w0 := w) w.heap.size rfl (.tmp 156) (.tmp 158) 27 3 (.int .i64 0) 8 rfl Tryz.underlying27 info3 rfl (by decide) (by omega) u20 x20_4 t779 [.int .i64 t779] (fun k_ => some k_ ≠ (.slice Ao14 t739.length co14 : Value).ownBlock ∧ some k_ ≠ (.slice Ao19 t746.length co19 : Value).ownBlock ∧ some k_ ≠ (.slice Ao52 t763.length co52 : Value).ownBlock ∧ some k_ ≠ (.slice Ao53 t766.length co53 : Value).ownBlock ∧ some k_ ≠ (.slice Ao54 t769.length co54 : Value).ownBlock) (fun _ => False) rfl rfl ?aP (fun _ hk => hk.elim) ?aF ?aO ?aB ?aS ?aL ?_; (case aP => exact rfl); (case aB => exact (Bq)); (case aF => exact (fun k_ hk => ⟨Kd.fresh' (Kd.R_lt (Rz HO_744002.out)) k_ hk, Kd.fresh' (Kd.R_lt (Rz HO_751002.out)) k_ hk, Kd.fresh' (Kd.R_lt (Rz HO_774001.out)) k_ hk, Kd.fresh' (Kd.R_lt (Rz HO_774002.out)) k_ hk, Kd.fresh' (Kd.R_lt (Rz HO_774003.out)) k_ hk⟩)); (case aO => exact (Rz HO_20.out)); (case aS => exact (below_size (w := w) (Bq))); (case aL => have := LMc73.out; omega); intro v786 w87 ho hb hg hat; rw [← Ny785.out] at ho; have n0_ := am (Kd.R_over' (Rz HO_6.out) (Kd.R_typed (Rz HO_20.out)) (by decide) hg); have n1_ := am (Kd.R_over' (Rz HO_106.out) (Kd.R_typed (Rz HO_20.out)) (by decide) hg); have n2_ := am (Kd.R_after (ok := (fun k_ => some k_ ≠ (.slice Ao19 t746.length co19 : Value).ownBlock ∧ some k_ ≠ (.slice Ao52 t763.length co52 : Value).ownBlock ∧ some k_ ≠ (.slice Ao53 t766.length co53 : Value).ownBlock ∧ some k_ ≠ (.slice Ao54 t769.length co54 : Value).ownBlock)) (Rz (Kd.R_mono HO_744002.out (fun _ hk => ⟨⟨hk.2.1, ⟨hk.2.2.1, ⟨hk.2.2.2.1, hk.2.2.2.2⟩⟩⟩, hk.1⟩))) hg hat); have n3_ := am (Kd.R_after (ok := (fun k_ => some k_ ≠ (.slice Ao14 t739.length co14 : Value).ownBlock ∧ some k_ ≠ (.slice Ao52 t763.length co52 : Value).ownBlock ∧ some k_ ≠ (.slice Ao53 t766.length co53 : Value).ownBlock ∧ some k_ ≠ (.slice Ao54 t769.length co54 : Value).ownBlock)) (Rz (Kd.R_mono HO_751002.out (fun _ hk => ⟨⟨hk.2.1, ⟨hk.2.2.1, ⟨hk.2.2.2.1, hk.2.2.2.2⟩⟩⟩, hk.1⟩))) hg hat); have n4_ := am (Kd.S_after (ok := (fun k_ => some k_ ≠ (.slice Ao14 t739.length co14 : Value).ownBlock ∧ some k_ ≠ (.slice Ao19 t746.length co19 : Value).ownBlock ∧ some k_ ≠ (.slice Ao52 t763.length co52 : Value).ownBlock ∧ some k_ ≠ (.slice Ao53 t766.length co53 : Value).ownBlock ∧ some k_ ≠ (.slice Ao54 t769.length co54 : Value).ownBlock)) (by (with_reducible repeat (first | apply Kd.S_alloc | apply Kd.S_drewN | apply Kd.S_drew)); exact Kd.S_mono HO_758001.out (fun _ hk => ⟨⟨hk.2.1, ⟨hk.2.2.1, ⟨hk.2.2.2.1, ⟨hk.2.2.2.2.1, hk.2.2.2.2.2⟩⟩⟩⟩, hk.1⟩)) hg hat); have n5_ := am (Kd.R_after (ok := (fun k_ => some k_ ≠ (.slice Ao14 t739.length co14 : Value).ownBlock ∧ some k_ ≠ (.slice Ao19 t746.length co19 : Value).ownBlock ∧ some k_ ≠ (.slice Ao53 t766.length co53 : Value).ownBlock ∧ some k_ ≠ (.slice Ao54 t769.length co54 : Value).ownBlock)) (Rz (Kd.R_mono HO_774001.out (fun _ hk => ⟨⟨hk.2.1, ⟨hk.2.2.1, ⟨hk.2.2.2.1, hk.2.2.2.2⟩⟩⟩, hk.1⟩))) hg hat); have n6_ := am (Kd.R_after (ok := (fun k_ => some k_ ≠ (.slice Ao14 t739.length co14 : Value).ownBlock ∧ some k_ ≠ (.slice Ao19 t746.length co19 : Value).ownBlock ∧ some k_ ≠ (.slice Ao52 t763.length co52 : Value).ownBlock ∧ some k_ ≠ (.slice Ao54 t769.length co54 : Value).ownBlock)) (Rz (Kd.R_mono HO_774002.out (fun _ hk => ⟨⟨hk.2.1, ⟨hk.2.2.1, ⟨hk.2.2.2.1, hk.2.2.2.2⟩⟩⟩, hk.1⟩))) hg hat); have n7_ := am (Kd.R_after (ok := (fun k_ => some k_ ≠ (.slice Ao14 t739.length co14 : Value).ownBlock ∧ some k_ ≠ (.slice Ao19 t746.length co19 : Value).ownBlock ∧ some k_ ≠ (.slice Ao52 t763.length co52 : Value).ownBlock ∧ some k_ ≠ (.slice Ao53 t766.length co53 : Value).ownBlock)) (Rz (Kd.R_mono HO_774003.out (fun _ hk => ⟨⟨hk.2.1, ⟨hk.2.2.1, ⟨hk.2.2.2.1, hk.2.2.2.2⟩⟩⟩, hk.1⟩))) hg hat); have n8_ := am (blk_grown (g := gb743) (o := .cells #[.int .i64 t737, .int .i64 t738, .slice Ao14 t739.length co14] 29 (0, 0)) (Kz BK743.out) hg (Kd.R_ne HO_20.out BK743.out (by decide))); have n9_ := am (blk_grown (g := gb750) (o := .cells #[.int .i64 t744, .int .i64 t745, .slice Ao19 t746.length co19] 29 (0, 0)) (Kz BK750.out) hg (Kd.R_ne HO_20.out BK750.out (by decide))); have n10_ := am (blk_grown (g := gb757) (o := .cells #[.int .i64 t752, .slice (some ad783) t753.length co35] 35 (0, 0)) (Kz BK757.out) hg (Kd.R_ne HO_20.out BK757.out (by decide))); have n11_ := am (blk_grown (g := gb773) (o := .cells #[.int .i64 t762, .slice Ao52 t763.length co52, .slice Ao53 t766.length co53, .slice Ao54 t769.length co54] 44 (0, 0)) (Kz BK773.out) hg (Kd.R_ne HO_20.out BK773.out (by decide))); have n12_ := am (Kd.R_after (ok := (fun k_ => some k_ ≠ (.slice Ao14 t739.length co14 : Value).ownBlock ∧ some k_ ≠ (.slice Ao19 t746.length co19 : Value).ownBlock ∧ some k_ ≠ (.slice (some ad783) t753.length co35 : Value).ownBlock ∧ some k_ ≠ (.slice Ao52 t763.length co52 : Value).ownBlock ∧ some k_ ≠ (.slice Ao53 t766.length co53 : Value).ownBlock ∧ some k_ ≠ (.slice Ao54 t769.length co54 : Value).ownBlock)) (Rz (Kd.R_mono HL783_0.out (fun _ hk => ⟨⟨hk.1.2.1, ⟨hk.1.2.2.1, ⟨hk.2, ⟨hk.1.2.2.2.1, ⟨hk.1.2.2.2.2.1, hk.1.2.2.2.2.2⟩⟩⟩⟩⟩, hk.1.1⟩))) hg hat); have n13_ := am (hb); have n14_ := am (ho); clear HO_6 HO_106 HO_744002 HO_751002 HO_758001 HO_774001 HO_774002 HO_774003 BK743 BK750 BK757 BK773 HL783_0 HB HO_20; revert n0_ n1_ n2_ n3_ n4_ n5_ n6_ n7_ n8_ n9_ n10_ n11_ n12_ n13_ n14_; intro HO_6 HO_106 HO_744002 HO_751002 HO_758001 HO_774001 HO_774002 HO_774003 BK743 BK750 BK757 BK773 HL783_0 HB HO787; clear ho hb hg hat))
                           go_roundg k4
                           case measure => have := HJ7.out; have := HJ28.out; have := HJ41.out; have := HK4.out; omega
                           case rel => exact ⟨(y785), (wrap64 (x108_4 + 1)), wZ, H', ⟨by have := HJ7.out; have := HJ28.out; have := HJ41.out; have := HK4.out; omega⟩, ⟨Rz HO_6.out⟩, ⟨Rz HO787.out⟩, ⟨Rz HO_106.out⟩, ⟨Rz (Kd.R_mono HO_744002.out (fun _ hk => ⟨hk.2, ⟨hk.1.1, ⟨hk.1.2.1, ⟨hk.1.2.2.1, hk.1.2.2.2⟩⟩⟩⟩))⟩, ⟨Rz (Kd.R_mono HO_751002.out (fun _ hk => ⟨hk.2, ⟨hk.1.1, ⟨hk.1.2.1, ⟨hk.1.2.2.1, hk.1.2.2.2⟩⟩⟩⟩))⟩, ⟨by (with_reducible repeat (first | apply Kd.S_alloc | apply Kd.S_drewN | apply Kd.S_drew)); exact Kd.S_mono HO_758001.out (fun _ hk => ⟨hk.2, ⟨hk.1.1, ⟨hk.1.2.1, ⟨hk.1.2.2.1, ⟨hk.1.2.2.2.1, hk.1.2.2.2.2⟩⟩⟩⟩⟩)⟩, ⟨Rz (Kd.R_mono HO_774001.out (fun _ hk => ⟨hk.2, ⟨hk.1.1, ⟨hk.1.2.1, ⟨hk.1.2.2.1, hk.1.2.2.2⟩⟩⟩⟩))⟩, ⟨Rz (Kd.R_mono HO_774002.out (fun _ hk => ⟨hk.2, ⟨hk.1.1, ⟨hk.1.2.1, ⟨hk.1.2.2.1, hk.1.2.2.2⟩⟩⟩⟩))⟩, ⟨Rz (Kd.R_mono HO_774003.out (fun _ hk => ⟨hk.2, ⟨hk.1.1, ⟨hk.1.2.1, ⟨hk.1.2.2.1, hk.1.2.2.2⟩⟩⟩⟩))⟩, ⟨Kz BK743.out⟩, ⟨Kz BK750.out⟩, ⟨Kz BK757.out⟩, ⟨Kz BK773.out⟩, ⟨Bq⟩⟩
                          ·rw [if_neg c73] at H
                           exact absurd H (by simp)
                         ·replace c72 := Bool.eq_false_iff.mpr c72
                          subst c72
                          rw [if_neg (show ¬ (false = true) by decide)] at H; exact absurd (Option.some.inj H) (by rw [HQT_.out]; decide)
                        ·rw [if_neg c70] at H
                         exact absurd H (by simp)
                       ·rw [if_neg c69] at H
                        have c69b0 : (t781 == t779) = false := beq_eq_false_iff_ne.mpr c69; have c69b1 : (t781 != t779) = true := bne_iff_ne.mpr c69; exact absurd (Option.some.inj H) (by rw [HQT_.out]; decide)
                      ·replace c68 := Bool.eq_false_iff.mpr c68
                       subst c68
                       rw [if_neg (show ¬ (false = true) by decide)] at H; exact absurd (Option.some.inj H) (by rw [HQT_.out]; decide)
                     ·replace c67 := Bool.eq_false_iff.mpr c67
                      subst c67
                      rw [if_neg (show ¬ (false = true) by decide)] at H; exact absurd (Option.some.inj H) (by rw [HQT_.out]; decide)
                    ·replace c66 := Bool.eq_false_iff.mpr c66
                     subst c66
                     rw [if_neg (show ¬ (false = true) by decide)] at H; exact absurd (Option.some.inj H) (by rw [HQT_.out]; decide)
                   ·rw [if_neg c62] at H
                    exact absurd H (by simp)
                  ·rw [if_neg c61] at H
                   exact absurd H (by simp)
                 ·rw [if_neg c60] at H
                  have c60b0 : decide (x108_4 < (t733.length : Int)) = false := decide_eq_false c60; clear c60; replace H := Option.bind_eq_some_iff.mp H; obtain ⟨⟨t788, t789, t792⟩, A880, H⟩ := H; (try dsimp -simprocs only at H); have A88 := am A880; clear A880; replace H := Option.bind_eq_some_iff.mp H; obtain ⟨⟨t794, t795, t796, t799⟩, A890, H⟩ := H; (try dsimp -simprocs only at H); have A89 := am A890; clear A890
                  by_cases c90 : t792 = true
                  ·subst c90
                   rw [if_pos rfl] at H
                   by_cases c91 : t799 = true
                   ·subst c91
                    rw [if_pos rfl] at H; replace H := Option.bind_eq_some_iff.mp H; obtain ⟨t801, A920, H⟩ := H; (try dsimp -simprocs only at H); have A92 := am A920; clear A920
                    by_cases c93 : t801 = true
                    ·subst c93
                     rw [if_pos rfl] at H; replace H := Option.bind_eq_some_iff.mp H; obtain ⟨t802, A940, H⟩ := H; (try dsimp -simprocs only at H); have A94 := am A940; clear A940; obtain rfl := Option.some.inj H; have hnb95 := NB743_750.out; have hnc95 := NB750_743.out; have hnb96 := NB743_757.out; have hnc96 := NB757_743.out; have hnb97 := NB743_773.out; have hnc97 := NB773_743.out; obtain ⟨hcz98_0, hcz98_1, hcz98_2, hfz98_0, hfz98_1, hfz98_2⟩ := cf3 (w := wr) BK743
                     go_wp2_with (first | ((with_reducible refine gate_callee (f := 17) rfl ?_); refine gL (some 163) Tryz.func17 #[.agg #[.int .i64 t737, .int .i64 t738, .slice Ao14 t739.length co14]] ?_; (with_reducible refine (impl_PackMarks.calls k4 t737 t738 _ _ t739 t788 t789 true _ ?side1 ?side2 A88.out).mono ?_); (case side1 => exact Cz ((Kd.R_reads' HO_744002.out).2.2)); (case side2 => exact (Kd.R_reads' HO_744002.out).2.1); rintro e w99 ⟨v790, rfl, ho0, hb⟩; refine ⟨_, rfl, ?_⟩; have n0_ := Rb HO_6 hb; have n1_ := Re HO_20 (Kd.R_base ho0) hb; have n2_ := Rb HO_106 hb; have n3_ := Re HO_744002 (Kd.R_base ho0) hb; have n4_ := Re HO_751002 (Kd.R_base ho0) hb; have n5_ := am (Kd.S_elder' (by (with_reducible repeat (first | apply Kd.S_alloc | apply Kd.S_drewN | apply Kd.S_drew)); exact HO_758001.out) (Kd.R_base ho0) hb); have n6_ := Re HO_774001 (Kd.R_base ho0) hb; have n7_ := Re HO_774002 (Kd.R_base ho0) hb; have n8_ := Re HO_774003 (Kd.R_base ho0) hb; have n9_ := am (Kd.R_lower (Kd.R_new' (Kd.R_new' (Kd.R_new' (Kd.R_new' (Kd.R_new' (Kd.R_new' ho0 (Kd.R_lt (Rz HO_20.out))) (Kd.R_lt (Rz HO_744002.out))) (Kd.R_lt (Rz HO_751002.out))) (Kd.R_lt (Rz HO_774001.out))) (Kd.R_lt (Rz HO_774002.out))) (Kd.R_lt (Rz HO_774003.out))) (below_size (w := w) (Bq))); have n10_ := Kb BK743 hb; have n11_ := Kb BK750 hb; have n12_ := Kb BK757 hb; have n13_ := Kb BK773 hb; have n14_ := Bc HB hb; clear HO_6 HO_20 HO_106 HO_744002 HO_751002 HO_758001 HO_774001 HO_774002 HO_774003 BK743 BK750 BK757 BK773 HB; revert n0_ n1_ n2_ n3_ n4_ n5_ n6_ n7_ n8_ n9_ n10_ n11_ n12_ n13_ n14_; intro HO_6 HO_20 HO_106 HO_744002 HO_751002 HO_758001 HO_774001 HO_774002 HO_774003 HO791 BK743 BK750 BK757 BK773 HB; (try clear hb); (try clear hb2); (try clear hk); (try clear hi); (try clear ho0)) | ((with_reducible refine gate_dst (N := 29) rfl ?_); (try (refine gate_guard (by rfl) ?_; dsimp only)); refine bE 29 #[.int .i64 0, .slice none 0 0] 42 ?_; intro gb793 hg w100 hbox hb; have n0_ := Rb HO_6 hb; have n1_ := Rb HO_20 hb; have n2_ := Rb HO_106 hb; have n3_ := Rb HO_744002 hb; have n4_ := Rb HO_751002 hb; have n5_ := am (Kd.S_below (by (with_reducible repeat (first | apply Kd.S_alloc | apply Kd.S_drewN | apply Kd.S_drew)); exact HO_758001.out) hb); have n6_ := Rb HO_774001 hb; have n7_ := Rb HO_774002 hb; have n8_ := Rb HO_774003 hb; have n9_ := Rb HO791 hb; have n10_ := Kb BK743 hb; have n11_ := Kb BK750 hb; have n12_ := Kb BK757 hb; have n13_ := Kb BK773 hb; have n14_ := Bc HB hb; have n15_ := am (hbox); have n16_ := Gm HB hg; have n17_ := Gm HB hg; have n18_ := Nl BK743 hg; have n19_ := Ng BK743 hg; have n20_ := Nl BK750 hg; have n21_ := Ng BK750 hg; have n22_ := Nl BK757 hg; have n23_ := Ng BK757 hg; have n24_ := Nl BK773 hg; have n25_ := Ng BK773 hg; clear HO_6 HO_20 HO_106 HO_744002 HO_751002 HO_758001 HO_774001 HO_774002 HO_774003 HO791 BK743 BK750 BK757 BK773 HB; revert n0_ n1_ n2_ n3_ n4_ n5_ n6_ n7_ n8_ n9_ n10_ n11_ n12_ n13_ n14_ n15_ n16_ n17_ n18_ n19_ n20_ n21_ n22_ n23_ n24_ n25_; intro HO_6 HO_20 HO_106 HO_744002 HO_751002 HO_758001 HO_774001 HO_774002 HO_774003 HO791 BK743 BK750 BK757 BK773 HB BK793 GW793 GE793 NB743_793 NB793_743 NB750_793 NB793_750 NB757_793 NB793_757 NB773_793 NB793_773; clear hb hbox hg; have hnb101 := NB793_743.out; have hnc101 := NB743_793.out; have hnb102 := NB793_750.out; have hnc102 := NB750_793.out; have hnb103 := NB793_757.out; have hnc103 := NB757_793.out; have hnb104 := NB793_773.out; have hnc104 := NB773_793.out; obtain ⟨hcz105_0, hcz105_1, hfz105_0, hfz105_1⟩ := cf2 (w := w100) BK793; obtain ⟨Ao106, co106, eo106⟩ := Kd.R_slice HO791.out; subst eo106) | ((with_reducible refine gate_callee (f := 18) rfl ?_); refine gL (some 170) Tryz.func18 #[.int .i64 t732, .int .i64 t734, .agg #[.int .i64 t788, .slice Ao106 t789.length co106]] ?_; (with_reducible refine (impl_UnpackMarks.calls k4 t732 t734 t788 _ _ t789 t794 t795 t796 true _ ?side1 ?side2 A89.out).mono ?_); (case side1 => refine (Kd.R_reads' (e := 3) (base := w.heap.size) (ok := fun k_ => ((((((True ∧ some k_ ≠ (u20 : Value).ownBlock) ∧ some k_ ≠ (.slice Ao14 t739.length co14 : Value).ownBlock) ∧ some k_ ≠ (.slice Ao19 t746.length co19 : Value).ownBlock) ∧ some k_ ≠ (.slice Ao52 t763.length co52 : Value).ownBlock) ∧ some k_ ≠ (.slice Ao53 t766.length co53 : Value).ownBlock) ∧ some k_ ≠ (.slice Ao54 t769.length co54 : Value).ownBlock)) (n := t789.length) (c := co106) ?_).2.2; exact (Rz (Kd.R_mono (Kd.R_far (p := ⟨gb793, 1, none⟩) (Kd.R_far (p := ⟨gb793, 0, none⟩) (Kd.R_types HO791.out BK793.out (by decide)) (fun _ hk => hk.2) (.int .i64 t788)) (fun _ hk => hk.2) (.slice Ao106 t789.length co106)) (fun _ h_ => h_.1)))); (case side2 => exact (Kd.R_reads' HO791.out).2.1); rintro e w107 ⟨v797, rfl, ho0, hb⟩; refine ⟨_, rfl, ?_⟩; have n0_ := am (Kd.R_below (Rz (Kd.R_mono (Kd.R_far (p := ⟨gb793, 1, none⟩) (Kd.R_far (p := ⟨gb793, 0, none⟩) (Kd.R_types HO_6.out BK793.out (by decide)) (fun _ hk => hk.2) (.int .i64 t788)) (fun _ hk => hk.2) (.slice Ao106 t789.length co106)) (fun _ h_ => h_.1))) hb); have n1_ := am (Kd.R_elder' (Rz (Kd.R_mono (Kd.R_far (p := ⟨gb793, 1, none⟩) (Kd.R_far (p := ⟨gb793, 0, none⟩) (Kd.R_types HO_20.out BK793.out (by decide)) (fun _ hk => hk.2) (.int .i64 t788)) (fun _ hk => hk.2) (.slice Ao106 t789.length co106)) (fun _ h_ => h_.1))) (Kd.R_base ho0) hb); have n2_ := am (Kd.R_below (Rz (Kd.R_mono (Kd.R_far (p := ⟨gb793, 1, none⟩) (Kd.R_far (p := ⟨gb793, 0, none⟩) (Kd.R_types HO_106.out BK793.out (by decide)) (fun _ hk => hk.2) (.int .i64 t788)) (fun _ hk => hk.2) (.slice Ao106 t789.length co106)) (fun _ h_ => h_.1))) hb); have n3_ := am (Kd.R_elder' (Rz (Kd.R_mono (Kd.R_far (p := ⟨gb793, 1, none⟩) (Kd.R_far (p := ⟨gb793, 0, none⟩) (Kd.R_types HO_744002.out BK793.out (by decide)) (fun _ hk => hk.2) (.int .i64 t788)) (fun _ hk => hk.2) (.slice Ao106 t789.length co106)) (fun _ h_ => h_.1))) (Kd.R_base ho0) hb); have n4_ := am (Kd.R_elder' (Rz (Kd.R_mono (Kd.R_far (p := ⟨gb793, 1, none⟩) (Kd.R_far (p := ⟨gb793, 0, none⟩) (Kd.R_types HO_751002.out BK793.out (by decide)) (fun _ hk => hk.2) (.int .i64 t788)) (fun _ hk => hk.2) (.slice Ao106 t789.length co106)) (fun _ h_ => h_.1))) (Kd.R_base ho0) hb); have n5_ := am (Kd.S_elder' (by (with_reducible repeat (first | apply Kd.S_alloc | apply Kd.S_drewN | apply Kd.S_drew)); exact (Kd.S_mono (Kd.S_far (p := ⟨gb793, 1, none⟩) (Kd.S_far (p := ⟨gb793, 0, none⟩) (Kd.S_types HO_758001.out BK793.out (by decide)) (fun _ hk => hk.2) (.int .i64 t788)) (fun _ hk => hk.2) (.slice Ao106 t789.length co106)) (fun _ h_ => h_.1))) (Kd.R_base ho0) hb); have n6_ := am (Kd.R_elder' (Rz (Kd.R_mono (Kd.R_far (p := ⟨gb793, 1, none⟩) (Kd.R_far (p := ⟨gb793, 0, none⟩) (Kd.R_types HO_774001.out BK793.out (by decide)) (fun _ hk => hk.2) (.int .i64 t788)) (fun _ hk => hk.2) (.slice Ao106 t789.length co106)) (fun _ h_ => h_.1))) (Kd.R_base ho0) hb); have n7_ := am (Kd.R_elder' (Rz (Kd.R_mono (Kd.R_far (p := ⟨gb793, 1, none⟩) (Kd.R_far (p := ⟨gb793, 0, none⟩) (Kd.R_types HO_774002.out BK793.out (by decide)) (fun _ hk => hk.2) (.int .i64 t788)) (fun _ hk => hk.2) (.slice Ao106 t789.length co106)) (fun _ h_ => h_.1))) (Kd.R_base ho0) hb); have n8_ := am (Kd.R_elder' (Rz (Kd.R_mono (Kd.R_far (p := ⟨gb793, 1, none⟩) (Kd.R_far (p := ⟨gb793, 0, none⟩) (Kd.R_types HO_774003.out BK793.out (by decide)) (fun _ hk => hk.2) (.int .i64 t788)) (fun _ hk => hk.2) (.slice Ao106 t789.length co106)) (fun _ h_ => h_.1))) (Kd.R_base ho0) hb); have n9_ := am (Kd.R_elder' (Rz (Kd.R_mono (Kd.R_far (p := ⟨gb793, 1, none⟩) (Kd.R_far (p := ⟨gb793, 0, none⟩) (Kd.R_types HO791.out BK793.out (by decide)) (fun _ hk => hk.2) (.int .i64 t788)) (fun _ hk => hk.2) (.slice Ao106 t789.length co106)) (fun _ h_ => h_.1))) (Kd.R_base ho0) hb); have n10_ := am (Kd.R_lower (Kd.R_new' (Kd.R_new' (Kd.R_new' (Kd.R_new' (Kd.R_new' (Kd.R_new' (Kd.R_new' ho0 (Kd.R_lt (Rz (Kd.R_mono (Kd.R_far (p := ⟨gb793, 1, none⟩) (Kd.R_far (p := ⟨gb793, 0, none⟩) (Kd.R_types HO_20.out BK793.out (by decide)) (fun _ hk => hk.2) (.int .i64 t788)) (fun _ hk => hk.2) (.slice Ao106 t789.length co106)) (fun _ h_ => h_.1))))) (Kd.R_lt (Rz (Kd.R_mono (Kd.R_far (p := ⟨gb793, 1, none⟩) (Kd.R_far (p := ⟨gb793, 0, none⟩) (Kd.R_types HO_744002.out BK793.out (by decide)) (fun _ hk => hk.2) (.int .i64 t788)) (fun _ hk => hk.2) (.slice Ao106 t789.length co106)) (fun _ h_ => h_.1))))) (Kd.R_lt (Rz (Kd.R_mono (Kd.R_far (p := ⟨gb793, 1, none⟩) (Kd.R_far (p := ⟨gb793, 0, none⟩) (Kd.R_types HO_751002.out BK793.out (by decide)) (fun _ hk => hk.2) (.int .i64 t788)) (fun _ hk => hk.2) (.slice Ao106 t789.length co106)) (fun _ h_ => h_.1))))) (Kd.R_lt (Rz (Kd.R_mono (Kd.R_far (p := ⟨gb793, 1, none⟩) (Kd.R_far (p := ⟨gb793, 0, none⟩) (Kd.R_types HO_774001.out BK793.out (by decide)) (fun _ hk => hk.2) (.int .i64 t788)) (fun _ hk => hk.2) (.slice Ao106 t789.length co106)) (fun _ h_ => h_.1))))) (Kd.R_lt (Rz (Kd.R_mono (Kd.R_far (p := ⟨gb793, 1, none⟩) (Kd.R_far (p := ⟨gb793, 0, none⟩) (Kd.R_types HO_774002.out BK793.out (by decide)) (fun _ hk => hk.2) (.int .i64 t788)) (fun _ hk => hk.2) (.slice Ao106 t789.length co106)) (fun _ h_ => h_.1))))) (Kd.R_lt (Rz (Kd.R_mono (Kd.R_far (p := ⟨gb793, 1, none⟩) (Kd.R_far (p := ⟨gb793, 0, none⟩) (Kd.R_types HO_774003.out BK793.out (by decide)) (fun _ hk => hk.2) (.int .i64 t788)) (fun _ hk => hk.2) (.slice Ao106 t789.length co106)) (fun _ h_ => h_.1))))) (Kd.R_lt (Rz (Kd.R_mono (Kd.R_far (p := ⟨gb793, 1, none⟩) (Kd.R_far (p := ⟨gb793, 0, none⟩) (Kd.R_types HO791.out BK793.out (by decide)) (fun _ hk => hk.2) (.int .i64 t788)) (fun _ hk => hk.2) (.slice Ao106 t789.length co106)) (fun _ h_ => h_.1))))) (below_size (w := w) (Bq))); have n11_ := am (blk_below (g := gb743) (o := .cells #[.int .i64 t737, .int .i64 t738, .slice Ao14 t739.length co14] 29 (0, 0)) (by (with_reducible repeat (first | refine blk_drewN ?_ _ | refine blk_drew ?_ | refine blk_alloc ?_ _)); refine blk_far ?_ NB743_793.out _; (with_reducible repeat (first | refine blk_drewN ?_ _ | refine blk_drew ?_ | refine blk_alloc ?_ _)); refine blk_far ?_ NB743_793.out _; exact Kz BK743.out) hb); have n12_ := am (blk_below (g := gb750) (o := .cells #[.int .i64 t744, .int .i64 t745, .slice Ao19 t746.length co19] 29 (0, 0)) (by (with_reducible repeat (first | refine blk_drewN ?_ _ | refine blk_drew ?_ | refine blk_alloc ?_ _)); refine blk_far ?_ NB750_793.out _; (with_reducible repeat (first | refine blk_drewN ?_ _ | refine blk_drew ?_ | refine blk_alloc ?_ _)); refine blk_far ?_ NB750_793.out _; exact Kz BK750.out) hb); have n13_ := am (blk_below (g := gb757) (o := .cells #[.int .i64 t752, .slice Ao35 t753.length co35] 35 (0, 0)) (by (with_reducible repeat (first | refine blk_drewN ?_ _ | refine blk_drew ?_ | refine blk_alloc ?_ _)); refine blk_far ?_ NB757_793.out _; (with_reducible repeat (first | refine blk_drewN ?_ _ | refine blk_drew ?_ | refine blk_alloc ?_ _)); refine blk_far ?_ NB757_793.out _; exact Kz BK757.out) hb); have n14_ := am (blk_below (g := gb773) (o := .cells #[.int .i64 t762, .slice Ao52 t763.length co52, .slice Ao53 t766.length co53, .slice Ao54 t769.length co54] 44 (0, 0)) (by (with_reducible repeat (first | refine blk_drewN ?_ _ | refine blk_drew ?_ | refine blk_alloc ?_ _)); refine blk_far ?_ NB773_793.out _; (with_reducible repeat (first | refine blk_drewN ?_ _ | refine blk_drew ?_ | refine blk_alloc ?_ _)); refine blk_far ?_ NB773_793.out _; exact Kz BK773.out) hb); have n15_ := am (blk_below (g := gb793) (o := .cells #[.int .i64 t788, .slice Ao106 t789.length co106] 42 (0, 0)) (by (with_reducible repeat (first | refine blk_drewN ?_ _ | refine blk_drew ?_ | refine blk_alloc ?_ _)); refine blk_put (cs := #[.int .i64 t788, .slice none 0 0]) ?_ 1 _ rfl; (with_reducible repeat (first | refine blk_drewN ?_ _ | refine blk_drew ?_ | refine blk_alloc ?_ _)); refine blk_put (cs := #[.int .i64 0, .slice none 0 0]) ?_ 0 _ rfl; exact Kz BK793.out) hb); have n16_ := Bc HB hb; clear HO_6 HO_20 HO_106 HO_744002 HO_751002 HO_758001 HO_774001 HO_774002 HO_774003 HO791 BK743 BK750 BK757 BK773 BK793 HB; revert n0_ n1_ n2_ n3_ n4_ n5_ n6_ n7_ n8_ n9_ n10_ n11_ n12_ n13_ n14_ n15_ n16_; intro HO_6 HO_20 HO_106 HO_744002 HO_751002 HO_758001 HO_774001 HO_774002 HO_774003 HO791 HO798 BK743 BK750 BK757 BK773 BK793 HB; (try clear hb); (try clear hb2); (try clear hk); (try clear hi); (try clear ho0)) | ((with_reducible refine gate_dst (N := 31) rfl ?_); (try (refine gate_guard (by rfl) ?_; dsimp only)); refine bE 31 #[.int .i64 0, .int .i64 0, .slice none 0 0] 29 ?_; intro gb800 hg w108 hbox hb; have n0_ := Rb HO_6 hb; have n1_ := Rb HO_20 hb; have n2_ := Rb HO_106 hb; have n3_ := Rb HO_744002 hb; have n4_ := Rb HO_751002 hb; have n5_ := am (Kd.S_below (by (with_reducible repeat (first | apply Kd.S_alloc | apply Kd.S_drewN | apply Kd.S_drew)); exact HO_758001.out) hb); have n6_ := Rb HO_774001 hb; have n7_ := Rb HO_774002 hb; have n8_ := Rb HO_774003 hb; have n9_ := Rb HO791 hb; have n10_ := Rb HO798 hb; have n11_ := Kb BK743 hb; have n12_ := Kb BK750 hb; have n13_ := Kb BK757 hb; have n14_ := Kb BK773 hb; have n15_ := Kb BK793 hb; have n16_ := Bc HB hb; have n17_ := am (hbox); have n18_ := Gm HB hg; have n19_ := Gm HB hg; have n20_ := Nl BK743 hg; have n21_ := Ng BK743 hg; have n22_ := Nl BK750 hg; have n23_ := Ng BK750 hg; have n24_ := Nl BK757 hg; have n25_ := Ng BK757 hg; have n26_ := Nl BK773 hg; have n27_ := Ng BK773 hg; have n28_ := Nl BK793 hg; have n29_ := Ng BK793 hg; clear HO_6 HO_20 HO_106 HO_744002 HO_751002 HO_758001 HO_774001 HO_774002 HO_774003 HO791 HO798 BK743 BK750 BK757 BK773 BK793 HB; revert n0_ n1_ n2_ n3_ n4_ n5_ n6_ n7_ n8_ n9_ n10_ n11_ n12_ n13_ n14_ n15_ n16_ n17_ n18_ n19_ n20_ n21_ n22_ n23_ n24_ n25_ n26_ n27_ n28_ n29_; intro HO_6 HO_20 HO_106 HO_744002 HO_751002 HO_758001 HO_774001 HO_774002 HO_774003 HO791 HO798 BK743 BK750 BK757 BK773 BK793 HB BK800 GW800 GE800 NB743_800 NB800_743 NB750_800 NB800_750 NB757_800 NB800_757 NB773_800 NB800_773 NB793_800 NB800_793; clear hb hbox hg; have hnb109 := NB800_743.out; have hnc109 := NB743_800.out; have hnb110 := NB800_750.out; have hnc110 := NB750_800.out; have hnb111 := NB800_757.out; have hnc111 := NB757_800.out; have hnb112 := NB800_773.out; have hnc112 := NB773_800.out; have hnb113 := NB800_793.out; have hnc113 := NB793_800.out; obtain ⟨hcz114_0, hcz114_1, hcz114_2, hfz114_0, hfz114_1, hfz114_2⟩ := cf3 (w := w108) BK800; obtain ⟨Ao115, co115, eo115⟩ := Kd.R_slice HO798.out; subst eo115; obtain ⟨hcz116_0, hcz116_1, hcz116_2, hfz116_0, hfz116_1, hfz116_2⟩ := cf3 (w := w108) BK743) | (go_at_call 8; (with_reducible refine (laws_pSamePeeled.calls k4 t794 t795 _ _ t796 t737 t738 _ _ t739 true _ ?side1 ?side2 ?side3 ?side4 A92.out).mono ?_); (case side1 => refine (Kd.R_reads' (e := 3) (base := w.heap.size) (ok := fun k_ => (((((((True ∧ some k_ ≠ (u20 : Value).ownBlock) ∧ some k_ ≠ (.slice Ao14 t739.length co14 : Value).ownBlock) ∧ some k_ ≠ (.slice Ao19 t746.length co19 : Value).ownBlock) ∧ some k_ ≠ (.slice Ao52 t763.length co52 : Value).ownBlock) ∧ some k_ ≠ (.slice Ao53 t766.length co53 : Value).ownBlock) ∧ some k_ ≠ (.slice Ao54 t769.length co54 : Value).ownBlock) ∧ some k_ ≠ (.slice Ao106 t789.length co106 : Value).ownBlock)) (n := t796.length) (c := co115) ?_).2.2; exact (Rz (Kd.R_mono (Kd.R_far (p := ⟨gb800, 2, none⟩) (Kd.R_far (p := ⟨gb800, 1, none⟩) (Kd.R_far (p := ⟨gb800, 0, none⟩) (Kd.R_types HO798.out BK800.out (by decide)) (fun _ hk => hk.2) (.int .i64 t794)) (fun _ hk => hk.2) (.int .i64 t795)) (fun _ hk => hk.2) (.slice Ao115 t796.length co115)) (fun _ h_ => h_.1)))); (case side2 => exact (Kd.R_reads' HO798.out).2.1); (case side3 => refine (Kd.R_reads' (e := 3) (base := w.heap.size) (ok := fun k_ => (((some k_ ≠ (u20 : Value).ownBlock ∧ (some k_ ≠ (.slice Ao19 t746.length co19 : Value).ownBlock ∧ (some k_ ≠ (.slice Ao52 t763.length co52 : Value).ownBlock ∧ (some k_ ≠ (.slice Ao53 t766.length co53 : Value).ownBlock ∧ some k_ ≠ (.slice Ao54 t769.length co54 : Value).ownBlock)))) ∧ some k_ ≠ (.slice Ao106 t789.length co106 : Value).ownBlock) ∧ some k_ ≠ (.slice Ao115 t796.length co115 : Value).ownBlock)) (n := t739.length) (c := co14) ?_).2.2; exact (Rz (Kd.R_mono (Kd.R_far (p := ⟨gb800, 2, none⟩) (Kd.R_far (p := ⟨gb800, 1, none⟩) (Kd.R_far (p := ⟨gb800, 0, none⟩) (Kd.R_types HO_744002.out BK800.out (by decide)) (fun _ hk => hk.2) (.int .i64 t794)) (fun _ hk => hk.2) (.int .i64 t795)) (fun _ hk => hk.2) (.slice Ao115 t796.length co115)) (fun _ h_ => h_.1)))); (case side4 => exact (Kd.R_reads' HO_744002.out).2.1); rintro e w117 ⟨rfl, hb⟩; have n0_ := am (Kd.R_below (Rz (Kd.R_mono (Kd.R_far (p := ⟨gb800, 2, none⟩) (Kd.R_far (p := ⟨gb800, 1, none⟩) (Kd.R_far (p := ⟨gb800, 0, none⟩) (Kd.R_types HO_6.out BK800.out (by decide)) (fun _ hk => hk.2) (.int .i64 t794)) (fun _ hk => hk.2) (.int .i64 t795)) (fun _ hk => hk.2) (.slice Ao115 t796.length co115)) (fun _ h_ => h_.1))) hb); have n1_ := am (Kd.R_below (Rz (Kd.R_mono (Kd.R_far (p := ⟨gb800, 2, none⟩) (Kd.R_far (p := ⟨gb800, 1, none⟩) (Kd.R_far (p := ⟨gb800, 0, none⟩) (Kd.R_types HO_20.out BK800.out (by decide)) (fun _ hk => hk.2) (.int .i64 t794)) (fun _ hk => hk.2) (.int .i64 t795)) (fun _ hk => hk.2) (.slice Ao115 t796.length co115)) (fun _ h_ => h_.1))) hb); have n2_ := am (Kd.R_below (Rz (Kd.R_mono (Kd.R_far (p := ⟨gb800, 2, none⟩) (Kd.R_far (p := ⟨gb800, 1, none⟩) (Kd.R_far (p := ⟨gb800, 0, none⟩) (Kd.R_types HO_106.out BK800.out (by decide)) (fun _ hk => hk.2) (.int .i64 t794)) (fun _ hk => hk.2) (.int .i64 t795)) (fun _ hk => hk.2) (.slice Ao115 t796.length co115)) (fun _ h_ => h_.1))) hb); have n3_ := am (Kd.R_below (Rz (Kd.R_mono (Kd.R_far (p := ⟨gb800, 2, none⟩) (Kd.R_far (p := ⟨gb800, 1, none⟩) (Kd.R_far (p := ⟨gb800, 0, none⟩) (Kd.R_types HO_744002.out BK800.out (by decide)) (fun _ hk => hk.2) (.int .i64 t794)) (fun _ hk => hk.2) (.int .i64 t795)) (fun _ hk => hk.2) (.slice Ao115 t796.length co115)) (fun _ h_ => h_.1))) hb); have n4_ := am (Kd.R_below (Rz (Kd.R_mono (Kd.R_far (p := ⟨gb800, 2, none⟩) (Kd.R_far (p := ⟨gb800, 1, none⟩) (Kd.R_far (p := ⟨gb800, 0, none⟩) (Kd.R_types HO_751002.out BK800.out (by decide)) (fun _ hk => hk.2) (.int .i64 t794)) (fun _ hk => hk.2) (.int .i64 t795)) (fun _ hk => hk.2) (.slice Ao115 t796.length co115)) (fun _ h_ => h_.1))) hb); have n5_ := am (Kd.S_below (by (with_reducible repeat (first | apply Kd.S_alloc | apply Kd.S_drewN | apply Kd.S_drew)); exact (Kd.S_mono (Kd.S_far (p := ⟨gb800, 2, none⟩) (Kd.S_far (p := ⟨gb800, 1, none⟩) (Kd.S_far (p := ⟨gb800, 0, none⟩) (Kd.S_types HO_758001.out BK800.out (by decide)) (fun _ hk => hk.2) (.int .i64 t794)) (fun _ hk => hk.2) (.int .i64 t795)) (fun _ hk => hk.2) (.slice Ao115 t796.length co115)) (fun _ h_ => h_.1))) hb); have n6_ := am (Kd.R_below (Rz (Kd.R_mono (Kd.R_far (p := ⟨gb800, 2, none⟩) (Kd.R_far (p := ⟨gb800, 1, none⟩) (Kd.R_far (p := ⟨gb800, 0, none⟩) (Kd.R_types HO_774001.out BK800.out (by decide)) (fun _ hk => hk.2) (.int .i64 t794)) (fun _ hk => hk.2) (.int .i64 t795)) (fun _ hk => hk.2) (.slice Ao115 t796.length co115)) (fun _ h_ => h_.1))) hb); have n7_ := am (Kd.R_below (Rz (Kd.R_mono (Kd.R_far (p := ⟨gb800, 2, none⟩) (Kd.R_far (p := ⟨gb800, 1, none⟩) (Kd.R_far (p := ⟨gb800, 0, none⟩) (Kd.R_types HO_774002.out BK800.out (by decide)) (fun _ hk => hk.2) (.int .i64 t794)) (fun _ hk => hk.2) (.int .i64 t795)) (fun _ hk => hk.2) (.slice Ao115 t796.length co115)) (fun _ h_ => h_.1))) hb); have n8_ := am (Kd.R_below (Rz (Kd.R_mono (Kd.R_far (p := ⟨gb800, 2, none⟩) (Kd.R_far (p := ⟨gb800, 1, none⟩) (Kd.R_far (p := ⟨gb800, 0, none⟩) (Kd.R_types HO_774003.out BK800.out (by decide)) (fun _ hk => hk.2) (.int .i64 t794)) (fun _ hk => hk.2) (.int .i64 t795)) (fun _ hk => hk.2) (.slice Ao115 t796.length co115)) (fun _ h_ => h_.1))) hb); have n9_ := am (Kd.R_below (Rz (Kd.R_mono (Kd.R_far (p := ⟨gb800, 2, none⟩) (Kd.R_far (p := ⟨gb800, 1, none⟩) (Kd.R_far (p := ⟨gb800, 0, none⟩) (Kd.R_types HO791.out BK800.out (by decide)) (fun _ hk => hk.2) (.int .i64 t794)) (fun _ hk => hk.2) (.int .i64 t795)) (fun _ hk => hk.2) (.slice Ao115 t796.length co115)) (fun _ h_ => h_.1))) hb); have n10_ := am (Kd.R_below (Rz (Kd.R_mono (Kd.R_far (p := ⟨gb800, 2, none⟩) (Kd.R_far (p := ⟨gb800, 1, none⟩) (Kd.R_far (p := ⟨gb800, 0, none⟩) (Kd.R_types HO798.out BK800.out (by decide)) (fun _ hk => hk.2) (.int .i64 t794)) (fun _ hk => hk.2) (.int .i64 t795)) (fun _ hk => hk.2) (.slice Ao115 t796.length co115)) (fun _ h_ => h_.1))) hb); have n11_ := am (blk_below (g := gb743) (o := .cells #[.int .i64 t737, .int .i64 t738, .slice Ao14 t739.length co14] 29 (0, 0)) (by (with_reducible repeat (first | refine blk_drewN ?_ _ | refine blk_drew ?_ | refine blk_alloc ?_ _)); refine blk_far ?_ NB743_800.out _; (with_reducible repeat (first | refine blk_drewN ?_ _ | refine blk_drew ?_ | refine blk_alloc ?_ _)); refine blk_far ?_ NB743_800.out _; (with_reducible repeat (first | refine blk_drewN ?_ _ | refine blk_drew ?_ | refine blk_alloc ?_ _)); refine blk_far ?_ NB743_800.out _; exact Kz BK743.out) hb); have n12_ := am (blk_below (g := gb750) (o := .cells #[.int .i64 t744, .int .i64 t745, .slice Ao19 t746.length co19] 29 (0, 0)) (by (with_reducible repeat (first | refine blk_drewN ?_ _ | refine blk_drew ?_ | refine blk_alloc ?_ _)); refine blk_far ?_ NB750_800.out _; (with_reducible repeat (first | refine blk_drewN ?_ _ | refine blk_drew ?_ | refine blk_alloc ?_ _)); refine blk_far ?_ NB750_800.out _; (with_reducible repeat (first | refine blk_drewN ?_ _ | refine blk_drew ?_ | refine blk_alloc ?_ _)); refine blk_far ?_ NB750_800.out _; exact Kz BK750.out) hb); have n13_ := am (blk_below (g := gb757) (o := .cells #[.int .i64 t752, .slice Ao35 t753.length co35] 35 (0, 0)) (by (with_reducible repeat (first | refine blk_drewN ?_ _ | refine blk_drew ?_ | refine blk_alloc ?_ _)); refine blk_far ?_ NB757_800.out _; (with_reducible repeat (first | refine blk_drewN ?_ _ | refine blk_drew ?_ | refine blk_alloc ?_ _)); refine blk_far ?_ NB757_800.out _; (with_reducible repeat (first | refine blk_drewN ?_ _ | refine blk_drew ?_ | refine blk_alloc ?_ _)); refine blk_far ?_ NB757_800.out _; exact Kz BK757.out) hb); have n14_ := am (blk_below (g := gb773) (o := .cells #[.int .i64 t762, .slice Ao52 t763.length co52, .slice Ao53 t766.length co53, .slice Ao54 t769.length co54] 44 (0, 0)) (by (with_reducible repeat (first | refine blk_drewN ?_ _ | refine blk_drew ?_ | refine blk_alloc ?_ _)); refine blk_far ?_ NB773_800.out _; (with_reducible repeat (first | refine blk_drewN ?_ _ | refine blk_drew ?_ | refine blk_alloc ?_ _)); refine blk_far ?_ NB773_800.out _; (with_reducible repeat (first | refine blk_drewN ?_ _ | refine blk_drew ?_ | refine blk_alloc ?_ _)); refine blk_far ?_ NB773_800.out _; exact Kz BK773.out) hb); have n15_ := am (blk_below (g := gb793) (o := .cells #[.int .i64 t788, .slice Ao106 t789.length co106] 42 (0, 0)) (by (with_reducible repeat (first | refine blk_drewN ?_ _ | refine blk_drew ?_ | refine blk_alloc ?_ _)); refine blk_far ?_ NB793_800.out _; (with_reducible repeat (first | refine blk_drewN ?_ _ | refine blk_drew ?_ | refine blk_alloc ?_ _)); refine blk_far ?_ NB793_800.out _; (with_reducible repeat (first | refine blk_drewN ?_ _ | refine blk_drew ?_ | refine blk_alloc ?_ _)); refine blk_far ?_ NB793_800.out _; exact Kz BK793.out) hb); have n16_ := am (blk_below (g := gb800) (o := .cells #[.int .i64 t794, .int .i64 t795, .slice Ao115 t796.length co115] 29 (0, 0)) (by (with_reducible repeat (first | refine blk_drewN ?_ _ | refine blk_drew ?_ | refine blk_alloc ?_ _)); refine blk_put (cs := #[.int .i64 t794, .int .i64 t795, .slice none 0 0]) ?_ 2 _ rfl; (with_reducible repeat (first | refine blk_drewN ?_ _ | refine blk_drew ?_ | refine blk_alloc ?_ _)); refine blk_put (cs := #[.int .i64 t794, .int .i64 0, .slice none 0 0]) ?_ 1 _ rfl; (with_reducible repeat (first | refine blk_drewN ?_ _ | refine blk_drew ?_ | refine blk_alloc ?_ _)); refine blk_put (cs := #[.int .i64 0, .int .i64 0, .slice none 0 0]) ?_ 0 _ rfl; exact Kz BK800.out) hb); have n17_ := Bc HB hb; clear HO_6 HO_20 HO_106 HO_744002 HO_751002 HO_758001 HO_774001 HO_774002 HO_774003 HO791 HO798 BK743 BK750 BK757 BK773 BK793 BK800 HB; revert n0_ n1_ n2_ n3_ n4_ n5_ n6_ n7_ n8_ n9_ n10_ n11_ n12_ n13_ n14_ n15_ n16_ n17_; intro HO_6 HO_20 HO_106 HO_744002 HO_751002 HO_758001 HO_774001 HO_774002 HO_774003 HO791 HO798 BK743 BK750 BK757 BK773 BK793 BK800 HB; (try clear hb); (try clear hb2); (try clear hk); (try clear hi); obtain ⟨Ao118, co118, eo118⟩ := Kd.R_slice HO_20.out; subst eo118) | (go_at_call 19; (with_reducible refine (laws_pAllOnce.calls k4 _ _ x20_4 (t733.length : Int) t802 _ ?side1 ?side2 A94.out).mono ?_); (case side1 => exact Cz ((Kd.R_reads' HO_20.out).2.2)); (case side2 => exact (Kd.R_reads' HO_20.out).2.1); rintro e w' ⟨rfl, ⟨nd, rfl⟩⟩))
                     go_ret
                     exact ⟨eZ, Bq⟩
                    ·replace c93 := Bool.eq_false_iff.mpr c93
                     subst c93
                     rw [if_neg (show ¬ (false = true) by decide)] at H; exact absurd (Option.some.inj H) (by rw [HQT_.out]; decide)
                   ·replace c91 := Bool.eq_false_iff.mpr c91
                    subst c91
                    rw [if_neg (show ¬ (false = true) by decide)] at H; exact absurd (Option.some.inj H) (by rw [HQT_.out]; decide)
                  ·replace c90 := Bool.eq_false_iff.mpr c90
                   subst c90
                   rw [if_neg (show ¬ (false = true) by decide)] at H; exact absurd (Option.some.inj H) (by rw [HQT_.out]; decide)
            case close3 => exact inferInstanceAs _
          ·replace c39 := Bool.eq_false_iff.mpr c39
           subst c39
           rw [if_neg (show ¬ (false = true) by decide)] at H; obtain rfl := Option.some.inj H
           go_wp2
           go_ret
           exact ⟨eZ, Bq⟩
       case close2 => exact inferInstanceAs _
   case close1 => exact inferInstanceAs _
def laws_FnPeeledIsPerfect.Pure : Prop := ∀ (l0 : List Int) (l1 : List Int), l0.length ≤ maxLen → l0.length * 1 ≤ 140737488351232 → (∀ x ∈ l0, (Lit.int .u8 x).wf = true) → l1.length ≤ maxLen → l1.length * 1 ≤ 140737488351232 → (∀ x ∈ l1, (Lit.int .u8 x).wf = true) → ∃ k, laws_FnPeeledIsPerfect.f k l0 l1 = some true
theorem laws_FnPeeledIsPerfect.walk (P : laws_FnPeeledIsPerfect.Pure) (a0 : Option Addr) (len0 cap0 : Nat) (z0 : List Int) (a1 : Option Addr) (len1 cap1 : Nat) (z1 : List Int) (w : World) (w0 : (a0 = none ∧ len0 = 0 ∧ cap0 = 0 ∧ z0 = []) ∨ ∃ x, a0 = some x ∧ len0 ≤ cap0 ∧ cap0 ≤ maxLen ∧ z0.length = cap0 ∧ (∀ i, i < z0.length → w.cell? (x.add i) = some (.int .u8 (z0.getD i 0))) ∧ ∀ n ∈ z0, (Lit.int .u8 n).wf = true) (y0 : len0 * 1 ≤ 140737488351232) (w1 : (a1 = none ∧ len1 = 0 ∧ cap1 = 0 ∧ z1 = []) ∨ ∃ x, a1 = some x ∧ len1 ≤ cap1 ∧ cap1 ≤ maxLen ∧ z1.length = cap1 ∧ (∀ i, i < z1.length → w.cell? (x.add i) = some (.int .u8 (z1.getD i 0))) ∧ ∀ n ∈ z1, (Lit.int .u8 n).wf = true) (y1 : len1 * 1 ≤ 140737488351232) :
  Calls Tryz.prog 3 #[.slice a0 len0 cap0, .slice a1 len1 cap1] w fun e w' => e = .returned (.bool true) ∧ Below w.heap.size w w' := by
 obtain ⟨l0, rfl, hr0, hm0, hw0, hc0⟩ := ReadsInt.ofRowC w0; obtain ⟨l1, rfl, hr1, hm1, hw1, hc1⟩ := ReadsInt.ofRowC w1; obtain ⟨k, h⟩ := P l0 l1 hm0 y0 hw0 hm1 y1 hw1; refine (laws_FnPeeledIsPerfect.calls k _ _ l0 _ _ l1 true w (Kd.C_of_reads (d := (0 : Int)) (h1 := fun _ => rfl) hr0) hc0 (Kd.C_of_reads (d := (0 : Int)) (h1 := fun _ => rfl) hr1) hc1 h rfl).mono ?_; rintro e w' ⟨rfl, hd⟩; exact ⟨rfl, hd⟩

end Go.Proofs.YtmehagedoaopeaaGreat.PZ
namespace Go.Proofs.YtmehagedoaopeaaGreatQ
open Go Go.RowKit Go.Proofs.YtmehagedoaopeaaGreatW.PrintWords Go.Proofs.YtmehagedoaopeaaGreatGp

theorem ev_succ {α : Type} {g : Nat → Option α} {r : α} (h : Ev (fun k => g (k + 1)) r) : Ev g r := Ev.step (f := fun k => g (k + 1)) (fun _ => rfl) h
theorem ev_some' {α : Type} {o : Option α} {r : α} (h : o = some r) : Ev (fun _ => o) r := h ▸ Ev.now r
theorem ev_some {α : Type} {a r : α} (h : a = r) : Ev (fun _ => some a) r := h ▸ Ev.now a
theorem ev_pos {α : Type} {c : Prop} [Decidable c] {f g : Nat → Option α} {r : α} (h : c) (k : Ev f r) : Ev (fun n => if c then f n else g n) r := by simpa only [if_pos h] using k
theorem ev_neg {α : Type} {c : Prop} [Decidable c] {f g : Nat → Option α} {r : α} (h : ¬ c) (k : Ev g r) : Ev (fun n => if c then f n else g n) r := by simpa only [if_neg h] using k
theorem ev_bind {α β : Type} {g : Nat → Option α} {f : Nat → α → Option β} {r : β} (a : α) (h : Ev g a) (k : Ev (fun n => f n a) r) : Ev (fun n => (g n).bind (f n)) r := Ev.bind h k
theorem w64 {x : Int} (h0 : -9223372036854775808 ≤ x) (h1 : x ≤ 9223372036854775807) : wrap64 x = x := by unfold wrap64; omega
theorem winc {i : Nat} (h : (i : Int) < 9223372036854775807) : wrap64 ((i : Int) + 1) = ((i + 1 : Nat) : Int) := by unfold wrap64; omega
theorem wdec {i : Nat} (h : (i : Int) < 9223372036854775807) : wrap64 (((i + 1 : Nat) : Int) - 1) = (i : Int) := by unfold wrap64; omega
theorem maxLen_eq : maxLen = 9223372036854775807 := by unfold maxLen; rfl
section
variable {α : Type} {d : α} {pre t : List α} {s : α}
theorem rdOf_mid : rdOf d (pre ++ s :: t) ((pre.length : Nat) : Int) = s := by simp [rdOf]
theorem rdOf_last {p : α} : rdOf d ((pre ++ [p]) ++ s :: t) ((pre.length : Nat) : Int) = p := by simp [rdOf]
theorem rdOf_get {xs : List α} {i : Nat} (h : i < xs.length) : rdOf d xs (i : Int) = xs[i] := by simp [rdOf, h]
theorem lt_mid : ((pre.length : Nat) : Int) < ((pre ++ s :: t).length : Int) := by simp; omega
theorem not_lt_end : ¬ ((pre.length : Nat) : Int) < ((pre ++ ([] : List α)).length : Int) := by simp
theorem len_one : ((pre ++ [s]).length : Int) = ((pre.length + 1 : Nat) : Int) := by simp
end
theorem rd_mid {pre t : List Int} {s : Int} : rd (pre ++ s :: t) ((pre.length : Nat) : Int) = s := by simp [rd]
theorem rd_get {xs : List Int} {i : Nat} (h : i < xs.length) : rd xs (i : Int) = xs[i] := by simp [rd, h]

theorem tl (s : ByteArray) : s.toList = s.data.toList := Lib.toList_data s
theorem tl_inj {x y : ByteArray} : x.toList = y.toList ↔ x = y := by
  rw [tl, tl]
  exact ⟨fun h => ByteArray.ext (Array.toList_inj.1 h), fun h => h ▸ rfl⟩
theorem size_len (s : ByteArray) : s.size = s.data.toList.length := (data_length s).symm
theorem bt_mid {s : ByteArray} {pre t : List UInt8} {c : UInt8} (h : s.data.toList = pre ++ c :: t) : bt s ((pre.length : Nat) : Int) = (c.toNat : Int) := by
  have hs : pre.length < s.size := by rw [size_len, h]; simp
  have hg : s[pre.length]'hs = c := by
    have : s.data.toList[pre.length]'(by rw [h]; simp) = c := by simp [h]
    rw [← this]; rfl
  unfold bt
  rw [dif_pos (by simpa using hs)]
  simp only [Int.toNat_natCast, hg]
theorem lt_size {s : ByteArray} {pre t : List UInt8} {c : UInt8} (h : s.data.toList = pre ++ c :: t) : ((pre.length : Nat) : Int) < (s.size : Int) := by rw [size_len, h]; simp; omega
theorem not_lt_size {s : ByteArray} {pre : List UInt8} (h : s.data.toList = pre ++ []) : ¬ ((pre.length : Nat) : Int) < (s.size : Int) := by rw [size_len, h]; simp
def lessS (a b : ByteArray) : Bool := Op.bytesLess a.toList b.toList
end Go.Proofs.YtmehagedoaopeaaGreatQ
