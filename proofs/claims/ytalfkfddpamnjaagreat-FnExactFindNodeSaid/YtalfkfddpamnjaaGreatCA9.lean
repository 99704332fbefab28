import Derived.Test.YtalfkfddpamnjaaGreatCA2
import Derived.Test.YtalfkfddpamnjaaGreatCA3
import Derived.Test.YtalfkfddpamnjaaGreatCA5
import Derived.Test.YtalfkfddpamnjaaGreatCA8
import Derived.Test.YtalfkfddpamnjaaGreatCA0
import Derived.ProofKit
import Derived.SliceStrings
import Derived.ChangeSlices
import Derived.Lib.Bytes
import Derived.Test.YtalfkfddpamnjaaGreatCA6
import Derived.Test.YtalfkfddpamnjaaGreatCA1
import Derived.Laws.BitsLemmas
-- printed by a program of this session (wip/gp) out of the translation; Lean checks it
namespace Go.Proofs.YtalfkfddpamnjaaGreat.PA
open Go.RowKit Go.Proofs.YtalfkfddpamnjaaGreatW.PrintWords Go.Proofs.YtalfkfddpamnjaaGreatW.PrintLast Go.Proofs.YtalfkfddpamnjaaGreatW.PrintMore Go.Proofs.YtalfkfddpamnjaaGreatSq
attribute [local go_sem] max2_int min2_int max_two min_two max_three min_three max_four min_four   -- for this text's walks alone
attribute [local go_sem] Go.Proofs.YtalfkfddpamnjaaGreatGp.str_geq Go.Proofs.YtalfkfddpamnjaaGreatGp.str_gtr Go.Proofs.YtalfkfddpamnjaaGreatGp.str_leq
set_option linter.unusedVariables false
set_option linter.unusedSimpArgs false

set_option maxHeartbeats 8000000
set_option maxRecDepth 100000
def impl_FindNode.f (k : Nat) (a0_0 : Int) (l0_1 : List Int) (a0_2 : Int) (l0_3 : List Int) (a0_4 : ByteArray) (a1 : ByteArray) : Option (Int × Bool) := (impl_Trie_nodes.f k a0_0 l0_1 a0_2 l0_3 a0_4).bind fun t439 => ((impl_placedAt.f k t439 a1).bind fun bt442 => (some (bt442.1, bt442.2)))
theorem impl_FindNode.mono : ∀ a0 a1 a2 a3 a4 a5 k, LeO (impl_FindNode.f k a0 a1 a2 a3 a4 a5) (impl_FindNode.f (k + 1) a0 a1 a2 a3 a4 a5) := by
 intro a0 a1 a2 a3 a4 a5 k
 unfold impl_FindNode.f
 repeat' first | (with_reducible first | exact impl_Trie_nodes.mono _ _ _ _ _ _ | exact impl_placedAt.mono _ _ _ | exact LeO.refl _ | exact LeO.none _ | refine LeO.ite ?_ ?_ | refine LeO.bind ?_ (fun _ => ?_)) | exact LeO.none _ | refine LeO.ite ?_ ?_ | refine LeO.bind ?_ (fun _ => ?_)
theorem impl_FindNode.calls (k : Nat) (a0_0 : Int) (A0_1 : Option Addr) (c0_1 : Nat) (l0_1 : List Int) (a0_2 : Int) (A0_3 : Option Addr) (c0_3 : Nat) (l0_3 : List Int) (a0_4 : ByteArray) (a1 : ByteArray) (r1 : Int) (r2 : Bool) (w : World) (hr0_1 : Kd.C (Kd.int .i64) w A0_1 l0_1.length l0_1) (hc0_1 : l0_1.length ≤ c0_1) (hr0_3 : Kd.C (Kd.int .i64) w A0_3 l0_3.length l0_3) (hc0_3 : l0_3.length ≤ c0_3) (h : impl_FindNode.f k a0_0 l0_1 a0_2 l0_3 a0_4 a1 = some (r1, r2)) :
  Calls Tryz.prog 7 #[.agg #[.int .i64 a0_0, .slice A0_1 l0_1.length c0_1, .int .i64 a0_2, .slice A0_3 l0_3.length c0_3, .string a0_4], .string a1] w fun e w' => e = .returned (.tuple #[.int .i64 r1, .bool r2]) ∧ Below w.heap.size w w' := by
 have hu32 := Tryz.underlying32; have HR0_1 := am hr0_1; have HC0_1 := am hc0_1; clear hr0_1 hc0_1; have HR0_3 := am hr0_3; have HC0_3 := am hc0_3; clear hr0_3 hc0_3; have HB := am (Below.refl w.heap.size w); have H : ((impl_Trie_nodes.f k a0_0 l0_1 a0_2 l0_3 a0_4).bind fun t439 => ((impl_placedAt.f k t439 a1).bind fun bt442 => (some (bt442.1, bt442.2)))) = some (r1, r2) := h; clear h; replace H := Option.bind_eq_some_iff.mp H; obtain ⟨t439, A30, H⟩ := H; (try dsimp -simprocs only at H); have A3 := am A30; clear A30; replace H := Option.bind_eq_some_iff.mp H; obtain ⟨⟨t442, t443⟩, A40, H⟩ := H; (try dsimp -simprocs only at H); have A4 := am A40; clear A40
 simp only [Option.some.injEq, Prod.mk.injEq] at H
 obtain ⟨rfl, rfl⟩ := H
 go_enter Tryz.func7, Tryz.ntmps7
 go_wp2_with (first | ((with_reducible refine gate_dst (N := 2) rfl ?_); refine bE 2 #[.int .i64 a0_0, .slice A0_1 l0_1.length c0_1, .int .i64 a0_2, .slice A0_3 l0_3.length c0_3, .string a0_4] 32 ?_; intro gb438 hg w5 hbox hb; have n0_ := Bb HB hb; have n1_ := am (hbox); have n2_ := Gl HB hg; have n3_ := Gl HB hg; clear HB; revert n0_ n1_ n2_ n3_; intro HB BK438 GW438 GE438; clear hb hbox hg) | ((with_reducible refine gate_callee (f := 14) rfl ?_); refine gL (some 6) Tryz.func14 #[.pointer (some ⟨gb438, 0, none⟩)] ?_; (with_reducible refine (impl_Trie_nodes.calls k gb438 a0_0 A0_1 c0_1 l0_1 a0_2 A0_3 c0_3 l0_3 a0_4 t439 _ ?side1 ?side2 ?side3 ?side4 ?side5 A3.out).mono ?_); (case side1 => exact Kz BK438.out); (case side2 => exact Cz (Kd.C_below HR0_1.out HB.out)); (case side3 => exact HC0_1.out); (case side4 => exact Cz (Kd.C_below HR0_3.out HB.out)); (case side5 => exact HC0_3.out); rintro e w6 ⟨⟨v440, rfl, ho0, hb⟩, hnil_v440⟩; refine ⟨_, rfl, ?_⟩; have n0_ := Rm ho0 HB; have n1_ := Kb BK438 hb; have n2_ := Bc HB hb; clear BK438 HB; revert n0_ n1_ n2_; intro HO441 BK438 HB; (try clear hb); (try clear hb2); (try clear hk); (try clear hi); (try clear ho0); obtain ⟨Ao7, co7, eo7⟩ := Kd.R_slice HO441.out; subst eo7) | ((with_reducible refine gate_callee (f := 13) rfl ?_); refine gL (some 8) Tryz.func13 #[.slice Ao7 t439.length co7, .string a1] ?_; (with_reducible refine (impl_placedAt.calls k _ _ t439 a1 t442 t443 _ ?side1 ?side2 A4.out).mono ?_); (case side1 => exact Cz ((Kd.R_reads' HO441.out).2.2)); (case side2 => exact (Kd.R_reads' HO441.out).2.1); rintro e w8 ⟨rfl, hb⟩; refine ⟨_, rfl, ?_⟩; have n0_ := Rb HO441 hb; have n1_ := Kb BK438 hb; have n2_ := Bc HB hb; clear HO441 BK438 HB; revert n0_ n1_ n2_; intro HO441 BK438 HB; (try clear hb); (try clear hb2); (try clear hk); (try clear hi)))
 go_ret2
 exact ⟨eZ, Bq⟩

def laws_eqIntS.l0 : Nat → List Int → List Int → Int → Option (Bool)
 | 0, _, _, _ => none
 | k + 1, x0, x1, x5 => if x5 < (x0.length : Int) then (if 0 ≤ x5 then (if x5 < (x1.length : Int) then (if (rd x0 x5) = (rd x1 x5) then (laws_eqIntS.l0 k x0 x1 (wrap64 (x5 + 1))) else (some false)) else (none)) else (none)) else (some true)
def laws_eqIntS.f (k : Nat) (l0 : List Int) (l1 : List Int) : Option (Bool) := if (l0.length : Int) = (l1.length : Int) then (laws_eqIntS.l0 k l0 l1 0) else (some false)
theorem laws_eqIntS.mono_l : ∀ k, (∀ y0 y1 y2, LeO (laws_eqIntS.l0 k y0 y1 y2) (laws_eqIntS.l0 (k + 1) y0 y1 y2))
 | 0 => fun _ _ _ r h => by simp [laws_eqIntS.l0] at h
 | k + 1 => by
  have ih0 := laws_eqIntS.mono_l k
  ·intro y0 y1 y2
   unfold laws_eqIntS.l0
   repeat' first | (with_reducible first | exact ih0 _ _ _ | exact LeO.refl _ | exact LeO.none _ | refine LeO.ite ?_ ?_ | refine LeO.bind ?_ (fun _ => ?_)) | exact LeO.none _ | refine LeO.ite ?_ ?_ | refine LeO.bind ?_ (fun _ => ?_)
theorem laws_eqIntS.mono : ∀ a0 a1 k, LeO (laws_eqIntS.f k a0 a1) (laws_eqIntS.f (k + 1) a0 a1) := by
 intro a0 a1 k; have ih0 := laws_eqIntS.mono_l k
 unfold laws_eqIntS.f
 repeat' first | (with_reducible first | exact ih0 _ _ _ | exact LeO.refl _ | exact LeO.none _ | refine LeO.ite ?_ ?_ | refine LeO.bind ?_ (fun _ => ?_)) | exact LeO.none _ | refine LeO.ite ?_ ?_ | refine LeO.bind ?_ (fun _ => ?_)
theorem laws_eqIntS.calls (k : Nat) (A0 : Option Addr) (c0 : Nat) (l0 : List Int) (A1 : Option Addr) (c1 : Nat) (l1 : List Int) (r : Bool) (w : World) (hr0 : Kd.C (Kd.int .i64) w A0 l0.length l0) (hc0 : l0.length ≤ c0) (hr1 : Kd.C (Kd.int .i64) w A1 l1.length l1) (hc1 : l1.length ≤ c1) (h : laws_eqIntS.f k l0 l1 = some r) :
  Calls Tryz.prog 27 #[.slice A0 l0.length c0, .slice A1 l1.length c1] w fun e w' => e = .returned (.bool r) ∧ Drawn0 w w' := by
 have HR0 := am hr0; have HC0 := am hc0; clear hr0 hc0; have HR1 := am hr1; have HC1 := am hc1; clear hr1 hc1; have H : (if (l0.length : Int) = (l1.length : Int) then (laws_eqIntS.l0 k l0 l1 0) else (some false)) = some r := h; clear h
 by_cases c3 : (l0.length : Int) = (l1.length : Int)
 ·rw [if_pos c3] at H
  have c3b0 : ((l0.length : Int) == (l1.length : Int)) = true := beq_iff_eq.mpr c3; have c3b1 : ((l0.length : Int) != (l1.length : Int)) = false := bne_eq_false_iff_eq.mpr c3
  have c3b2 : (l0.length == l1.length) = true := by first | simpa using c3 | (simp at c3 ⊢; omega)
  clear c3; have H' := am H; clear H
  go_enter Tryz.func27, Tryz.ntmps27
  go_wp2
  repeat (go_quiet (fail); try go_wp2)
  go_loopg [5] k (fun kq v5 w' => ∃ (x5_1 : Int), v5 = .int .i64 x5_1 ∧ Aside0 (laws_eqIntS.l0 kq l0 l1 x5_1 = some r) ∧ Aside0 (kq ≤ k) ∧ Drawn0 w w')
  case atStart => exact ⟨(0), wZ, H', ⟨Nat.le_refl _⟩, by repeat (first | exact Drawn0.refl _ | apply Drawn0.step)⟩
  case round =>
   clear H'
   try clear c1
   try clear c2
   try clear p2
   try clear c3
   try clear c3b0
   try clear c3b1
   try clear c3b2
   obtain ⟨x5_1, rfl, HA, HK1, ⟨m1, rfl⟩⟩ := hrel; cases gk with
   | zero => exact absurd HA.out (by simp [laws_eqIntS.l0])
   | succ k1 =>
    have H := HA.out; clear HA
    simp only [laws_eqIntS.l0] at H
    by_cases c4 : x5_1 < (l0.length : Int)
    ·rw [if_pos c4] at H
     have c4b0 : decide (x5_1 < (l0.length : Int)) = true := decide_eq_true c4; clear c4
     by_cases c5 : 0 ≤ x5_1
     ·rw [if_pos c5] at H
      have c5b0 : decide (0 ≤ x5_1) = true := decide_eq_true c5; clear c5
      by_cases c6 : x5_1 < (l1.length : Int)
      ·rw [if_pos c6] at H
       have c6b0 : decide (x5_1 < (l1.length : Int)) = true := decide_eq_true c6; clear c6
       by_cases c7 : (rd l0 x5_1) = (rd l1 x5_1)
       ·rw [if_pos c7] at H
        have c7b0 : ((rd l0 x5_1) == (rd l1 x5_1)) = true := beq_iff_eq.mpr c7; have c7b1 : ((rd l0 x5_1) != (rd l1 x5_1)) = false := bne_eq_false_iff_eq.mpr c7; clear c7; have H' := am H; clear H; obtain ⟨ad444, e444, hx444_0⟩ := Kd.at_int HR0.out x5_1 dT dT; cases e444; have p444 := eT (0 ≤ (x5_1 : Int)); have q444 := eT (x5_1 < (l0.length : Int)); obtain ⟨ad445, e445, hx445_0⟩ := Kd.at_int HR1.out x5_1 dT dT; cases e445; have p445 := eT (0 ≤ (x5_1 : Int)); have q445 := eT (x5_1 < (l1.length : Int))
        go_wp2
        repeat (go_quiet (fail); try go_wp2)
        go_roundg k1
        case measure => have := HK1.out; omega
        case rel => exact ⟨(wrap64 (x5_1 + 1)), wZ, H', ⟨by have := HK1.out; omega⟩, by repeat (first | exact Drawn0.refl _ | apply Drawn0.step)⟩
       ·rw [if_neg c7] at H
        have c7b0 : ((rd l0 x5_1) == (rd l1 x5_1)) = false := beq_eq_false_iff_ne.mpr c7; have c7b1 : ((rd l0 x5_1) != (rd l1 x5_1)) = true := bne_iff_ne.mpr c7; obtain rfl := Option.some.inj H; obtain ⟨ad444, e444, hx444_0⟩ := Kd.at_int HR0.out x5_1 dT dT; cases e444; have p444 := eT (0 ≤ (x5_1 : Int)); have q444 := eT (x5_1 < (l0.length : Int)); obtain ⟨ad445, e445, hx445_0⟩ := Kd.at_int HR1.out x5_1 dT dT; cases e445; have p445 := eT (0 ≤ (x5_1 : Int)); have q445 := eT (x5_1 < (l1.length : Int))
        go_wp2
        repeat (go_quiet (fail); try go_wp2)
        go_ret
        exact ⟨by first | rfl | (simp; done) | (simp [*]; done), by repeat (first | exact Drawn0.refl _ | apply Drawn0.step)⟩
      ·rw [if_neg c6] at H
       exact absurd H (by simp)
     ·rw [if_neg c5] at H
      exact absurd H (by simp)
    ·rw [if_neg c4] at H
     have c4b0 : decide (x5_1 < (l0.length : Int)) = false := decide_eq_false c4; clear c4; obtain rfl := Option.some.inj H
     go_wp2
     repeat (go_quiet (fail); try go_wp2)
     go_ret
     exact ⟨by first | rfl | (simp; done) | (simp [*]; done), by repeat (first | exact Drawn0.refl _ | apply Drawn0.step)⟩
 ·rw [if_neg c3] at H
  have c3b0 : ((l0.length : Int) == (l1.length : Int)) = false := beq_eq_false_iff_ne.mpr c3; have c3b1 : ((l0.length : Int) != (l1.length : Int)) = true := bne_iff_ne.mpr c3
  have c3b2 : (l0.length == l1.length) = false := by first | simpa using c3 | (simp at c3 ⊢; omega)
  obtain rfl := Option.some.inj H
  go_enter Tryz.func27, Tryz.ntmps27
  go_wp2
  repeat (go_quiet (fail); try go_wp2)
  go_ret
  exact ⟨by first | rfl | (simp; done) | (simp [*]; done), by repeat (first | exact Drawn0.refl _ | apply Drawn0.step)⟩

def laws_eqBits.f (k : Nat) (a0_0 : Int) (l0_1 : List Int) (a1_0 : Int) (l1_1 : List Int) : Option (Bool) := if a0_0 = a1_0 then ((laws_eqIntS.f k l0_1 l1_1).bind fun t448 => (if t448 = true then (some true) else (some false))) else (some false)
theorem laws_eqBits.mono : ∀ a0 a1 a2 a3 k, LeO (laws_eqBits.f k a0 a1 a2 a3) (laws_eqBits.f (k + 1) a0 a1 a2 a3) := by
 intro a0 a1 a2 a3 k
 unfold laws_eqBits.f
 repeat' first | (with_reducible first | exact laws_eqIntS.mono _ _ _ | exact LeO.refl _ | exact LeO.none _ | refine LeO.ite ?_ ?_ | refine LeO.bind ?_ (fun _ => ?_)) | exact LeO.none _ | refine LeO.ite ?_ ?_ | refine LeO.bind ?_ (fun _ => ?_)
theorem laws_eqBits.calls (k : Nat) (a0_0 : Int) (A0_1 : Option Addr) (c0_1 : Nat) (l0_1 : List Int) (a1_0 : Int) (A1_1 : Option Addr) (c1_1 : Nat) (l1_1 : List Int) (r : Bool) (w : World) (hr0_1 : Kd.C (Kd.int .i64) w A0_1 l0_1.length l0_1) (hc0_1 : l0_1.length ≤ c0_1) (hr1_1 : Kd.C (Kd.int .i64) w A1_1 l1_1.length l1_1) (hc1_1 : l1_1.length ≤ c1_1) (h : laws_eqBits.f k a0_0 l0_1 a1_0 l1_1 = some r) :
  Calls Tryz.prog 15 #[.agg #[.int .i64 a0_0, .slice A0_1 l0_1.length c0_1], .agg #[.int .i64 a1_0, .slice A1_1 l1_1.length c1_1]] w fun e w' => e = .returned (.bool r) ∧ Below w.heap.size w w' := by
 have hu30 := Tryz.underlying30; have HR0_1 := am hr0_1; have HC0_1 := am hc0_1; clear hr0_1 hc0_1; have HR1_1 := am hr1_1; have HC1_1 := am hc1_1; clear hr1_1 hc1_1; have HB := am (Below.refl w.heap.size w); have H : (if a0_0 = a1_0 then ((laws_eqIntS.f k l0_1 l1_1).bind fun t448 => (if t448 = true then (some true) else (some false))) else (some false)) = some r := h; clear h
 by_cases c3 : a0_0 = a1_0
 ·rw [if_pos c3] at H
  have c3b0 : (a0_0 == a1_0) = true := beq_iff_eq.mpr c3; have c3b1 : (a0_0 != a1_0) = false := bne_eq_false_iff_eq.mpr c3; clear c3; replace H := Option.bind_eq_some_iff.mp H; obtain ⟨t448, A40, H⟩ := H; (try dsimp -simprocs only at H); have A4 := am A40; clear A40
  by_cases c5 : t448 = true
  ·subst c5
   rw [if_pos rfl] at H; obtain rfl := Option.some.inj H
   go_enter Tryz.func15, Tryz.ntmps15
   go_wp2_with (first | ((with_reducible refine gate_dst (N := 2) rfl ?_); refine bE 2 #[.int .i64 a0_0, .slice A0_1 l0_1.length c0_1] 30 ?_; intro gb446 hg w6 hbox hb; have n0_ := Bb HB hb; have n1_ := am (hbox); have n2_ := Gl HB hg; have n3_ := Gl HB hg; clear HB; revert n0_ n1_ n2_ n3_; intro HB BK446 GW446 GE446; clear hb hbox hg) | ((with_reducible refine gate_dst (N := 3) rfl ?_); refine bE 3 #[.int .i64 a1_0, .slice A1_1 l1_1.length c1_1] 30 ?_; intro gb447 hg w7 hbox hb; have n0_ := Kb BK446 hb; have n1_ := Bc HB hb; have n2_ := am (hbox); have n3_ := Gm HB hg; have n4_ := Gm HB hg; have n5_ := Nl BK446 hg; have n6_ := Ng BK446 hg; clear BK446 HB; revert n0_ n1_ n2_ n3_ n4_ n5_ n6_; intro BK446 HB BK447 GW447 GE447 NB446_447 NB447_446; clear hb hbox hg; have hnb8 := NB446_447.out; have hnc8 := NB447_446.out; obtain ⟨hcz9_0, hcz9_1, hfz9_0, hfz9_1⟩ := cf2 (w := w7) BK446; obtain ⟨hcz10_0, hcz10_1, hfz10_0, hfz10_1⟩ := cf2 (w := w7) BK447) | ((with_reducible refine gate_callee (f := 27) rfl ?_); refine gL (some 14) Tryz.func27 #[.slice A0_1 l0_1.length c0_1, .slice A1_1 l1_1.length c1_1] ?_; (with_reducible refine (laws_eqIntS.calls k _ _ l0_1 _ _ l1_1 true _ ?side1 ?side2 ?side3 ?side4 A4.out).mono ?_); (case side1 => exact Cz (Kd.C_below HR0_1.out HB.out)); (case side2 => exact HC0_1.out); (case side3 => exact Cz (Kd.C_below HR1_1.out HB.out)); (case side4 => exact HC1_1.out); rintro e w' ⟨rfl, ⟨nd, rfl⟩⟩; refine ⟨_, rfl, ?_⟩))
   go_ret
   exact ⟨eZ, Bq⟩
  ·replace c5 := Bool.eq_false_iff.mpr c5
   subst c5
   rw [if_neg (show ¬ (false = true) by decide)] at H; obtain rfl := Option.some.inj H
   go_enter Tryz.func15, Tryz.ntmps15
   go_wp2_with (first | ((with_reducible refine gate_dst (N := 2) rfl ?_); refine bE 2 #[.int .i64 a0_0, .slice A0_1 l0_1.length c0_1] 30 ?_; intro gb446 hg w11 hbox hb; have n0_ := Bb HB hb; have n1_ := am (hbox); have n2_ := Gl HB hg; have n3_ := Gl HB hg; clear HB; revert n0_ n1_ n2_ n3_; intro HB BK446 GW446 GE446; clear hb hbox hg) | ((with_reducible refine gate_dst (N := 3) rfl ?_); refine bE 3 #[.int .i64 a1_0, .slice A1_1 l1_1.length c1_1] 30 ?_; intro gb447 hg w12 hbox hb; have n0_ := Kb BK446 hb; have n1_ := Bc HB hb; have n2_ := am (hbox); have n3_ := Gm HB hg; have n4_ := Gm HB hg; have n5_ := Nl BK446 hg; have n6_ := Ng BK446 hg; clear BK446 HB; revert n0_ n1_ n2_ n3_ n4_ n5_ n6_; intro BK446 HB BK447 GW447 GE447 NB446_447 NB447_446; clear hb hbox hg; have hnb13 := NB446_447.out; have hnc13 := NB447_446.out; obtain ⟨hcz14_0, hcz14_1, hfz14_0, hfz14_1⟩ := cf2 (w := w12) BK446; obtain ⟨hcz15_0, hcz15_1, hfz15_0, hfz15_1⟩ := cf2 (w := w12) BK447) | ((with_reducible refine gate_callee (f := 27) rfl ?_); refine gL (some 14) Tryz.func27 #[.slice A0_1 l0_1.length c0_1, .slice A1_1 l1_1.length c1_1] ?_; (with_reducible refine (laws_eqIntS.calls k _ _ l0_1 _ _ l1_1 false _ ?side1 ?side2 ?side3 ?side4 A4.out).mono ?_); (case side1 => exact Cz (Kd.C_below HR0_1.out HB.out)); (case side2 => exact HC0_1.out); (case side3 => exact Cz (Kd.C_below HR1_1.out HB.out)); (case side4 => exact HC1_1.out); rintro e w' ⟨rfl, ⟨nd, rfl⟩⟩; refine ⟨_, rfl, ?_⟩))
   go_ret
   exact ⟨eZ, Bq⟩
 ·rw [if_neg c3] at H
  have c3b0 : (a0_0 == a1_0) = false := beq_eq_false_iff_ne.mpr c3; have c3b1 : (a0_0 != a1_0) = true := bne_iff_ne.mpr c3; obtain rfl := Option.some.inj H
  go_enter Tryz.func15, Tryz.ntmps15
  go_wp2_with (first | ((with_reducible refine gate_dst (N := 2) rfl ?_); refine bE 2 #[.int .i64 a0_0, .slice A0_1 l0_1.length c0_1] 30 ?_; intro gb446 hg w16 hbox hb; have n0_ := Bb HB hb; have n1_ := am (hbox); have n2_ := Gl HB hg; have n3_ := Gl HB hg; clear HB; revert n0_ n1_ n2_ n3_; intro HB BK446 GW446 GE446; clear hb hbox hg) | ((with_reducible refine gate_dst (N := 3) rfl ?_); refine bE 3 #[.int .i64 a1_0, .slice A1_1 l1_1.length c1_1] 30 ?_; intro gb447 hg w17 hbox hb; have n0_ := Kb BK446 hb; have n1_ := Bc HB hb; have n2_ := am (hbox); have n3_ := Gm HB hg; have n4_ := Gm HB hg; have n5_ := Nl BK446 hg; have n6_ := Ng BK446 hg; clear BK446 HB; revert n0_ n1_ n2_ n3_ n4_ n5_ n6_; intro BK446 HB BK447 GW447 GE447 NB446_447 NB447_446; clear hb hbox hg; have hnb18 := NB446_447.out; have hnc18 := NB447_446.out; obtain ⟨hcz19_0, hcz19_1, hfz19_0, hfz19_1⟩ := cf2 (w := w17) BK446; obtain ⟨hcz20_0, hcz20_1, hfz20_0, hfz20_1⟩ := cf2 (w := w17) BK447))
  go_ret
  exact ⟨eZ, Bq⟩

def laws_eqTrie.f (k : Nat) (a0_0 : Int) (l0_1 : List Int) (a0_2 : Int) (l0_3 : List Int) (a0_4 : ByteArray) (a1_0 : Int) (l1_1 : List Int) (a1_2 : Int) (l1_3 : List Int) (a1_4 : ByteArray) : Option (Bool) := (laws_eqBits.f k a0_0 l0_1 a1_0 l1_1).bind fun t451 => (if t451 = true then ((laws_eqBits.f k a0_2 l0_3 a1_2 l1_3).bind fun t452 => (if t452 = true then (if a0_4.toList = a1_4.toList then (some true) else (some false)) else (some false))) else (some false))
theorem laws_eqTrie.mono : ∀ a0 a1 a2 a3 a4 a5 a6 a7 a8 a9 k, LeO (laws_eqTrie.f k a0 a1 a2 a3 a4 a5 a6 a7 a8 a9) (laws_eqTrie.f (k + 1) a0 a1 a2 a3 a4 a5 a6 a7 a8 a9) := by
 intro a0 a1 a2 a3 a4 a5 a6 a7 a8 a9 k
 unfold laws_eqTrie.f
 repeat' first | (with_reducible first | exact laws_eqBits.mono _ _ _ _ _ | exact LeO.refl _ | exact LeO.none _ | refine LeO.ite ?_ ?_ | refine LeO.bind ?_ (fun _ => ?_)) | exact LeO.none _ | refine LeO.ite ?_ ?_ | refine LeO.bind ?_ (fun _ => ?_)
theorem laws_eqTrie.calls (k : Nat) (a0_0 : Int) (A0_1 : Option Addr) (c0_1 : Nat) (l0_1 : List Int) (a0_2 : Int) (A0_3 : Option Addr) (c0_3 : Nat) (l0_3 : List Int) (a0_4 : ByteArray) (a1_0 : Int) (A1_1 : Option Addr) (c1_1 : Nat) (l1_1 : List Int) (a1_2 : Int) (A1_3 : Option Addr) (c1_3 : Nat) (l1_3 : List Int) (a1_4 : ByteArray) (r : Bool) (w : World) (hr0_1 : Kd.C (Kd.int .i64) w A0_1 l0_1.length l0_1) (hc0_1 : l0_1.length ≤ c0_1) (hr0_3 : Kd.C (Kd.int .i64) w A0_3 l0_3.length l0_3) (hc0_3 : l0_3.length ≤ c0_3) (hr1_1 : Kd.C (Kd.int .i64) w A1_1 l1_1.length l1_1) (hc1_1 : l1_1.length ≤ c1_1) (hr1_3 : Kd.C (Kd.int .i64) w A1_3 l1_3.length l1_3) (hc1_3 : l1_3.length ≤ c1_3) (h : laws_eqTrie.f k a0_0 l0_1 a0_2 l0_3 a0_4 a1_0 l1_1 a1_2 l1_3 a1_4 = some r) :
  Calls Tryz.prog 8 #[.agg #[.int .i64 a0_0, .slice A0_1 l0_1.length c0_1, .int .i64 a0_2, .slice A0_3 l0_3.length c0_3, .string a0_4], .agg #[.int .i64 a1_0, .slice A1_1 l1_1.length c1_1, .int .i64 a1_2, .slice A1_3 l1_3.length c1_3, .string a1_4]] w fun e w' => e = .returned (.bool r) ∧ Below w.heap.size w w' := by
 have hu32 := Tryz.underlying32; have hu30 := Tryz.underlying30; have HR0_1 := am hr0_1; have HC0_1 := am hc0_1; clear hr0_1 hc0_1; have HR0_3 := am hr0_3; have HC0_3 := am hc0_3; clear hr0_3 hc0_3; have HR1_1 := am hr1_1; have HC1_1 := am hc1_1; clear hr1_1 hc1_1; have HR1_3 := am hr1_3; have HC1_3 := am hc1_3; clear hr1_3 hc1_3; have HB := am (Below.refl w.heap.size w); have H : ((laws_eqBits.f k a0_0 l0_1 a1_0 l1_1).bind fun t451 => (if t451 = true then ((laws_eqBits.f k a0_2 l0_3 a1_2 l1_3).bind fun t452 => (if t452 = true then (if a0_4.toList = a1_4.toList then (some true) else (some false)) else (some false))) else (some false))) = some r := h; clear h; replace H := Option.bind_eq_some_iff.mp H; obtain ⟨t451, A30, H⟩ := H; (try dsimp -simprocs only at H); have A3 := am A30; clear A30
 by_cases c4 : t451 = true
 ·subst c4
  rw [if_pos rfl] at H; replace H := Option.bind_eq_some_iff.mp H; obtain ⟨t452, A50, H⟩ := H; (try dsimp -simprocs only at H); have A5 := am A50; clear A50
  by_cases c6 : t452 = true
  ·subst c6
   rw [if_pos rfl] at H
   by_cases c7 : a0_4.toList = a1_4.toList
   ·rw [if_pos c7] at H
    have c7b0 : (a0_4.toList == a1_4.toList) = true := beq_iff_eq.mpr c7; have c7b1 : (a0_4.toList != a1_4.toList) = false := bne_eq_false_iff_eq.mpr c7; clear c7; obtain rfl := Option.some.inj H
    go_enter Tryz.func8, Tryz.ntmps8
    go_wp2_with (first | ((with_reducible refine gate_dst (N := 2) rfl ?_); refine bE 2 #[.int .i64 a0_0, .slice A0_1 l0_1.length c0_1, .int .i64 a0_2, .slice A0_3 l0_3.length c0_3, .string a0_4] 32 ?_; intro gb449 hg w8 hbox hb; have n0_ := Bb HB hb; have n1_ := am (hbox); have n2_ := Gl HB hg; have n3_ := Gl HB hg; clear HB; revert n0_ n1_ n2_ n3_; intro HB BK449 GW449 GE449; clear hb hbox hg) | ((with_reducible refine gate_dst (N := 3) rfl ?_); refine bE 3 #[.int .i64 a1_0, .slice A1_1 l1_1.length c1_1, .int .i64 a1_2, .slice A1_3 l1_3.length c1_3, .string a1_4] 32 ?_; intro gb450 hg w9 hbox hb; have n0_ := Kb BK449 hb; have n1_ := Bc HB hb; have n2_ := am (hbox); have n3_ := Gm HB hg; have n4_ := Gm HB hg; have n5_ := Nl BK449 hg; have n6_ := Ng BK449 hg; clear BK449 HB; revert n0_ n1_ n2_ n3_ n4_ n5_ n6_; intro BK449 HB BK450 GW450 GE450 NB449_450 NB450_449; clear hb hbox hg; have hnb10 := NB449_450.out; have hnc10 := NB450_449.out; obtain ⟨hcz11_0, hcz11_1, hcz11_2, hcz11_3, hcz11_4, hfz11_0, hfz11_1, hfz11_2, hfz11_3, hfz11_4⟩ := cf5 (w := w9) BK449; obtain ⟨hcz12_0, hcz12_1, hcz12_2, hcz12_3, hcz12_4, hfz12_0, hfz12_1, hfz12_2, hfz12_3, hfz12_4⟩ := cf5 (w := w9) BK450) | ((with_reducible refine gate_callee (f := 15) rfl ?_); refine gL (some 9) Tryz.func15 #[.agg #[.int .i64 a0_0, .slice A0_1 l0_1.length c0_1], .agg #[.int .i64 a1_0, .slice A1_1 l1_1.length c1_1]] ?_; (with_reducible refine (laws_eqBits.calls k a0_0 _ _ l0_1 a1_0 _ _ l1_1 true _ ?side1 ?side2 ?side3 ?side4 A3.out).mono ?_); (case side1 => exact Cz (Kd.C_below HR0_1.out HB.out)); (case side2 => exact HC0_1.out); (case side3 => exact Cz (Kd.C_below HR1_1.out HB.out)); (case side4 => exact HC1_1.out); rintro e w13 ⟨rfl, hb⟩; refine ⟨_, rfl, ?_⟩; have n0_ := Kb BK449 hb; have n1_ := Kb BK450 hb; have n2_ := Bc HB hb; clear BK449 BK450 HB; revert n0_ n1_ n2_; intro BK449 BK450 HB; (try clear hb); (try clear hb2); (try clear hk); (try clear hi); obtain ⟨hcz14_0, hcz14_1, hcz14_2, hcz14_3, hcz14_4, hfz14_0, hfz14_1, hfz14_2, hfz14_3, hfz14_4⟩ := cf5 (w := w13) BK449; obtain ⟨hcz15_0, hcz15_1, hcz15_2, hcz15_3, hcz15_4, hfz15_0, hfz15_1, hfz15_2, hfz15_3, hfz15_4⟩ := cf5 (w := w13) BK450) | ((with_reducible refine gate_callee (f := 15) rfl ?_); refine gL (some 15) Tryz.func15 #[.agg #[.int .i64 a0_2, .slice A0_3 l0_3.length c0_3], .agg #[.int .i64 a1_2, .slice A1_3 l1_3.length c1_3]] ?_; (with_reducible refine (laws_eqBits.calls k a0_2 _ _ l0_3 a1_2 _ _ l1_3 true _ ?side1 ?side2 ?side3 ?side4 A5.out).mono ?_); (case side1 => exact Cz (Kd.C_below HR0_3.out HB.out)); (case side2 => exact HC0_3.out); (case side3 => exact Cz (Kd.C_below HR1_3.out HB.out)); (case side4 => exact HC1_3.out); rintro e w16 ⟨rfl, hb⟩; refine ⟨_, rfl, ?_⟩; have n0_ := Kb BK449 hb; have n1_ := Kb BK450 hb; have n2_ := Bc HB hb; clear BK449 BK450 HB; revert n0_ n1_ n2_; intro BK449 BK450 HB; (try clear hb); (try clear hb2); (try clear hk); (try clear hi); obtain ⟨hcz17_0, hcz17_1, hcz17_2, hcz17_3, hcz17_4, hfz17_0, hfz17_1, hfz17_2, hfz17_3, hfz17_4⟩ := cf5 (w := w16) BK449; obtain ⟨hcz18_0, hcz18_1, hcz18_2, hcz18_3, hcz18_4, hfz18_0, hfz18_1, hfz18_2, hfz18_3, hfz18_4⟩ := cf5 (w := w16) BK450))
    go_ret
    exact ⟨eZ, Bq⟩
   ·rw [if_neg c7] at H
    have c7b0 : (a0_4.toList == a1_4.toList) = false := beq_eq_false_iff_ne.mpr c7; have c7b1 : (a0_4.toList != a1_4.toList) = true := bne_iff_ne.mpr c7; obtain rfl := Option.some.inj H
    go_enter Tryz.func8, Tryz.ntmps8
    go_wp2_with (first | ((with_reducible refine gate_dst (N := 2) rfl ?_); refine bE 2 #[.int .i64 a0_0, .slice A0_1 l0_1.length c0_1, .int .i64 a0_2, .slice A0_3 l0_3.length c0_3, .string a0_4] 32 ?_; intro gb449 hg w19 hbox hb; have n0_ := Bb HB hb; have n1_ := am (hbox); have n2_ := Gl HB hg; have n3_ := Gl HB hg; clear HB; revert n0_ n1_ n2_ n3_; intro HB BK449 GW449 GE449; clear hb hbox hg) | ((with_reducible refine gate_dst (N := 3) rfl ?_); refine bE 3 #[.int .i64 a1_0, .slice A1_1 l1_1.length c1_1, .int .i64 a1_2, .slice A1_3 l1_3.length c1_3, .string a1_4] 32 ?_; intro gb450 hg w20 hbox hb; have n0_ := Kb BK449 hb; have n1_ := Bc HB hb; have n2_ := am (hbox); have n3_ := Gm HB hg; have n4_ := Gm HB hg; have n5_ := Nl BK449 hg; have n6_ := Ng BK449 hg; clear BK449 HB; revert n0_ n1_ n2_ n3_ n4_ n5_ n6_; intro BK449 HB BK450 GW450 GE450 NB449_450 NB450_449; clear hb hbox hg; have hnb21 := NB449_450.out; have hnc21 := NB450_449.out; obtain ⟨hcz22_0, hcz22_1, hcz22_2, hcz22_3, hcz22_4, hfz22_0, hfz22_1, hfz22_2, hfz22_3, hfz22_4⟩ := cf5 (w := w20) BK449; obtain ⟨hcz23_0, hcz23_1, hcz23_2, hcz23_3, hcz23_4, hfz23_0, hfz23_1, hfz23_2, hfz23_3, hfz23_4⟩ := cf5 (w := w20) BK450) | ((with_reducible refine gate_callee (f := 15) rfl ?_); refine gL (some 9) Tryz.func15 #[.agg #[.int .i64 a0_0, .slice A0_1 l0_1.length c0_1], .agg #[.int .i64 a1_0, .slice A1_1 l1_1.length c1_1]] ?_; (with_reducible refine (laws_eqBits.calls k a0_0 _ _ l0_1 a1_0 _ _ l1_1 true _ ?side1 ?side2 ?side3 ?side4 A3.out).mono ?_); (case side1 => exact Cz (Kd.C_below HR0_1.out HB.out)); (case side2 => exact HC0_1.out); (case side3 => exact Cz (Kd.C_below HR1_1.out HB.out)); (case side4 => exact HC1_1.out); rintro e w24 ⟨rfl, hb⟩; refine ⟨_, rfl, ?_⟩; have n0_ := Kb BK449 hb; have n1_ := Kb BK450 hb; have n2_ := Bc HB hb; clear BK449 BK450 HB; revert n0_ n1_ n2_; intro BK449 BK450 HB; (try clear hb); (try clear hb2); (try clear hk); (try clear hi); obtain ⟨hcz25_0, hcz25_1, hcz25_2, hcz25_3, hcz25_4, hfz25_0, hfz25_1, hfz25_2, hfz25_3, hfz25_4⟩ := cf5 (w := w24) BK449; obtain ⟨hcz26_0, hcz26_1, hcz26_2, hcz26_3, hcz26_4, hfz26_0, hfz26_1, hfz26_2, hfz26_3, hfz26_4⟩ := cf5 (w := w24) BK450) | ((with_reducible refine gate_callee (f := 15) rfl ?_); refine gL (some 15) Tryz.func15 #[.agg #[.int .i64 a0_2, .slice A0_3 l0_3.length c0_3], .agg #[.int .i64 a1_2, .slice A1_3 l1_3.length c1_3]] ?_; (with_reducible refine (laws_eqBits.calls k a0_2 _ _ l0_3 a1_2 _ _ l1_3 true _ ?side1 ?side2 ?side3 ?side4 A5.out).mono ?_); (case side1 => exact Cz (Kd.C_below HR0_3.out HB.out)); (case side2 => exact HC0_3.out); (case side3 => exact Cz (Kd.C_below HR1_3.out HB.out)); (case side4 => exact HC1_3.out); rintro e w27 ⟨rfl, hb⟩; refine ⟨_, rfl, ?_⟩; have n0_ := Kb BK449 hb; have n1_ := Kb BK450 hb; have n2_ := Bc HB hb; clear BK449 BK450 HB; revert n0_ n1_ n2_; intro BK449 BK450 HB; (try clear hb); (try clear hb2); (try clear hk); (try clear hi); obtain ⟨hcz28_0, hcz28_1, hcz28_2, hcz28_3, hcz28_4, hfz28_0, hfz28_1, hfz28_2, hfz28_3, hfz28_4⟩ := cf5 (w := w27) BK449; obtain ⟨hcz29_0, hcz29_1, hcz29_2, hcz29_3, hcz29_4, hfz29_0, hfz29_1, hfz29_2, hfz29_3, hfz29_4⟩ := cf5 (w := w27) BK450))
    go_ret
    exact ⟨eZ, Bq⟩
  ·replace c6 := Bool.eq_false_iff.mpr c6
   subst c6
   rw [if_neg (show ¬ (false = true) by decide)] at H; obtain rfl := Option.some.inj H
   go_enter Tryz.func8, Tryz.ntmps8
   go_wp2_with (first | ((with_reducible refine gate_dst (N := 2) rfl ?_); refine bE 2 #[.int .i64 a0_0, .slice A0_1 l0_1.length c0_1, .int .i64 a0_2, .slice A0_3 l0_3.length c0_3, .string a0_4] 32 ?_; intro gb449 hg w30 hbox hb; have n0_ := Bb HB hb; have n1_ := am (hbox); have n2_ := Gl HB hg; have n3_ := Gl HB hg; clear HB; revert n0_ n1_ n2_ n3_; intro HB BK449 GW449 GE449; clear hb hbox hg) | ((with_reducible refine gate_dst (N := 3) rfl ?_); refine bE 3 #[.int .i64 a1_0, .slice A1_1 l1_1.length c1_1, .int .i64 a1_2, .slice A1_3 l1_3.length c1_3, .string a1_4] 32 ?_; intro gb450 hg w31 hbox hb; have n0_ := Kb BK449 hb; have n1_ := Bc HB hb; have n2_ := am (hbox); have n3_ := Gm HB hg; have n4_ := Gm HB hg; have n5_ := Nl BK449 hg; have n6_ := Ng BK449 hg; clear BK449 HB; revert n0_ n1_ n2_ n3_ n4_ n5_ n6_; intro BK449 HB BK450 GW450 GE450 NB449_450 NB450_449; clear hb hbox hg; have hnb32 := NB449_450.out; have hnc32 := NB450_449.out; obtain ⟨hcz33_0, hcz33_1, hcz33_2, hcz33_3, hcz33_4, hfz33_0, hfz33_1, hfz33_2, hfz33_3, hfz33_4⟩ := cf5 (w := w31) BK449; obtain ⟨hcz34_0, hcz34_1, hcz34_2, hcz34_3, hcz34_4, hfz34_0, hfz34_1, hfz34_2, hfz34_3, hfz34_4⟩ := cf5 (w := w31) BK450) | ((with_reducible refine gate_callee (f := 15) rfl ?_); refine gL (some 9) Tryz.func15 #[.agg #[.int .i64 a0_0, .slice A0_1 l0_1.length c0_1], .agg #[.int .i64 a1_0, .slice A1_1 l1_1.length c1_1]] ?_; (with_reducible refine (laws_eqBits.calls k a0_0 _ _ l0_1 a1_0 _ _ l1_1 true _ ?side1 ?side2 ?side3 ?side4 A3.out).mono ?_); (case side1 => exact Cz (Kd.C_below HR0_1.out HB.out)); (case side2 => exact HC0_1.out); (case side3 => exact Cz (Kd.C_below HR1_1.out HB.out)); (case side4 => exact HC1_1.out); rintro e w35 ⟨rfl, hb⟩; refine ⟨_, rfl, ?_⟩; have n0_ := Kb BK449 hb; have n1_ := Kb BK450 hb; have n2_ := Bc HB hb; clear BK449 BK450 HB; revert n0_ n1_ n2_; intro BK449 BK450 HB; (try clear hb); (try clear hb2); (try clear hk); (try clear hi); obtain ⟨hcz36_0, hcz36_1, hcz36_2, hcz36_3, hcz36_4, hfz36_0, hfz36_1, hfz36_2, hfz36_3, hfz36_4⟩ := cf5 (w := w35) BK449; obtain ⟨hcz37_0, hcz37_1, hcz37_2, hcz37_3, hcz37_4, hfz37_0, hfz37_1, hfz37_2, hfz37_3, hfz37_4⟩ := cf5 (w := w35) BK450) | ((with_reducible refine gate_callee (f := 15) rfl ?_); refine gL (some 15) Tryz.func15 #[.agg #[.int .i64 a0_2, .slice A0_3 l0_3.length c0_3], .agg #[.int .i64 a1_2, .slice A1_3 l1_3.length c1_3]] ?_; (with_reducible refine (laws_eqBits.calls k a0_2 _ _ l0_3 a1_2 _ _ l1_3 false _ ?side1 ?side2 ?side3 ?side4 A5.out).mono ?_); (case side1 => exact Cz (Kd.C_below HR0_3.out HB.out)); (case side2 => exact HC0_3.out); (case side3 => exact Cz (Kd.C_below HR1_3.out HB.out)); (case side4 => exact HC1_3.out); rintro e w38 ⟨rfl, hb⟩; refine ⟨_, rfl, ?_⟩; have n0_ := Kb BK449 hb; have n1_ := Kb BK450 hb; have n2_ := Bc HB hb; clear BK449 BK450 HB; revert n0_ n1_ n2_; intro BK449 BK450 HB; (try clear hb); (try clear hb2); (try clear hk); (try clear hi)))
   go_ret
   exact ⟨eZ, Bq⟩
 ·replace c4 := Bool.eq_false_iff.mpr c4
  subst c4
  rw [if_neg (show ¬ (false = true) by decide)] at H; obtain rfl := Option.some.inj H
  go_enter Tryz.func8, Tryz.ntmps8
  go_wp2_with (first | ((with_reducible refine gate_dst (N := 2) rfl ?_); refine bE 2 #[.int .i64 a0_0, .slice A0_1 l0_1.length c0_1, .int .i64 a0_2, .slice A0_3 l0_3.length c0_3, .string a0_4] 32 ?_; intro gb449 hg w39 hbox hb; have n0_ := Bb HB hb; have n1_ := am (hbox); have n2_ := Gl HB hg; have n3_ := Gl HB hg; clear HB; revert n0_ n1_ n2_ n3_; intro HB BK449 GW449 GE449; clear hb hbox hg) | ((with_reducible refine gate_dst (N := 3) rfl ?_); refine bE 3 #[.int .i64 a1_0, .slice A1_1 l1_1.length c1_1, .int .i64 a1_2, .slice A1_3 l1_3.length c1_3, .string a1_4] 32 ?_; intro gb450 hg w40 hbox hb; have n0_ := Kb BK449 hb; have n1_ := Bc HB hb; have n2_ := am (hbox); have n3_ := Gm HB hg; have n4_ := Gm HB hg; have n5_ := Nl BK449 hg; have n6_ := Ng BK449 hg; clear BK449 HB; revert n0_ n1_ n2_ n3_ n4_ n5_ n6_; intro BK449 HB BK450 GW450 GE450 NB449_450 NB450_449; clear hb hbox hg; have hnb41 := NB449_450.out; have hnc41 := NB450_449.out; obtain ⟨hcz42_0, hcz42_1, hcz42_2, hcz42_3, hcz42_4, hfz42_0, hfz42_1, hfz42_2, hfz42_3, hfz42_4⟩ := cf5 (w := w40) BK449; obtain ⟨hcz43_0, hcz43_1, hcz43_2, hcz43_3, hcz43_4, hfz43_0, hfz43_1, hfz43_2, hfz43_3, hfz43_4⟩ := cf5 (w := w40) BK450) | ((with_reducible refine gate_callee (f := 15) rfl ?_); refine gL (some 9) Tryz.func15 #[.agg #[.int .i64 a0_0, .slice A0_1 l0_1.length c0_1], .agg #[.int .i64 a1_0, .slice A1_1 l1_1.length c1_1]] ?_; (with_reducible refine (laws_eqBits.calls k a0_0 _ _ l0_1 a1_0 _ _ l1_1 false _ ?side1 ?side2 ?side3 ?side4 A3.out).mono ?_); (case side1 => exact Cz (Kd.C_below HR0_1.out HB.out)); (case side2 => exact HC0_1.out); (case side3 => exact Cz (Kd.C_below HR1_1.out HB.out)); (case side4 => exact HC1_1.out); rintro e w44 ⟨rfl, hb⟩; refine ⟨_, rfl, ?_⟩; have n0_ := Kb BK449 hb; have n1_ := Kb BK450 hb; have n2_ := Bc HB hb; clear BK449 BK450 HB; revert n0_ n1_ n2_; intro BK449 BK450 HB; (try clear hb); (try clear hb2); (try clear hk); (try clear hi)))
  go_ret
  exact ⟨eZ, Bq⟩

def laws_FnExactFindNode.j0 : Nat → Bool → Int → List Int → Int → List Int → ByteArray → Int → List Int → Int → List Int → ByteArray → Option (Bool)
 | 0, _, _, _, _, _, _, _, _, _, _, _ => none
 | k + 1, x41, x454000, x454001, x454002, x454003, x454004, x476000, x476001, x476002, x476003, x476004 => if x41 = true then (some false) else ((laws_toTrie.f k x454000 x454001 x454002 x454003 x454004).bind fun bt478 => ((laws_eqTrie.f k x476000 x476001 x476002 x476003 x476004 bt478.1 bt478.2.1 bt478.2.2.1 bt478.2.2.2.1 bt478.2.2.2.2).bind fun t487 => (if t487 = true then (some true) else (some false))))
def laws_FnExactFindNode.f (k : Nat) (a0_0 : Int) (l0_1 : List Int) (a0_2 : Int) (l0_3 : List Int) (a0_4 : ByteArray) (a1 : ByteArray) : Option (Bool) := if (a1.size : Int) > 1048576 then (some true) else ((laws_szTrie.f a0_0 l0_1 a0_2 l0_3 a0_4 1048576).bind fun t454 => (if t454 < 0 then (some true) else ((laws_toTrie.f k a0_0 l0_1 a0_2 l0_3 a0_4).bind fun bt455 => ((spec_FindNode.f k bt455.1 bt455.2.1 bt455.2.2.1 bt455.2.2.2.1 bt455.2.2.2.2 a1).bind fun bt464 => ((laws_toTrie.f k a0_0 l0_1 a0_2 l0_3 a0_4).bind fun bt466 => ((impl_FindNode.f k bt466.1 bt466.2.1 bt466.2.2.1 bt466.2.2.2.1 bt466.2.2.2.2 a1).bind fun bt476 => (if bt476.1 = bt464.1 then (laws_FnExactFindNode.j0 k (bt476.2 != bt464.2) a0_0 l0_1 a0_2 l0_3 a0_4 bt466.1 bt466.2.1 bt466.2.2.1 bt466.2.2.2.1 bt466.2.2.2.2) else (laws_FnExactFindNode.j0 k true a0_0 l0_1 a0_2 l0_3 a0_4 bt466.1 bt466.2.1 bt466.2.2.1 bt466.2.2.2.1 bt466.2.2.2.2))))))))
theorem laws_FnExactFindNode.mono_l : ∀ k, (∀ y0 y1 y2 y3 y4 y5 y6 y7 y8 y9 y10, LeO (laws_FnExactFindNode.j0 k y0 y1 y2 y3 y4 y5 y6 y7 y8 y9 y10) (laws_FnExactFindNode.j0 (k + 1) y0 y1 y2 y3 y4 y5 y6 y7 y8 y9 y10))
 | 0 => fun _ _ _ _ _ _ _ _ _ _ _ r h => by simp [laws_FnExactFindNode.j0] at h
 | k + 1 => by
  have ih0 := laws_FnExactFindNode.mono_l k
  ·intro y0 y1 y2 y3 y4 y5 y6 y7 y8 y9 y10
   unfold laws_FnExactFindNode.j0
   repeat' first | (with_reducible first | exact ih0 _ _ _ _ _ _ _ _ _ _ _ | exact impl_FindNode.mono _ _ _ _ _ _ _ | exact laws_eqTrie.mono _ _ _ _ _ _ _ _ _ _ _ | exact laws_toTrie.mono _ _ _ _ _ _ | exact spec_FindNode.mono _ _ _ _ _ _ _ | exact LeO.refl _ | exact LeO.none _ | refine LeO.ite ?_ ?_ | refine LeO.bind ?_ (fun _ => ?_)) | exact LeO.none _ | refine LeO.ite ?_ ?_ | refine LeO.bind ?_ (fun _ => ?_)
theorem laws_FnExactFindNode.mono : ∀ a0 a1 a2 a3 a4 a5 k, LeO (laws_FnExactFindNode.f k a0 a1 a2 a3 a4 a5) (laws_FnExactFindNode.f (k + 1) a0 a1 a2 a3 a4 a5) := by
 intro a0 a1 a2 a3 a4 a5 k; have ih0 := laws_FnExactFindNode.mono_l k
 unfold laws_FnExactFindNode.f
 repeat' first | (with_reducible first | exact ih0 _ _ _ _ _ _ _ _ _ _ _ | exact impl_FindNode.mono _ _ _ _ _ _ _ | exact laws_eqTrie.mono _ _ _ _ _ _ _ _ _ _ _ | exact laws_toTrie.mono _ _ _ _ _ _ | exact spec_FindNode.mono _ _ _ _ _ _ _ | exact LeO.refl _ | exact LeO.none _ | refine LeO.ite ?_ ?_ | refine LeO.bind ?_ (fun _ => ?_)) | exact LeO.none _ | refine LeO.ite ?_ ?_ | refine LeO.bind ?_ (fun _ => ?_)
theorem laws_FnExactFindNode.calls (k : Nat) (a0_0 : Int) (A0_1 : Option Addr) (c0_1 : Nat) (l0_1 : List Int) (a0_2 : Int) (A0_3 : Option Addr) (c0_3 : Nat) (l0_3 : List Int) (a0_4 : ByteArray) (a1 : ByteArray) (r : Bool) (w : World) (hr0_1 : Kd.C (Kd.int .i64) w A0_1 l0_1.length l0_1) (hc0_1 : l0_1.length ≤ c0_1) (hr0_3 : Kd.C (Kd.int .i64) w A0_3 l0_3.length l0_3) (hc0_3 : l0_3.length ≤ c0_3) (h : laws_FnExactFindNode.f k a0_0 l0_1 a0_2 l0_3 a0_4 a1 = some r) :
  Calls Tryz.prog 3 #[.agg #[.int .i64 a0_0, .slice A0_1 l0_1.length c0_1, .int .i64 a0_2, .slice A0_3 l0_3.length c0_3, .string a0_4], .string a1] w fun e w' => e = .returned (.bool r) ∧ Below w.heap.size w w' := by
 have hu26 := Tryz.underlying26; have hu32 := Tryz.underlying32; have HR0_1 := am hr0_1; have HC0_1 := am hc0_1; clear hr0_1 hc0_1; have HR0_3 := am hr0_3; have HC0_3 := am hc0_3; clear hr0_3 hc0_3; have HB := am (Below.refl w.heap.size w); have H : (if (a1.size : Int) > 1048576 then (some true) else ((laws_szTrie.f a0_0 l0_1 a0_2 l0_3 a0_4 1048576).bind fun t454 => (if t454 < 0 then (some true) else ((laws_toTrie.f k a0_0 l0_1 a0_2 l0_3 a0_4).bind fun bt455 => ((spec_FindNode.f k bt455.1 bt455.2.1 bt455.2.2.1 bt455.2.2.2.1 bt455.2.2.2.2 a1).bind fun bt464 => ((laws_toTrie.f k a0_0 l0_1 a0_2 l0_3 a0_4).bind fun bt466 => ((impl_FindNode.f k bt466.1 bt466.2.1 bt466.2.2.1 bt466.2.2.2.1 bt466.2.2.2.2 a1).bind fun bt476 => (if bt476.1 = bt464.1 then (laws_FnExactFindNode.j0 k (bt476.2 != bt464.2) a0_0 l0_1 a0_2 l0_3 a0_4 bt466.1 bt466.2.1 bt466.2.2.1 bt466.2.2.2.1 bt466.2.2.2.2) else (laws_FnExactFindNode.j0 k true a0_0 l0_1 a0_2 l0_3 a0_4 bt466.1 bt466.2.1 bt466.2.2.1 bt466.2.2.2.1 bt466.2.2.2.2))))))))) = some r := h; clear h
 by_cases c3 : (a1.size : Int) > 1048576
 ·rw [if_pos c3] at H
  have c3b0 : decide (1048576 < (a1.size : Int)) = true := decide_eq_true c3; have c3b1 : decide (1048576 < a1.size) = true := decide_eq_true (by omega); clear c3; obtain rfl := Option.some.inj H
  go_enter Tryz.func3, Tryz.ntmps3
  go_wp2_with (first | ((with_reducible refine gate_dst (N := 2) rfl ?_); refine bE 2 #[.int .i64 a0_0, .slice A0_1 l0_1.length c0_1, .int .i64 a0_2, .slice A0_3 l0_3.length c0_3, .string a0_4] 26 ?_; intro gb453 hg w4 hbox hb; have n0_ := Bb HB hb; have n1_ := am (hbox); have n2_ := Gl HB hg; have n3_ := Gl HB hg; clear HB; revert n0_ n1_ n2_ n3_; intro HB BK453 GW453 GE453; clear hb hbox hg))
  go_ret
  exact ⟨eZ, Bq⟩
 ·rw [if_neg c3] at H
  have c3b0 : decide (1048576 < (a1.size : Int)) = false := decide_eq_false c3; have c3b1 : decide (1048576 < a1.size) = false := decide_eq_false (by omega); clear c3; replace H := Option.bind_eq_some_iff.mp H; obtain ⟨t454, A50, H⟩ := H; (try dsimp -simprocs only at H); have A5 := am A50; clear A50
  by_cases c6 : t454 < 0
  ·rw [if_pos c6] at H
   have c6b0 : decide (t454 < 0) = true := decide_eq_true c6; clear c6; obtain rfl := Option.some.inj H
   go_enter Tryz.func3, Tryz.ntmps3
   go_wp2_with (first | ((with_reducible refine gate_dst (N := 2) rfl ?_); refine bE 2 #[.int .i64 a0_0, .slice A0_1 l0_1.length c0_1, .int .i64 a0_2, .slice A0_3 l0_3.length c0_3, .string a0_4] 26 ?_; intro gb453 hg w7 hbox hb; have n0_ := Bb HB hb; have n1_ := am (hbox); have n2_ := Gl HB hg; have n3_ := Gl HB hg; clear HB; revert n0_ n1_ n2_ n3_; intro HB BK453 GW453 GE453; clear hb hbox hg; obtain ⟨hcz8_0, hcz8_1, hcz8_2, hcz8_3, hcz8_4, hfz8_0, hfz8_1, hfz8_2, hfz8_3, hfz8_4⟩ := cf5 (w := w7) BK453) | ((with_reducible refine gate_callee (f := 4) rfl ?_); refine gL (some 16) Tryz.func4 #[.agg #[.int .i64 a0_0, .slice A0_1 l0_1.length c0_1, .int .i64 a0_2, .slice A0_3 l0_3.length c0_3, .string a0_4], .int .i64 1048576] ?_; (with_reducible refine (laws_szTrie.calls a0_0 _ _ l0_1 a0_2 _ _ l0_3 a0_4 1048576 t454 _ ?side1 ?side2 ?side3 ?side4 A5.out).mono ?_); (case side1 => exact Cz (Kd.C_below HR0_1.out HB.out)); (case side2 => exact HC0_1.out); (case side3 => exact Cz (Kd.C_below HR0_3.out HB.out)); (case side4 => exact HC0_3.out); rintro e w9 ⟨rfl, hb⟩; refine ⟨_, rfl, ?_⟩; have n0_ := Kb BK453 hb; have n1_ := Bc HB hb; clear BK453 HB; revert n0_ n1_; intro BK453 HB; (try clear hb); (try clear hb2); (try clear hk); (try clear hi)))
   go_ret
   exact ⟨eZ, Bq⟩
  ·rw [if_neg c6] at H
   have c6b0 : decide (t454 < 0) = false := decide_eq_false c6; clear c6; replace H := Option.bind_eq_some_iff.mp H; obtain ⟨⟨t455, t456, t459, t460, t463⟩, A100, H⟩ := H; (try dsimp -simprocs only at H); have A10 := am A100; clear A100; replace H := Option.bind_eq_some_iff.mp H; obtain ⟨⟨t464, t465⟩, A110, H⟩ := H; (try dsimp -simprocs only at H); have A11 := am A110; clear A110; replace H := Option.bind_eq_some_iff.mp H; obtain ⟨⟨t466, t467, t470, t471, t474⟩, A120, H⟩ := H; (try dsimp -simprocs only at H); have A12 := am A120; clear A120; replace H := Option.bind_eq_some_iff.mp H; obtain ⟨⟨t476, t477⟩, A130, H⟩ := H; (try dsimp -simprocs only at H); have A13 := am A130; clear A130; have HC14 := am H; clear H
   go_enter Tryz.func3, Tryz.ntmps3
   go_upto_region 10 with (first | ((with_reducible refine gate_dst (N := 2) rfl ?_); refine bE 2 #[.int .i64 a0_0, .slice A0_1 l0_1.length c0_1, .int .i64 a0_2, .slice A0_3 l0_3.length c0_3, .string a0_4] 26 ?_; intro gb453 hg w15 hbox hb; have n0_ := Bb HB hb; have n1_ := am (hbox); have n2_ := Gl HB hg; have n3_ := Gl HB hg; clear HB; revert n0_ n1_ n2_ n3_; intro HB BK453 GW453 GE453; clear hb hbox hg; obtain ⟨hcz16_0, hcz16_1, hcz16_2, hcz16_3, hcz16_4, hfz16_0, hfz16_1, hfz16_2, hfz16_3, hfz16_4⟩ := cf5 (w := w15) BK453) | ((with_reducible refine gate_callee (f := 4) rfl ?_); refine gL (some 16) Tryz.func4 #[.agg #[.int .i64 a0_0, .slice A0_1 l0_1.length c0_1, .int .i64 a0_2, .slice A0_3 l0_3.length c0_3, .string a0_4], .int .i64 1048576] ?_; (with_reducible refine (laws_szTrie.calls a0_0 _ _ l0_1 a0_2 _ _ l0_3 a0_4 1048576 t454 _ ?side1 ?side2 ?side3 ?side4 A5.out).mono ?_); (case side1 => exact Cz (Kd.C_below HR0_1.out HB.out)); (case side2 => exact HC0_1.out); (case side3 => exact Cz (Kd.C_below HR0_3.out HB.out)); (case side4 => exact HC0_3.out); rintro e w17 ⟨rfl, hb⟩; refine ⟨_, rfl, ?_⟩; have n0_ := Kb BK453 hb; have n1_ := Bc HB hb; clear BK453 HB; revert n0_ n1_; intro BK453 HB; (try clear hb); (try clear hb2); (try clear hk); (try clear hi); obtain ⟨hcz18_0, hcz18_1, hcz18_2, hcz18_3, hcz18_4, hfz18_0, hfz18_1, hfz18_2, hfz18_3, hfz18_4⟩ := cf5 (w := w17) BK453) | ((with_reducible refine gate_callee (f := 6) rfl ?_); refine gL (some 21) Tryz.func6 #[.agg #[.int .i64 a0_0, .slice A0_1 l0_1.length c0_1, .int .i64 a0_2, .slice A0_3 l0_3.length c0_3, .string a0_4]] ?_; (with_reducible refine (laws_toTrie.calls k a0_0 _ _ l0_1 a0_2 _ _ l0_3 a0_4 t455 t456 t459 t460 t463 _ ?side1 ?side2 ?side3 ?side4 A10.out).mono ?_); (case side1 => exact Cz (Kd.C_below HR0_1.out HB.out)); (case side2 => exact HC0_1.out); (case side3 => exact Cz (Kd.C_below HR0_3.out HB.out)); (case side4 => exact HC0_3.out); rintro e w19 ⟨v457, v461, rfl, ho0, ho1, hb⟩; refine ⟨_, rfl, ?_⟩; have n0_ := Rm ho0 HB; have n1_ := Rm ho1 HB; have n2_ := Kb BK453 hb; have n3_ := Bc HB hb; clear BK453 HB; revert n0_ n1_ n2_ n3_; intro HO458 HO462 BK453 HB; (try clear hb); (try clear hb2); (try clear hk); (try clear hi); (try clear ho0); (try clear ho1); obtain ⟨Ao20, co20, eo20⟩ := Kd.R_slice HO458.out; subst eo20; obtain ⟨Ao21, co21, eo21⟩ := Kd.R_slice HO462.out; subst eo21) | ((with_reducible refine gate_callee (f := 5) rfl ?_); refine gL (some 23) Tryz.func5 #[.agg #[.int .i64 t455, .slice Ao20 t456.length co20, .int .i64 t459, .slice Ao21 t460.length co21, .string t463], .string a1] ?_; (with_reducible refine (spec_FindNode.calls k t455 _ _ t456 t459 _ _ t460 t463 a1 t464 t465 _ ?side1 ?side2 ?side3 ?side4 A11.out).mono ?_); (case side1 => exact Cz ((Kd.R_reads' HO458.out).2.2)); (case side2 => exact (Kd.R_reads' HO458.out).2.1); (case side3 => exact Cz ((Kd.R_reads' HO462.out).2.2)); (case side4 => exact (Kd.R_reads' HO462.out).2.1); rintro e w22 ⟨rfl, hb⟩; refine ⟨_, rfl, ?_⟩; have n0_ := Rb HO458 hb; have n1_ := Rb HO462 hb; have n2_ := Kb BK453 hb; have n3_ := Bc HB hb; clear HO458 HO462 BK453 HB; revert n0_ n1_ n2_ n3_; intro HO458 HO462 BK453 HB; (try clear hb); (try clear hb2); (try clear hk); (try clear hi); obtain ⟨hcz23_0, hcz23_1, hcz23_2, hcz23_3, hcz23_4, hfz23_0, hfz23_1, hfz23_2, hfz23_3, hfz23_4⟩ := cf5 (w := w22) BK453) | ((with_reducible refine gate_callee (f := 6) rfl ?_); refine gL (some 27) Tryz.func6 #[.agg #[.int .i64 a0_0, .slice A0_1 l0_1.length c0_1, .int .i64 a0_2, .slice A0_3 l0_3.length c0_3, .string a0_4]] ?_; (with_reducible refine (laws_toTrie.calls k a0_0 _ _ l0_1 a0_2 _ _ l0_3 a0_4 t466 t467 t470 t471 t474 _ ?side1 ?side2 ?side3 ?side4 A12.out).mono ?_); (case side1 => exact Cz (Kd.C_below HR0_1.out HB.out)); (case side2 => exact HC0_1.out); (case side3 => exact Cz (Kd.C_below HR0_3.out HB.out)); (case side4 => exact HC0_3.out); rintro e w24 ⟨v468, v472, rfl, ho0, ho1, hb⟩; refine ⟨_, rfl, ?_⟩; have n0_ := am (Kd.R_mono (Kd.R_told (Kd.R_told (Kd.R_old (Rz HO458.out) hb) (Kd.R_base ho0)) (Kd.R_base ho1)) (fun _ h_ => h_.1)); have n1_ := am (Kd.R_mono (Kd.R_told (Kd.R_told (Kd.R_old (Rz HO462.out) hb) (Kd.R_base ho0)) (Kd.R_base ho1)) (fun _ h_ => h_.1)); have n2_ := Rm (Kd.R_new' (Kd.R_new' ho0 (Kd.R_lt (Rz HO458.out))) (Kd.R_lt (Rz HO462.out))) HB; have n3_ := Rm (Kd.R_new' (Kd.R_new' ho1 (Kd.R_lt (Rz HO458.out))) (Kd.R_lt (Rz HO462.out))) HB; have n4_ := Kb BK453 hb; have n5_ := Bc HB hb; clear HO458 HO462 BK453 HB; revert n0_ n1_ n2_ n3_ n4_ n5_; intro HO458 HO462 HO469 HO473 BK453 HB; (try clear hb); (try clear hb2); (try clear hk); (try clear hi); (try clear ho0); (try clear ho1)) | ((with_reducible refine gate_dst (N := 8) rfl ?_); refine bE 8 #[.int .i64 0, .slice none 0 0, .int .i64 0, .slice none 0 0, .string (⟨#[]⟩ : ByteArray)] 32 ?_; intro gb475 hg w25 hbox hb; have n0_ := Rb HO458 hb; have n1_ := Rb HO462 hb; have n2_ := Rb HO469 hb; have n3_ := Rb HO473 hb; have n4_ := Kb BK453 hb; have n5_ := Bc HB hb; have n6_ := am (hbox); have n7_ := Gm HB hg; have n8_ := Gm HB hg; have n9_ := Nl BK453 hg; have n10_ := Ng BK453 hg; clear HO458 HO462 HO469 HO473 BK453 HB; revert n0_ n1_ n2_ n3_ n4_ n5_ n6_ n7_ n8_ n9_ n10_; intro HO458 HO462 HO469 HO473 BK453 HB BK475 GW475 GE475 NB453_475 NB475_453; clear hb hbox hg; have hnb26 := NB475_453.out; have hnc26 := NB453_475.out; obtain ⟨hcz27_0, hcz27_1, hcz27_2, hcz27_3, hcz27_4, hfz27_0, hfz27_1, hfz27_2, hfz27_3, hfz27_4⟩ := cf5 (w := w25) BK475; obtain ⟨Ao28, co28, eo28⟩ := Kd.R_slice HO469.out; subst eo28; obtain ⟨Ao29, co29, eo29⟩ := Kd.R_slice HO473.out; subst eo29) | ((with_reducible refine gate_callee (f := 7) rfl ?_); refine gL (some 31) Tryz.func7 #[.agg #[.int .i64 t466, .slice Ao28 t467.length co28, .int .i64 t470, .slice Ao29 t471.length co29, .string t474], .string a1] ?_; (with_reducible refine (impl_FindNode.calls k t466 _ _ t467 t470 _ _ t471 t474 a1 t476 t477 _ ?side1 ?side2 ?side3 ?side4 A13.out).mono ?_); (case side1 => refine (Kd.R_reads' (e := 3) (base := w.heap.size) (ok := fun k_ => ((some k_ ≠ (.slice Ao29 t471.length co29 : Value).ownBlock ∧ some k_ ≠ (.slice Ao20 t456.length co20 : Value).ownBlock) ∧ some k_ ≠ (.slice Ao21 t460.length co21 : Value).ownBlock)) (n := t467.length) (c := co28) ?_).2.2; exact (Rz (Kd.R_mono (Kd.R_far (p := ⟨gb475, 4, none⟩) (Kd.R_far (p := ⟨gb475, 3, none⟩) (Kd.R_far (p := ⟨gb475, 2, none⟩) (Kd.R_far (p := ⟨gb475, 1, none⟩) (Kd.R_far (p := ⟨gb475, 0, none⟩) (Kd.R_types HO469.out BK475.out (by decide)) (fun _ hk => hk.2) (.int .i64 t466)) (fun _ hk => hk.2) (.slice Ao28 t467.length co28)) (fun _ hk => hk.2) (.int .i64 t470)) (fun _ hk => hk.2) (.slice Ao29 t471.length co29)) (fun _ hk => hk.2) (.string t474)) (fun _ h_ => h_.1)))); (case side2 => exact (Kd.R_reads' HO469.out).2.1); (case side3 => refine (Kd.R_reads' (e := 3) (base := w.heap.size) (ok := fun k_ => ((some k_ ≠ (.slice Ao28 t467.length co28 : Value).ownBlock ∧ some k_ ≠ (.slice Ao20 t456.length co20 : Value).ownBlock) ∧ some k_ ≠ (.slice Ao21 t460.length co21 : Value).ownBlock)) (n := t471.length) (c := co29) ?_).2.2; exact (Rz (Kd.R_mono (Kd.R_far (p := ⟨gb475, 4, none⟩) (Kd.R_far (p := ⟨gb475, 3, none⟩) (Kd.R_far (p := ⟨gb475, 2, none⟩) (Kd.R_far (p := ⟨gb475, 1, none⟩) (Kd.R_far (p := ⟨gb475, 0, none⟩) (Kd.R_types HO473.out BK475.out (by decide)) (fun _ hk => hk.2) (.int .i64 t466)) (fun _ hk => hk.2) (.slice Ao28 t467.length co28)) (fun _ hk => hk.2) (.int .i64 t470)) (fun _ hk => hk.2) (.slice Ao29 t471.length co29)) (fun _ hk => hk.2) (.string t474)) (fun _ h_ => h_.1)))); (case side4 => exact (Kd.R_reads' HO473.out).2.1); rintro e w30 ⟨rfl, hb⟩; refine ⟨_, rfl, ?_⟩; have n0_ := am (Kd.R_below (Rz (Kd.R_mono (Kd.R_far (p := ⟨gb475, 4, none⟩) (Kd.R_far (p := ⟨gb475, 3, none⟩) (Kd.R_far (p := ⟨gb475, 2, none⟩) (Kd.R_far (p := ⟨gb475, 1, none⟩) (Kd.R_far (p := ⟨gb475, 0, none⟩) (Kd.R_types HO458.out BK475.out (by decide)) (fun _ hk => hk.2) (.int .i64 t466)) (fun _ hk => hk.2) (.slice Ao28 t467.length co28)) (fun _ hk => hk.2) (.int .i64 t470)) (fun _ hk => hk.2) (.slice Ao29 t471.length co29)) (fun _ hk => hk.2) (.string t474)) (fun _ h_ => h_.1))) hb); have n1_ := am (Kd.R_below (Rz (Kd.R_mono (Kd.R_far (p := ⟨gb475, 4, none⟩) (Kd.R_far (p := ⟨gb475, 3, none⟩) (Kd.R_far (p := ⟨gb475, 2, none⟩) (Kd.R_far (p := ⟨gb475, 1, none⟩) (Kd.R_far (p := ⟨gb475, 0, none⟩) (Kd.R_types HO462.out BK475.out (by decide)) (fun _ hk => hk.2) (.int .i64 t466)) (fun _ hk => hk.2) (.slice Ao28 t467.length co28)) (fun _ hk => hk.2) (.int .i64 t470)) (fun _ hk => hk.2) (.slice Ao29 t471.length co29)) (fun _ hk => hk.2) (.string t474)) (fun _ h_ => h_.1))) hb); have n2_ := am (Kd.R_below (Rz (Kd.R_mono (Kd.R_far (p := ⟨gb475, 4, none⟩) (Kd.R_far (p := ⟨gb475, 3, none⟩) (Kd.R_far (p := ⟨gb475, 2, none⟩) (Kd.R_far (p := ⟨gb475, 1, none⟩) (Kd.R_far (p := ⟨gb475, 0, none⟩) (Kd.R_types HO469.out BK475.out (by decide)) (fun _ hk => hk.2) (.int .i64 t466)) (fun _ hk => hk.2) (.slice Ao28 t467.length co28)) (fun _ hk => hk.2) (.int .i64 t470)) (fun _ hk => hk.2) (.slice Ao29 t471.length co29)) (fun _ hk => hk.2) (.string t474)) (fun _ h_ => h_.1))) hb); have n3_ := am (Kd.R_below (Rz (Kd.R_mono (Kd.R_far (p := ⟨gb475, 4, none⟩) (Kd.R_far (p := ⟨gb475, 3, none⟩) (Kd.R_far (p := ⟨gb475, 2, none⟩) (Kd.R_far (p := ⟨gb475, 1, none⟩) (Kd.R_far (p := ⟨gb475, 0, none⟩) (Kd.R_types HO473.out BK475.out (by decide)) (fun _ hk => hk.2) (.int .i64 t466)) (fun _ hk => hk.2) (.slice Ao28 t467.length co28)) (fun _ hk => hk.2) (.int .i64 t470)) (fun _ hk => hk.2) (.slice Ao29 t471.length co29)) (fun _ hk => hk.2) (.string t474)) (fun _ h_ => h_.1))) hb); have n4_ := am (blk_below (g := gb453) (o := .cells #[.int .i64 a0_0, .slice A0_1 l0_1.length c0_1, .int .i64 a0_2, .slice A0_3 l0_3.length c0_3, .string a0_4] 26 (0, 0)) (by (with_reducible repeat (first | refine blk_drewN ?_ _ | refine blk_drew ?_ | refine blk_alloc ?_ _)); refine blk_far ?_ NB453_475.out _; (with_reducible repeat (first | refine blk_drewN ?_ _ | refine blk_drew ?_ | refine blk_alloc ?_ _)); refine blk_far ?_ NB453_475.out _; (with_reducible repeat (first | refine blk_drewN ?_ _ | refine blk_drew ?_ | refine blk_alloc ?_ _)); refine blk_far ?_ NB453_475.out _; (with_reducible repeat (first | refine blk_drewN ?_ _ | refine blk_drew ?_ | refine blk_alloc ?_ _)); refine blk_far ?_ NB453_475.out _; (with_reducible repeat (first | refine blk_drewN ?_ _ | refine blk_drew ?_ | refine blk_alloc ?_ _)); refine blk_far ?_ NB453_475.out _; exact Kz BK453.out) hb); have n5_ := am (blk_below (g := gb475) (o := .cells #[.int .i64 t466, .slice Ao28 t467.length co28, .int .i64 t470, .slice Ao29 t471.length co29, .string t474] 32 (0, 0)) (by (with_reducible repeat (first | refine blk_drewN ?_ _ | refine blk_drew ?_ | refine blk_alloc ?_ _)); refine blk_put (cs := #[.int .i64 t466, .slice Ao28 t467.length co28, .int .i64 t470, .slice Ao29 t471.length co29, .string (⟨#[]⟩ : ByteArray)]) ?_ 4 _ rfl; (with_reducible repeat (first | refine blk_drewN ?_ _ | refine blk_drew ?_ | refine blk_alloc ?_ _)); refine blk_put (cs := #[.int .i64 t466, .slice Ao28 t467.length co28, .int .i64 t470, .slice none 0 0, .string (⟨#[]⟩ : ByteArray)]) ?_ 3 _ rfl; (with_reducible repeat (first | refine blk_drewN ?_ _ | refine blk_drew ?_ | refine blk_alloc ?_ _)); refine blk_put (cs := #[.int .i64 t466, .slice Ao28 t467.length co28, .int .i64 0, .slice none 0 0, .string (⟨#[]⟩ : ByteArray)]) ?_ 2 _ rfl; (with_reducible repeat (first | refine blk_drewN ?_ _ | refine blk_drew ?_ | refine blk_alloc ?_ _)); refine blk_put (cs := #[.int .i64 t466, .slice none 0 0, .int .i64 0, .slice none 0 0, .string (⟨#[]⟩ : ByteArray)]) ?_ 1 _ rfl; (with_reducible repeat (first | refine blk_drewN ?_ _ | refine blk_drew ?_ | refine blk_alloc ?_ _)); refine blk_put (cs := #[.int .i64 0, .slice none 0 0, .int .i64 0, .slice none 0 0, .string (⟨#[]⟩ : ByteArray)]) ?_ 0 _ rfl; exact Kz BK475.out) hb); have n6_ := Bc HB hb; clear HO458 HO462 HO469 HO473 BK453 BK475 HB; revert n0_ n1_ n2_ n3_ n4_ n5_ n6_; intro HO458 HO462 HO469 HO473 BK453 BK475 HB; (try clear hb); (try clear hb2); (try clear hk); (try clear hi)))
   (try simp only [aP])
   go_cut [41] (fun v41 wc => ∃ (kq : Nat) (x41_13 : Bool), v41 = .bool x41_13 ∧ Aside0 (laws_FnExactFindNode.j0 kq x41_13 a0_0 l0_1 a0_2 l0_3 a0_4 t466 t467 t470 t471 t474 = some r) ∧ Aside0 (kq ≤ k) ∧ Aside0 (Kd.R (Kd.int .i64) 3 wc w.heap.size (fun k_ => some k_ ≠ ((.slice Ao29 t471.length co29) : Value).ownBlock) (.slice Ao28 t467.length co28) t467) ∧ Aside0 (Kd.R (Kd.int .i64) 3 wc w.heap.size (fun k_ => some k_ ≠ ((.slice Ao28 t467.length co28) : Value).ownBlock) (.slice Ao29 t471.length co29) t471) ∧ Aside0 (wc.heap[gb453]? = some (.cells #[.int .i64 a0_0, (.slice A0_1 l0_1.length c0_1), .int .i64 a0_2, (.slice A0_3 l0_3.length c0_3), .string a0_4] 26 (0, 0))) ∧ Aside0 (wc.heap[gb475]? = some (.cells #[.int .i64 t466, (.slice Ao28 t467.length co28), .int .i64 t470, (.slice Ao29 t471.length co29), .string t474] 32 (0, 0))) ∧ Aside0 (Below w.heap.size w wc))
   case first =>
    have H := HC14.out; clear HC14
    by_cases c31 : t476 = t464
    ·rw [if_pos c31] at H
     have c31b0 : (t476 == t464) = true := beq_iff_eq.mpr c31; have c31b1 : (t476 != t464) = false := bne_eq_false_iff_eq.mpr c31; clear c31
     (first | rw [c31b0] | (simp only [i64_w, i32_w]; rw [c31b0]) | skip)
     have H' := am H; clear H
     go_wp2
     go_meet
     case rel => exact ⟨_, ((t477 != t465)), wZ, H', ⟨by first | omega | exact Nat.le_refl _⟩, ⟨Rz (Kd.R_mono HO469.out (fun _ hk => hk.1.1))⟩, ⟨Rz (Kd.R_mono HO473.out (fun _ hk => hk.1.1))⟩, ⟨Kz BK453.out⟩, ⟨Kz BK475.out⟩, ⟨Bq⟩⟩
    ·rw [if_neg c31] at H
     have c31b0 : (t476 == t464) = false := beq_eq_false_iff_ne.mpr c31; have c31b1 : (t476 != t464) = true := bne_iff_ne.mpr c31
     (first | rw [c31b0] | (simp only [i64_w, i32_w]; rw [c31b0]) | skip)
     have H' := am H; clear H
     go_wp2
     go_meet
     case rel => exact ⟨_, (true), wZ, H', ⟨by first | omega | exact Nat.le_refl _⟩, ⟨Rz (Kd.R_mono HO469.out (fun _ hk => hk.1.1))⟩, ⟨Rz (Kd.R_mono HO473.out (fun _ hk => hk.1.1))⟩, ⟨Kz BK453.out⟩, ⟨Kz BK475.out⟩, ⟨Bq⟩⟩
   case rest =>
    clear HC14
    try clear c2
    try clear p2
    try clear c3
    try clear c3b0
    try clear c3b1
    try clear c4
    try clear c5
    try clear c6
    try clear c6b0
    try clear c7
    try clear c26
    try clear c31
    try clear c31b0
    try clear c31b1
    try clear hcz16_0
    try clear hcz16_1
    try clear hcz16_2
    try clear hcz16_3
    try clear hcz16_4
    try clear hcz18_0
    try clear hcz18_1
    try clear hcz18_2
    try clear hcz18_3
    try clear hcz18_4
    try clear hcz23_0
    try clear hcz23_1
    try clear hcz23_2
    try clear hcz23_3
    try clear hcz23_4
    try clear hcz27_0
    try clear hcz27_1
    try clear hcz27_2
    try clear hcz27_3
    try clear hcz27_4
    try clear hcz8_0
    try clear hcz8_1
    try clear hcz8_2
    try clear hcz8_3
    try clear hcz8_4
    try clear hfz16_0
    try clear hfz16_1
    try clear hfz16_2
    try clear hfz16_3
    try clear hfz16_4
    try clear hfz18_0
    try clear hfz18_1
    try clear hfz18_2
    try clear hfz18_3
    try clear hfz18_4
    try clear hfz23_0
    try clear hfz23_1
    try clear hfz23_2
    try clear hfz23_3
    try clear hfz23_4
    try clear hfz27_0
    try clear hfz27_1
    try clear hfz27_2
    try clear hfz27_3
    try clear hfz27_4
    try clear hfz8_0
    try clear hfz8_1
    try clear hfz8_2
    try clear hfz8_3
    try clear hfz8_4
    obtain ⟨kq, x41_13, rfl, HA, HJ13, HO_476001, HO_476003, BK453, BK475, HB⟩ := hcut; cases kq with
    | zero => exact absurd HA.out (by simp [laws_FnExactFindNode.j0])
    | succ kj13 =>
     have H := HA.out; clear HA
     simp only [laws_FnExactFindNode.j0] at H
     by_cases c32 : x41_13 = true
     ·subst c32
      rw [if_pos rfl] at H; obtain rfl := Option.some.inj H
      go_wp2
      go_ret
      exact ⟨eZ, Bq⟩
     ·replace c32 := Bool.eq_false_iff.mpr c32
      subst c32
      rw [if_neg (show ¬ (false = true) by decide)] at H; replace H := Option.bind_eq_some_iff.mp H; obtain ⟨⟨t478, t479, t482, t483, t486⟩, A330, H⟩ := H; (try dsimp -simprocs only at H); have A33 := am A330; clear A330; replace H := Option.bind_eq_some_iff.mp H; obtain ⟨t487, A340, H⟩ := H; (try dsimp -simprocs only at H); have A34 := am A340; clear A340
      by_cases c35 : t487 = true
      ·subst c35
       rw [if_pos rfl] at H; obtain rfl := Option.some.inj H
       try go_wp2
       have n0_ := am (Kd.R_drew HO_476001.out); have n1_ := am (Kd.R_drew HO_476003.out); have n2_ := am (blk_drew BK453.out); have n3_ := am (blk_drew BK475.out); have n4_ := am (below_drew1 HB.out); clear HO_476001 HO_476003 BK453 BK475 HB; revert n0_ n1_ n2_ n3_ n4_; intro HO_476001 HO_476003 BK453 BK475 HB; refine start_ (n := 5) (S := fun w' => w'.cell? ⟨gb475, 0, none⟩ = some (.int .i64 t466) ∧ w'.cell? ⟨gb475, 1, none⟩ = some (.slice Ao28 t467.length co28) ∧ w'.cell? ⟨gb475, 2, none⟩ = some (.int .i64 t470) ∧ w'.cell? ⟨gb475, 3, none⟩ = some (.slice Ao29 t471.length co29) ∧ w'.cell? ⟨gb475, 4, none⟩ = some (.string t474) ∧ w'.cell? ⟨gb453, 0, none⟩ = some (.int .i64 a0_0) ∧ w'.cell? ⟨gb453, 1, none⟩ = some (.slice A0_1 l0_1.length c0_1) ∧ w'.cell? ⟨gb453, 2, none⟩ = some (.int .i64 a0_2) ∧ w'.cell? ⟨gb453, 3, none⟩ = some (.slice A0_3 l0_3.length c0_3) ∧ w'.cell? ⟨gb453, 4, none⟩ = some (.string a0_4)) (ds := []) (bA 5 0) (by kernel_rfl) rfl rfl ⟨cz BK475 0, cz BK475 1, cz BK475 2, cz BK475 3, cz BK475 4, cz BK453 0, cz BK453 1, cz BK453 2, cz BK453 3, cz BK453 4⟩ (fun hHeld => ?_); generalize wc.drew = w36 at HO_476001 HO_476003 BK453 BK475 HB hHeld ⊢; refine take_ (i := 0) (N := some 42) (v := ?_) (a' := ?_) (bA 5 1) rfl rfl (by kernel_rfl) (fun _ _ _ h => h) (Or.inl ⟨by rfl, ?_⟩) hHeld ?_ ?_
       rotate_left
       ·rintro w' ⟨s0, s1, s2, s3, s4, s5, s6, s7, s8, s9⟩
        go_simp
        with_reducible rfl
       rotate_left
       ·simp only [aP, i64_w, i32_w]
        rfl
       refine take_ (i := 1) (N := some 43) (v := ?_) (a' := ?_) (bA 5 3) rfl rfl (by kernel_rfl) (fun _ _ _ h => h) (Or.inl ⟨by rfl, ?_⟩) hHeld ?_ ?_
       rotate_left
       ·rintro w' ⟨s0, s1, s2, s3, s4, s5, s6, s7, s8, s9⟩
        go_simp
        with_reducible rfl
       rotate_left
       ·simp only [aP, i64_w, i32_w]
        rfl
       refine one_ (i := 2) (N := some 44) (bA 5 7) rfl rfl (by kernel_rfl) (by decide) (fun K hK => ?_); refine gZ Tryz.func6 #[.agg #[.int .i64 a0_0, .slice A0_1 l0_1.length c0_1, .int .i64 a0_2, .slice A0_3 l0_3.length c0_3, .string a0_4]] ?_
       with_reducible refine (laws_toTrie.calls kj13 a0_0 _ _ l0_1 a0_2 _ _ l0_3 a0_4 t478 t479 t482 t483 t486 _ ?side1 ?side2 ?side3 ?side4 A33.out).mono ?_
       (case side1 => exact Cz (Kd.C_below HR0_1.out HB.out))
       (case side2 => exact HC0_1.out)
       (case side3 => exact Cz (Kd.C_below HR0_3.out HB.out))
       (case side4 => exact HC0_3.out)
       rintro e w37 ⟨v480, v484, rfl, ho0, ho1, hb⟩; refine ⟨_, rfl, ?_⟩; have n0_ := am (Kd.R_mono (Kd.R_told (Kd.R_told (Kd.R_old (Rz HO_476001.out) hb) (Kd.R_base ho0)) (Kd.R_base ho1)) (fun _ h_ => h_.1)); have n1_ := am (Kd.R_mono (Kd.R_told (Kd.R_told (Kd.R_old (Rz HO_476003.out) hb) (Kd.R_base ho0)) (Kd.R_base ho1)) (fun _ h_ => h_.1)); have n2_ := Rm (Kd.R_new' (Kd.R_new' ho0 (Kd.R_lt (Rz HO_476001.out))) (Kd.R_lt (Rz HO_476003.out))) HB; have n3_ := Rm (Kd.R_new' (Kd.R_new' ho1 (Kd.R_lt (Rz HO_476001.out))) (Kd.R_lt (Rz HO_476003.out))) HB; have n4_ := Kb BK453 hb; have n5_ := Kb BK475 hb; have n6_ := Bc HB hb; clear HO_476001 HO_476003 BK453 BK475 HB; revert n0_ n1_ n2_ n3_ n4_ n5_ n6_; intro HO_476001 HO_476003 HO481 HO485 BK453 BK475 HB
       (try clear hb)
       (try clear hb2)
       (try clear hk)
       (try clear hi)
       (try clear ho0)
       (try clear ho1)
       obtain ⟨Ao38, co38, eo38⟩ := Kd.R_slice HO481.out
       (first | subst eo38 | (injection eo38 with f1_ f2_ f3_; have f4_ := f1_.symm; have f5_ := f3_.symm; clear f1_ f2_ f3_; subst f4_; subst f5_))
       obtain ⟨Ao39, co39, eo39⟩ := Kd.R_slice HO485.out
       (first | subst eo39 | (injection eo39 with f1_ f2_ f3_; have f4_ := f1_.symm; have f5_ := f3_.symm; clear f1_ f2_ f3_; subst f4_; subst f5_))
       refine hK.out _ _ ⟨cz BK475 0, cz BK475 1, cz BK475 2, cz BK475 3, cz BK475 4, cz BK453 0, cz BK453 1, cz BK453 2, cz BK453 3, cz BK453 4⟩ (fun hHeld => ?_); clear hK K; refine norm_ (a' := ?_) ?_ ?_; rotate_left; show Act.put _ (some 44) _ = _; simp only [aP, i64_w, i32_w]; rfl; refine one_ (i := 3) (N := some 45) (bA 5 15) rfl rfl (by kernel_rfl) (by decide) (fun K hK => ?_); refine gZ Tryz.func8 #[.agg #[.int .i64 t466, .slice Ao28 t467.length co28, .int .i64 t470, .slice Ao29 t471.length co29, .string t474], .agg #[.int .i64 t478, .slice Ao38 t479.length co38, .int .i64 t482, .slice Ao39 t483.length co39, .string t486]] ?_
       with_reducible refine (laws_eqTrie.calls kj13 t466 _ _ t467 t470 _ _ t471 t474 t478 _ _ t479 t482 _ _ t483 t486 true _ ?side1 ?side2 ?side3 ?side4 ?side5 ?side6 ?side7 ?side8 A34.out).mono ?_
       (case side1 => exact Cz ((Kd.R_reads' HO_476001.out).2.2))
       (case side2 => exact (Kd.R_reads' HO_476001.out).2.1)
       (case side3 => exact Cz ((Kd.R_reads' HO_476003.out).2.2))
       (case side4 => exact (Kd.R_reads' HO_476003.out).2.1)
       (case side5 => exact Cz ((Kd.R_reads' HO481.out).2.2))
       (case side6 => exact (Kd.R_reads' HO481.out).2.1)
       (case side7 => exact Cz ((Kd.R_reads' HO485.out).2.2))
       (case side8 => exact (Kd.R_reads' HO485.out).2.1)
       rintro e w40 ⟨rfl, hb⟩; refine ⟨_, rfl, ?_⟩; have n0_ := Rb HO_476001 hb; have n1_ := Rb HO_476003 hb; have n2_ := Rb HO481 hb; have n3_ := Rb HO485 hb; have n4_ := Kb BK453 hb; have n5_ := Kb BK475 hb; have n6_ := Bc HB hb; clear HO_476001 HO_476003 HO481 HO485 BK453 BK475 HB; revert n0_ n1_ n2_ n3_ n4_ n5_ n6_; intro HO_476001 HO_476003 HO481 HO485 BK453 BK475 HB
       (try clear hb)
       (try clear hb2)
       (try clear hk)
       (try clear hi)
       refine hK.out _ _ ⟨cz BK475 0, cz BK475 1, cz BK475 2, cz BK475 3, cz BK475 4, cz BK453 0, cz BK453 1, cz BK453 2, cz BK453 3, cz BK453 4⟩ (fun hHeld => ?_); clear hK K; refine norm_ (a' := ?_) ?_ ?_; rotate_left; show Act.put _ (some 45) _ = _; simp only [aP, i64_w, i32_w]; rfl; refine pure_ (i := 4) (N := some 46) (v := ?_) (a' := ?_) (bA 5 31) rfl rfl (by kernel_rfl) (fun _ _ _ h => h) (Or.inl ⟨by rfl, ?_⟩) ?_ ?_
       rotate_left
       ·intro w'
        go_simp
        with_reducible rfl
       rotate_left
       ·simp only [aP, i64_w, i32_w]
        rfl
       refine done_ (by kernel_rfl) ?_
       try go_wp2
       go_ret
       exact ⟨eZ, Bq⟩
      ·replace c35 := Bool.eq_false_iff.mpr c35
       subst c35
       rw [if_neg (show ¬ (false = true) by decide)] at H; obtain rfl := Option.some.inj H
       try go_wp2
       have n0_ := am (Kd.R_drew HO_476001.out); have n1_ := am (Kd.R_drew HO_476003.out); have n2_ := am (blk_drew BK453.out); have n3_ := am (blk_drew BK475.out); have n4_ := am (below_drew1 HB.out); clear HO_476001 HO_476003 BK453 BK475 HB; revert n0_ n1_ n2_ n3_ n4_; intro HO_476001 HO_476003 BK453 BK475 HB; refine start_ (n := 5) (S := fun w' => w'.cell? ⟨gb475, 0, none⟩ = some (.int .i64 t466) ∧ w'.cell? ⟨gb475, 1, none⟩ = some (.slice Ao28 t467.length co28) ∧ w'.cell? ⟨gb475, 2, none⟩ = some (.int .i64 t470) ∧ w'.cell? ⟨gb475, 3, none⟩ = some (.slice Ao29 t471.length co29) ∧ w'.cell? ⟨gb475, 4, none⟩ = some (.string t474) ∧ w'.cell? ⟨gb453, 0, none⟩ = some (.int .i64 a0_0) ∧ w'.cell? ⟨gb453, 1, none⟩ = some (.slice A0_1 l0_1.length c0_1) ∧ w'.cell? ⟨gb453, 2, none⟩ = some (.int .i64 a0_2) ∧ w'.cell? ⟨gb453, 3, none⟩ = some (.slice A0_3 l0_3.length c0_3) ∧ w'.cell? ⟨gb453, 4, none⟩ = some (.string a0_4)) (ds := []) (bA 5 0) (by kernel_rfl) rfl rfl ⟨cz BK475 0, cz BK475 1, cz BK475 2, cz BK475 3, cz BK475 4, cz BK453 0, cz BK453 1, cz BK453 2, cz BK453 3, cz BK453 4⟩ (fun hHeld => ?_); generalize wc.drew = w41 at HO_476001 HO_476003 BK453 BK475 HB hHeld ⊢; refine take_ (i := 0) (N := some 42) (v := ?_) (a' := ?_) (bA 5 1) rfl rfl (by kernel_rfl) (fun _ _ _ h => h) (Or.inl ⟨by rfl, ?_⟩) hHeld ?_ ?_
       rotate_left
       ·rintro w' ⟨s0, s1, s2, s3, s4, s5, s6, s7, s8, s9⟩
        go_simp
        with_reducible rfl
       rotate_left
       ·simp only [aP, i64_w, i32_w]
        rfl
       refine take_ (i := 1) (N := some 43) (v := ?_) (a' := ?_) (bA 5 3) rfl rfl (by kernel_rfl) (fun _ _ _ h => h) (Or.inl ⟨by rfl, ?_⟩) hHeld ?_ ?_
       rotate_left
       ·rintro w' ⟨s0, s1, s2, s3, s4, s5, s6, s7, s8, s9⟩
        go_simp
        with_reducible rfl
       rotate_left
       ·simp only [aP, i64_w, i32_w]
        rfl
       refine one_ (i := 2) (N := some 44) (bA 5 7) rfl rfl (by kernel_rfl) (by decide) (fun K hK => ?_); refine gZ Tryz.func6 #[.agg #[.int .i64 a0_0, .slice A0_1 l0_1.length c0_1, .int .i64 a0_2, .slice A0_3 l0_3.length c0_3, .string a0_4]] ?_
       with_reducible refine (laws_toTrie.calls kj13 a0_0 _ _ l0_1 a0_2 _ _ l0_3 a0_4 t478 t479 t482 t483 t486 _ ?side1 ?side2 ?side3 ?side4 A33.out).mono ?_
       (case side1 => exact Cz (Kd.C_below HR0_1.out HB.out))
       (case side2 => exact HC0_1.out)
       (case side3 => exact Cz (Kd.C_below HR0_3.out HB.out))
       (case side4 => exact HC0_3.out)
       rintro e w42 ⟨v480, v484, rfl, ho0, ho1, hb⟩; refine ⟨_, rfl, ?_⟩; have n0_ := am (Kd.R_mono (Kd.R_told (Kd.R_told (Kd.R_old (Rz HO_476001.out) hb) (Kd.R_base ho0)) (Kd.R_base ho1)) (fun _ h_ => h_.1)); have n1_ := am (Kd.R_mono (Kd.R_told (Kd.R_told (Kd.R_old (Rz HO_476003.out) hb) (Kd.R_base ho0)) (Kd.R_base ho1)) (fun _ h_ => h_.1)); have n2_ := Rm (Kd.R_new' (Kd.R_new' ho0 (Kd.R_lt (Rz HO_476001.out))) (Kd.R_lt (Rz HO_476003.out))) HB; have n3_ := Rm (Kd.R_new' (Kd.R_new' ho1 (Kd.R_lt (Rz HO_476001.out))) (Kd.R_lt (Rz HO_476003.out))) HB; have n4_ := Kb BK453 hb; have n5_ := Kb BK475 hb; have n6_ := Bc HB hb; clear HO_476001 HO_476003 BK453 BK475 HB; revert n0_ n1_ n2_ n3_ n4_ n5_ n6_; intro HO_476001 HO_476003 HO481 HO485 BK453 BK475 HB
       (try clear hb)
       (try clear hb2)
       (try clear hk)
       (try clear hi)
       (try clear ho0)
       (try clear ho1)
       obtain ⟨Ao43, co43, eo43⟩ := Kd.R_slice HO481.out
       (first | subst eo43 | (injection eo43 with f1_ f2_ f3_; have f4_ := f1_.symm; have f5_ := f3_.symm; clear f1_ f2_ f3_; subst f4_; subst f5_))
       obtain ⟨Ao44, co44, eo44⟩ := Kd.R_slice HO485.out
       (first | subst eo44 | (injection eo44 with f1_ f2_ f3_; have f4_ := f1_.symm; have f5_ := f3_.symm; clear f1_ f2_ f3_; subst f4_; subst f5_))
       refine hK.out _ _ ⟨cz BK475 0, cz BK475 1, cz BK475 2, cz BK475 3, cz BK475 4, cz BK453 0, cz BK453 1, cz BK453 2, cz BK453 3, cz BK453 4⟩ (fun hHeld => ?_); clear hK K; refine norm_ (a' := ?_) ?_ ?_; rotate_left; show Act.put _ (some 44) _ = _; simp only [aP, i64_w, i32_w]; rfl; refine one_ (i := 3) (N := some 45) (bA 5 15) rfl rfl (by kernel_rfl) (by decide) (fun K hK => ?_); refine gZ Tryz.func8 #[.agg #[.int .i64 t466, .slice Ao28 t467.length co28, .int .i64 t470, .slice Ao29 t471.length co29, .string t474], .agg #[.int .i64 t478, .slice Ao43 t479.length co43, .int .i64 t482, .slice Ao44 t483.length co44, .string t486]] ?_
       with_reducible refine (laws_eqTrie.calls kj13 t466 _ _ t467 t470 _ _ t471 t474 t478 _ _ t479 t482 _ _ t483 t486 false _ ?side1 ?side2 ?side3 ?side4 ?side5 ?side6 ?side7 ?side8 A34.out).mono ?_
       (case side1 => exact Cz ((Kd.R_reads' HO_476001.out).2.2))
       (case side2 => exact (Kd.R_reads' HO_476001.out).2.1)
       (case side3 => exact Cz ((Kd.R_reads' HO_476003.out).2.2))
       (case side4 => exact (Kd.R_reads' HO_476003.out).2.1)
       (case side5 => exact Cz ((Kd.R_reads' HO481.out).2.2))
       (case side6 => exact (Kd.R_reads' HO481.out).2.1)
       (case side7 => exact Cz ((Kd.R_reads' HO485.out).2.2))
       (case side8 => exact (Kd.R_reads' HO485.out).2.1)
       rintro e w45 ⟨rfl, hb⟩; refine ⟨_, rfl, ?_⟩; have n0_ := Rb HO_476001 hb; have n1_ := Rb HO_476003 hb; have n2_ := Rb HO481 hb; have n3_ := Rb HO485 hb; have n4_ := Kb BK453 hb; have n5_ := Kb BK475 hb; have n6_ := Bc HB hb; clear HO_476001 HO_476003 HO481 HO485 BK453 BK475 HB; revert n0_ n1_ n2_ n3_ n4_ n5_ n6_; intro HO_476001 HO_476003 HO481 HO485 BK453 BK475 HB
       (try clear hb)
       (try clear hb2)
       (try clear hk)
       (try clear hi)
       refine hK.out _ _ ⟨cz BK475 0, cz BK475 1, cz BK475 2, cz BK475 3, cz BK475 4, cz BK453 0, cz BK453 1, cz BK453 2, cz BK453 3, cz BK453 4⟩ (fun hHeld => ?_); clear hK K; refine norm_ (a' := ?_) ?_ ?_; rotate_left; show Act.put _ (some 45) _ = _; simp only [aP, i64_w, i32_w]; rfl; refine pure_ (i := 4) (N := some 46) (v := ?_) (a' := ?_) (bA 5 31) rfl rfl (by kernel_rfl) (fun _ _ _ h => h) (Or.inl ⟨by rfl, ?_⟩) ?_ ?_
       rotate_left
       ·intro w'
        go_simp
        with_reducible rfl
       rotate_left
       ·simp only [aP, i64_w, i32_w]
        rfl
       refine done_ (by kernel_rfl) ?_
       try go_wp2
       go_ret
       exact ⟨eZ, Bq⟩

def laws_FnExactFindNode.Pure : Prop := ∀ (a0_0 : Int) (l0_1 : List Int) (a0_2 : Int) (l0_3 : List Int) (a0_4 : ByteArray) (a1 : ByteArray), (Lit.int .i64 a0_0).wf = true → l0_1.length ≤ maxLen → (∀ x ∈ l0_1, (Lit.int .i64 x).wf = true) → (Lit.int .i64 a0_2).wf = true → l0_3.length ≤ maxLen → (∀ x ∈ l0_3, (Lit.int .i64 x).wf = true) → a0_4.size ≤ maxLen → a1.size ≤ maxLen → ∃ k, laws_FnExactFindNode.f k a0_0 l0_1 a0_2 l0_3 a0_4 a1 = some true
theorem laws_FnExactFindNode.walk (P : laws_FnExactFindNode.Pure) (a0_0 : Int) (A0_1 : Option Addr) (c0_1 : Nat) (l0_1 : List Int) (a0_2 : Int) (A0_3 : Option Addr) (c0_3 : Nat) (l0_3 : List Int) (a0_4 : ByteArray) (a1 : ByteArray) (w : World) (hw0_0 : (Lit.int .i64 a0_0).wf = true) (hr0_1 : Kd.C (Kd.int .i64) w A0_1 l0_1.length l0_1) (hc0_1 : l0_1.length ≤ c0_1) (hm0_1 : l0_1.length ≤ maxLen) (hw0_1 : ∀ x ∈ l0_1, (Lit.int .i64 x).wf = true) (hw0_2 : (Lit.int .i64 a0_2).wf = true) (hr0_3 : Kd.C (Kd.int .i64) w A0_3 l0_3.length l0_3) (hc0_3 : l0_3.length ≤ c0_3) (hm0_3 : l0_3.length ≤ maxLen) (hw0_3 : ∀ x ∈ l0_3, (Lit.int .i64 x).wf = true) (hw0_4 : a0_4.size ≤ maxLen) (hw1 : a1.size ≤ maxLen) :
  Calls Tryz.prog 3 #[.agg #[.int .i64 a0_0, .slice A0_1 l0_1.length c0_1, .int .i64 a0_2, .slice A0_3 l0_3.length c0_3, .string a0_4], .string a1] w fun e w' => e = .returned (.bool true) ∧ Below w.heap.size w w' := by
 obtain ⟨k, h⟩ := P a0_0 l0_1 a0_2 l0_3 a0_4 a1 hw0_0 hm0_1 hw0_1 hw0_2 hm0_3 hw0_3 hw0_4 hw1; refine (laws_FnExactFindNode.calls k a0_0 A0_1 c0_1 l0_1 a0_2 A0_3 c0_3 l0_3 a0_4 a1 true w hr0_1 hc0_1 hr0_3 hc0_3 h).mono ?_; rintro e w' ⟨rfl, hd⟩; exact ⟨rfl, hd⟩

end Go.Proofs.YtalfkfddpamnjaaGreat.PA
namespace Go.Proofs.YtalfkfddpamnjaaGreatGp
open Go Go.ChangeShapes Go.WideShapes Go.RowKit Go.Proofs.YtalfkfddpamnjaaGreatW.PrintWords
open Go.WideElems
section
variable {H : Type} {enc : TypeId × Value → H} {P : Program} {w : World} {base : Nat} {held : Bool}

theorem struct_field {spare : Nat → Bool} {t : TypeId} {fuel : Nat} {cs : List Value} {x : DataW H × List MemPlace} {fs : Array Field} (ht : P.underlying t = some (.struct fs)) (h : DataW.trod enc P w base spare held fuel t cs = some x)
    (i : Nat) {f : Field} (hf : fs[i]? = some f) {c : Nat} (hc : P.cellsOf f.type = c) :
    ∃ n y, DataW.trod enc P w base spare held n f.type ((cs.drop f.offset).take c) = some y := by
  obtain ⟨xs, n, _, _, _, hl, hg⟩ := DataW.trod_struct ht h
  have hi : i < xs.length := by rw [hl]; exact (Array.getElem?_eq_some_iff.1 hf).1
  have h1 := hg i f hf
  rw [hc, List.getElem?_eq_getElem hi] at h1
  exact ⟨n, _, h1⟩

theorem leaf_int {spare : Nat → Bool} {t : TypeId} {fuel : Nat} {c : Value} {x : DataW H × List MemPlace} {k : IntKind} (ht : P.underlying t = some (.int k)) (h : DataW.trod enc P w base spare held fuel t [c] = some x) :
    ∃ n, c = .int k n ∧ (Lit.int k n).wf = true := by
  obtain ⟨n, e, _, hw⟩ := DataW.trod_int ht h
  exact ⟨n, by simpa using e, hw⟩

theorem leaf_bool {spare : Nat → Bool} {t : TypeId} {fuel : Nat} {c : Value} {x : DataW H × List MemPlace} (ht : P.underlying t = some .bool) (h : DataW.trod enc P w base spare held fuel t [c] = some x) :
    ∃ b, c = .bool b := by
  obtain ⟨b, e, _⟩ := DataW.trod_bool ht h
  exact ⟨b, by simpa using e⟩

theorem leaf_str {spare : Nat → Bool} {t : TypeId} {fuel : Nat} {c : Value} {x : DataW H × List MemPlace} (ht : P.underlying t = some .string) (h : DataW.trod enc P w base spare held fuel t [c] = some x) :
    ∃ s, c = .string s ∧ s.size ≤ maxLen := by
  obtain ⟨s, e, _, hw⟩ := DataW.trod_string ht h
  exact ⟨s, by simpa using e, hw⟩

theorem leaf_ints {t e : TypeId} {fuel : Nat} {c : Value} {x : DataW H × List MemPlace} {k : IntKind} (ht : P.underlying t = some (.slice e)) (he : P.underlying e = some (.int k)) (hc : P.cellsOf e = 1)
    (h : DataW.trod enc P w base (fun _ => true) held fuel t [c] = some x) :
    ∃ (A : Option Addr) (l : List Int) (cap : Nat), c = .slice A l.length cap ∧ (Kd.int k).C w A l.length l ∧ l.length ≤ cap ∧ l.length ≤ maxLen ∧ ∀ n ∈ l, (Lit.int k n).wf = true := by
  rcases open_ints ht he hc h with ⟨hcs, _⟩ | ⟨a, len, cap, zs, hcs, _, hl, hm, hz, _, hcell, hw⟩
  · obtain rfl : c = .slice none 0 0 := by simpa using hcs
    obtain ⟨l, e, hr, h1, h2, h3⟩ := ReadsInt.ofRowC (k := k) (w := w) (a := none) (len := 0) (cap := 0) (zs := []) (.inl ⟨rfl, rfl, rfl, rfl⟩)
    refine ⟨none, l, 0, by rw [← e], Kd.C_of_reads (d := (0 : Int)) (h1 := fun _ => rfl) hr, h3, h1, h2⟩
  · obtain rfl : c = .slice (some a) len cap := by simpa using hcs
    obtain ⟨l, e, hr, h1, h2, h3⟩ := ReadsInt.ofRowC (k := k) (w := w) (a := some a) (len := len) (cap := cap) (zs := zs) (.inr ⟨a, rfl, hl, hm, by simpa using hz, hcell, hw⟩)
    subst e
    exact ⟨some a, l, cap, rfl, Kd.C_of_reads (d := (0 : Int)) (h1 := fun _ => rfl) hr, h3, h1, h2⟩

theorem leaf_strs {t e : TypeId} {fuel : Nat} {c : Value} {x : DataW H × List MemPlace} (ht : P.underlying t = some (.slice e)) (he : P.underlying e = some .string) (hc : P.cellsOf e = 1)
    (h : DataW.trod enc P w base (fun _ => true) held fuel t [c] = some x) :
    ∃ (A : Option Addr) (l : List ByteArray) (cap : Nat), c = .slice A l.length cap ∧ Kd.string.C w A l.length l ∧ l.length ≤ cap ∧ l.length ≤ maxLen ∧ ∀ s ∈ l, s.size ≤ maxLen := by
  rcases open_strings ht he hc h with ⟨hcs, _⟩ | ⟨a, len, cap, ss, hcs, _, hl, hm, hz, _, hcell, hw⟩
  · obtain rfl : c = .slice none 0 0 := by simpa using hcs
    refine ⟨none, [], 0, rfl, Kd.C_of_reads (d := ByteArray.empty) (h1 := fun _ => rfl) ⟨rfl, by simp, fun hn => absurd hn (by simp)⟩, Nat.le_refl _, Nat.zero_le _, fun s hs => by simp at hs⟩
  · obtain rfl : c = .slice (some a) len cap := by simpa using hcs
    simp only [if_true] at hz
    have e : (ss.take len).length = len := by simp; omega
    refine ⟨some a, ss.take len, cap, by rw [e], Kd.C_of_reads (d := ByteArray.empty) (h1 := fun _ => rfl) ⟨rfl, ?_, fun _ => ⟨a, rfl, fun j hj => ?_⟩⟩, by rw [e]; exact hl, by rw [e]; exact Nat.le_trans hl hm, fun s hs => hw s (List.mem_of_mem_take hs)⟩
    · rw [e]; have := Nat.le_trans hl hm; simpa [maxLen] using this
    · rw [e] at hj
      rw [hcell j (by omega)]
      simp [List.getD, hj]
theorem trod_agg {spare : Nat → Bool} {t : TypeId} {fuel : Nat} {l : List Value} {x : Option (DataW H × List MemPlace)} (h : DataW.trod enc P w base spare held fuel t (Value.agg ⟨l⟩).cells.toList = x) :
    DataW.trod enc P w base spare held fuel t l = x := by simpa [Value.cells] using h
end
theorem arr1 {cs : Array Value} (h : cs.size = 1) : ∃ c0, cs = #[c0] := by
  obtain ⟨l⟩ := cs
  match l, h with
  | [c0], _ => exact ⟨_, rfl⟩
theorem arr2 {cs : Array Value} (h : cs.size = 2) : ∃ c0 c1, cs = #[c0, c1] := by
  obtain ⟨l⟩ := cs
  match l, h with
  | [c0, c1], _ => exact ⟨_, _, rfl⟩
theorem arr3 {cs : Array Value} (h : cs.size = 3) : ∃ c0 c1 c2, cs = #[c0, c1, c2] := by
  obtain ⟨l⟩ := cs
  match l, h with
  | [c0, c1, c2], _ => exact ⟨_, _, _, rfl⟩
theorem arr4 {cs : Array Value} (h : cs.size = 4) : ∃ c0 c1 c2 c3, cs = #[c0, c1, c2, c3] := by
  obtain ⟨l⟩ := cs
  match l, h with
  | [c0, c1, c2, c3], _ => exact ⟨_, _, _, _, rfl⟩
theorem arr5 {cs : Array Value} (h : cs.size = 5) : ∃ c0 c1 c2 c3 c4, cs = #[c0, c1, c2, c3, c4] := by
  obtain ⟨l⟩ := cs
  match l, h with
  | [c0, c1, c2, c3, c4], _ => exact ⟨_, _, _, _, _, rfl⟩
theorem arr6 {cs : Array Value} (h : cs.size = 6) : ∃ c0 c1 c2 c3 c4 c5, cs = #[c0, c1, c2, c3, c4, c5] := by
  obtain ⟨l⟩ := cs
  match l, h with
  | [c0, c1, c2, c3, c4, c5], _ => exact ⟨_, _, _, _, _, _, rfl⟩
theorem arr7 {cs : Array Value} (h : cs.size = 7) : ∃ c0 c1 c2 c3 c4 c5 c6, cs = #[c0, c1, c2, c3, c4, c5, c6] := by
  obtain ⟨l⟩ := cs
  match l, h with
  | [c0, c1, c2, c3, c4, c5, c6], _ => exact ⟨_, _, _, _, _, _, _, rfl⟩
theorem arr8 {cs : Array Value} (h : cs.size = 8) : ∃ c0 c1 c2 c3 c4 c5 c6 c7, cs = #[c0, c1, c2, c3, c4, c5, c6, c7] := by
  obtain ⟨l⟩ := cs
  match l, h with
  | [c0, c1, c2, c3, c4, c5, c6, c7], _ => exact ⟨_, _, _, _, _, _, _, _, rfl⟩
end Go.Proofs.YtalfkfddpamnjaaGreatGp
namespace Go.Proofs.YtalfkfddpamnjaaGreatQ
open Go Go.RowKit Go.Proofs.YtalfkfddpamnjaaGreatW.PrintWords Go.Proofs.YtalfkfddpamnjaaGreatGp

theorem ev_succ {α : Type} {g : Nat → Option α} {r : α} (h : Ev (fun k => g (k + 1)) r) : Ev g r := Ev.step (f := fun k => g (k + 1)) (fun _ => rfl) h
theorem ev_some {α : Type} {a r : α} (h : a = r) : Ev (fun _ => some a) r := h ▸ Ev.now a
theorem ev_pos {α : Type} {c : Prop} [Decidable c] {f g : Nat → Option α} {r : α} (h : c) (k : Ev f r) : Ev (fun n => if c then f n else g n) r := by simpa only [if_pos h] using k
theorem ev_neg {α : Type} {c : Prop} [Decidable c] {f g : Nat → Option α} {r : α} (h : ¬ c) (k : Ev g r) : Ev (fun n => if c then f n else g n) r := by simpa only [if_neg h] using k
theorem ev_bind {α β : Type} {g : Nat → Option α} {f : Nat → α → Option β} {r : β} (a : α) (h : Ev g a) (k : Ev (fun n => f n a) r) : Ev (fun n => (g n).bind (f n)) r := Ev.bind h k
theorem ev_inj {α : Type} {g : Nat → Option α} {r r' : α} (h : Ev g r) (h' : Ev g r') : r = r' := by
  obtain ⟨K, h⟩ := h
  obtain ⟨K', h'⟩ := h'
  have a := h (max K K') (Nat.le_max_left _ _)
  have b := h' (max K K') (Nat.le_max_right _ _)
  exact Option.some.inj (a.symm.trans b)

theorem w64 {x : Int} (h0 : -9223372036854775808 ≤ x) (h1 : x ≤ 9223372036854775807) : wrap64 x = x := by unfold wrap64; omega
theorem winc {i : Nat} (h : (i : Int) < 9223372036854775807) : wrap64 ((i : Int) + 1) = ((i + 1 : Nat) : Int) := by unfold wrap64; omega
theorem wdec {i : Nat} (h : (i : Int) < 9223372036854775807) : wrap64 (((i + 1 : Nat) : Int) - 1) = (i : Int) := by unfold wrap64; omega
theorem wdec' {i : Nat} (h : (i : Int) < 9223372036854775807) : wrap64 ((i : Int) + 1 - 1) = (i : Int) := by unfold wrap64; omega
theorem maxLen_eq : maxLen = 9223372036854775807 := by unfold maxLen; rfl
theorem wf64 {n : Int} (h : (Lit.int .i64 n).wf = true) : -9223372036854775808 ≤ n ∧ n ≤ 9223372036854775807 := by
  simp only [Lit.wf, Bool.and_eq_true, decide_eq_true_eq] at h
  exact h

section
variable {α : Type} {d : α} {pre t : List α} {s : α}
theorem rdOf_mid : rdOf d (pre ++ s :: t) ((pre.length : Nat) : Int) = s := by simp [rdOf]
theorem rdOf_last {p : α} : rdOf d ((pre ++ [p]) ++ s :: t) ((pre.length : Nat) : Int) = p := by simp [rdOf]
theorem rdOf_get {xs : List α} {i : Nat} (h : i < xs.length) : rdOf d xs (i : Int) = xs[i] := by simp [rdOf, h]
theorem lt_mid : ((pre.length : Nat) : Int) < ((pre ++ s :: t).length : Int) := by simp; omega
theorem not_lt_end : ¬ ((pre.length : Nat) : Int) < ((pre ++ ([] : List α)).length : Int) := by simp
theorem set_mid {x : α} : (pre ++ s :: t).set ((pre.length : Nat) : Int).toNat x = pre ++ x :: t := by simp
theorem app_one : (pre ++ [s]) ++ t = pre ++ s :: t := by simp
theorem len_one : ((pre ++ [s]).length : Int) = ((pre.length + 1 : Nat) : Int) := by simp
end
theorem rd_mid {pre t : List Int} {s : Int} : rd (pre ++ s :: t) ((pre.length : Nat) : Int) = s := by simp [rd]
theorem rd_get {xs : List Int} {i : Nat} (h : i < xs.length) : rd xs (i : Int) = xs[i] := by simp [rd, h]

theorem tl (s : ByteArray) : s.toList = s.data.toList := Lib.toList_data s
theorem tl_inj {x y : ByteArray} : x.toList = y.toList ↔ x = y := by
  rw [tl, tl]
  exact ⟨fun h => ByteArray.ext (Array.toList_inj.1 h), fun h => h ▸ rfl⟩
theorem size_len (s : ByteArray) : s.size = s.data.toList.length := (data_length s).symm
theorem bt_mid {s : ByteArray} {pre t : List UInt8} {c : UInt8} (h : s.data.toList = pre ++ c :: t) : bt s ((pre.length : Nat) : Int) = (c.toNat : Int) := by
  have hs : pre.length < s.size := by rw [size_len, h]; simp
  have hg : s[pre.length]'hs = c := by
    have : s.data.toList[pre.length]'(by rw [h]; simp) = c := by simp [h]
    rw [← this]; rfl
  unfold bt
  rw [dif_pos (by simpa using hs)]
  simp only [Int.toNat_natCast, hg]
theorem lt_size {s : ByteArray} {pre t : List UInt8} {c : UInt8} (h : s.data.toList = pre ++ c :: t) : ((pre.length : Nat) : Int) < (s.size : Int) := by rw [size_len, h]; simp; omega
theorem not_lt_size {s : ByteArray} {pre : List UInt8} (h : s.data.toList = pre ++ []) : ¬ ((pre.length : Nat) : Int) < (s.size : Int) := by rw [size_len, h]; simp
theorem bt_get {s : ByteArray} {i : Nat} (h : i < s.data.toList.length) : bt s (i : Int) = ((s.data.toList[i]'h).toNat : Int) := by
  have hs : i < s.size := by rw [size_len]; exact h
  unfold bt
  rw [dif_pos (by simpa using hs)]
  rfl
theorem ext_len {s : ByteArray} {n : Nat} : (s.extract 0 n).size = min n s.size := by simp

def lessS (a b : ByteArray) : Bool := Op.bytesLess a.toList b.toList
theorem lessS_irrefl (a : ByteArray) : lessS a a = false := bl_irrefl _
theorem bl_trans : ∀ a b c : List UInt8, Op.bytesLess a b = true → Op.bytesLess b c = true → Op.bytesLess a c = true
  | [], _, [], _, h => by cases ‹List UInt8› <;> simp [Op.bytesLess] at h
  | [], _, _ :: _, _, _ => by simp [Op.bytesLess]
  | _ :: _, [], _, h, _ => by simp [Op.bytesLess] at h
  | _ :: _, _ :: _, [], _, h => by simp [Op.bytesLess] at h
  | a :: l, b :: m, c :: n, h1, h2 => by
    have ih := bl_trans l m n
    simp only [Op.bytesLess, Bool.or_eq_true, Bool.and_eq_true, decide_eq_true_eq, beq_iff_eq, UInt8.lt_iff_toNat_lt] at h1 h2 ⊢
    rcases h1 with h1 | ⟨rfl, h1⟩
    · rcases h2 with h2 | ⟨rfl, h2⟩
      · exact .inl (by omega)
      · exact .inl h1
    · rcases h2 with h2 | ⟨rfl, h2⟩
      · exact .inl h2
      · exact .inr ⟨rfl, ih h1 h2⟩
theorem lessS_trans {a b c : ByteArray} (h1 : lessS a b = true) (h2 : lessS b c = true) : lessS a c = true := bl_trans _ _ _ h1 h2
theorem lessS_total (a b : ByteArray) (h : lessS a b = false) : lessS b a = true ∨ a = b := by
  have t := bl_total a.toList b.toList
  unfold lessS at h ⊢
  rw [h] at t
  by_cases e : a = b
  · exact .inr e
  · left
    have : (a.toList == b.toList) = false := by simpa [tl_inj] using e
    rw [this] at t
    have t2 := bl_total b.toList a.toList
    cases hb : Op.bytesLess b.toList a.toList
    · rw [hb, h] at t2
      simp only [Bool.false_or, Bool.not_false] at t2
      exact absurd (tl_inj.1 (by simpa using t2)) (fun e' => e e'.symm)
    · rfl
theorem lessS_asymm {a b : ByteArray} (h : lessS a b = true) : lessS b a = false := by
  cases hb : lessS b a
  · rfl
  · have := lessS_trans h hb
    rw [lessS_irrefl] at this
    cases this
theorem lessS_ne {a b : ByteArray} (h : lessS a b = true) : a ≠ b := by
  rintro rfl
  rw [lessS_irrefl] at h
  cases h
end Go.Proofs.YtalfkfddpamnjaaGreatQ
namespace Go.Proofs.YtalfkfddpamnjaaGreatQ
open Go Go.RowKit Go.Proofs.YtalfkfddpamnjaaGreatW.PrintWords Go.Proofs.YtalfkfddpamnjaaGreatGp Go.Proofs.YtalfkfddpamnjaaGreat.PA

theorem eqIntS_l0 (x0 x1 : List Int) (hl : (x0.length : Int) ≤ 9223372036854775806) : ∀ (t u pre pre' : List Int), x0 = pre ++ t → x1 = pre' ++ u → pre.length = pre'.length → t.length = u.length →
    Ev (fun k => laws_eqIntS.l0 k x0 x1 (pre.length : Int)) (decide (t = u)) := by
  intro t
  induction t with
  | nil =>
    intro u pre pre' h h' hp hu
    obtain rfl := List.length_eq_zero_iff.1 hu.symm
    refine ev_succ ?_
    simp only [laws_eqIntS.l0]
    exact ev_neg (by rw [h]; exact not_lt_end) (ev_some (by simp))
  | cons s t ih =>
    intro u pre pre' h h' hp hu
    cases u with
    | nil => simp at hu
    | cons q u =>
      have hm : ((pre.length : Nat) : Int) < (x0.length : Int) := by rw [h]; exact lt_mid
      have hm' : ((pre.length : Nat) : Int) < (x1.length : Int) := by rw [h', hp]; exact lt_mid
      have hg : rd x0 (pre.length : Int) = s := by rw [h]; exact rd_mid
      have hg' : rd x1 (pre.length : Int) = q := by rw [h', hp]; exact rd_mid
      refine ev_succ ?_
      simp only [laws_eqIntS.l0, hg, hg']
      refine ev_pos hm (ev_pos (by omega) (ev_pos hm' ?_))
      by_cases c : s = q
      · refine ev_pos c ?_
        rw [winc (by omega)]
        have := ih u (pre ++ [s]) (pre' ++ [q]) (by rw [h]; simp) (by rw [h']; simp) (by simp [hp]) (by simpa using hu)
        rw [len_one] at this
        rw [show decide (s :: t = q :: u) = decide (t = u) from by simp [c]]
        exact this
      · exact ev_neg c (ev_some (by simp [c]))
theorem eqIntS_f (a b : List Int) (hl : (a.length : Int) ≤ 9223372036854775806) : Ev (fun k => laws_eqIntS.f k a b) (decide (a = b)) := by
  unfold laws_eqIntS.f
  by_cases c : a.length = b.length
  · refine ev_pos (by omega) ?_
    exact eqIntS_l0 a b hl a b [] [] rfl rfl rfl c
  · exact ev_neg (by omega) (ev_some (by
      have : ¬ a = b := fun e => c (by rw [e])
      simp [this]))

end Go.Proofs.YtalfkfddpamnjaaGreatQ
namespace Go.Proofs.YtalfkfddpamnjaaGreatQ
open Go Go.RowKit Go.Proofs.YtalfkfddpamnjaaGreatW.PrintWords Go.Proofs.YtalfkfddpamnjaaGreatGp Go.Proofs.YtalfkfddpamnjaaGreat.PA

theorem toIntS_l0 (x0 : List Int) (hl : (x0.length : Int) ≤ 1048576) : ∀ (t pre r : List Int), x0 = pre ++ t → r.length = t.length →
    Ev (fun k => laws_toIntS.l0 k x0 (pre ++ r) (pre.length : Int)) x0 := by
  intro t
  induction t with
  | nil =>
    intro pre r h hr
    obtain rfl := List.length_eq_zero_iff.1 hr
    refine ev_succ ?_
    simp only [laws_toIntS.l0]
    refine ev_neg (by rw [h]; exact not_lt_end) (ev_some h.symm)
  | cons s t ih =>
    intro pre r h hr
    cases r with
    | nil => simp at hr
    | cons q r =>
      have hm : ((pre.length : Nat) : Int) < (x0.length : Int) := by rw [h]; exact lt_mid
      have hg : rd x0 (pre.length : Int) = s := by rw [h]; exact rd_mid
      refine ev_succ ?_
      simp only [laws_toIntS.l0, hg, set_mid]
      refine ev_pos hm (ev_pos (by omega) (ev_pos lt_mid ?_))
      rw [winc (by omega)]
      have := ih (pre ++ [s]) r (by rw [h]; simp) (by simpa using hr)
      rw [len_one, app_one] at this
      exact this
theorem toIntS_f (l : List Int) (hl : (l.length : Int) ≤ 1048576) : Ev (fun k => laws_toIntS.f k l) l := by
  unfold laws_toIntS.f
  refine ev_pos (by omega) (ev_pos (by simp only [Int.toNat_natCast]; omega) ?_)
  simp only [Int.toNat_natCast]
  have := toIntS_l0 l hl l [] (List.replicate l.length (0 : Int)) rfl (by simp)
  exact this
end Go.Proofs.YtalfkfddpamnjaaGreatQ
namespace Go.Proofs.YtalfkfddpamnjaaGreatQ
open Go Go.RowKit Go.Proofs.YtalfkfddpamnjaaGreatW.PrintWords Go.Proofs.YtalfkfddpamnjaaGreatGp Go.Proofs.YtalfkfddpamnjaaGreat.PA

theorem spec_in (n a b : Int) : spec_l1In.f n a b = some (decide (a ≤ n ∧ n ≤ b)) := by
  unfold spec_l1In.f
  by_cases h : a ≤ n <;> by_cases h' : n ≤ b <;> simp [h, h']
theorem impl_in (n a b : Int) : impl_in.f n a b = some (decide (a ≤ n ∧ n ≤ b)) := by
  unfold impl_in.f
  by_cases h : a ≤ n <;> by_cases h' : n ≤ b <;> simp [h, h']

def byteOk (c : UInt8) : Bool := decide (33 ≤ (c.toNat : Int) ∧ (c.toNat : Int) ≤ 125)
def isKeyB (s : ByteArray) : Bool := s.data.toList.all byteOk && decide (1 ≤ (s.size : Int) ∧ (s.size : Int) ≤ 12)
theorem spec_IsKey_l0 (x0 : ByteArray) (hz : (x0.size : Int) ≤ 9223372036854775806) : ∀ (t pre : List UInt8), x0.data.toList = pre ++ t →
    Ev (fun k => spec_IsKey.l0 k x0 (pre.length : Int)) (t.all byteOk && decide (1 ≤ (x0.size : Int) ∧ (x0.size : Int) ≤ 12)) := by
  intro t
  induction t with
  | nil =>
    intro pre h
    refine ev_succ ?_
    simp only [spec_IsKey.l0, spec_in, Option.bind_some]
    exact ev_neg (not_lt_size h) (ev_some (by simp))
  | cons c t ih =>
    intro pre h
    have hm := lt_size h
    refine ev_succ ?_
    simp only [spec_IsKey.l0, bt_mid h]
    refine ev_pos hm (ev_pos (by omega) ?_)
    by_cases c1 : (c.toNat : Int) < 33
    · exact ev_pos c1 (ev_some (by simp [byteOk]; omega))
    · refine ev_neg c1 ?_
      by_cases c2 : (c.toNat : Int) > 125
      · exact ev_pos c2 (ev_some (by simp [byteOk]; omega))
      · refine ev_neg c2 ?_
        rw [winc (by omega)]
        have := ih (pre ++ [c]) (by rw [h]; simp)
        rw [len_one] at this
        have hb : byteOk c = true := by simp [byteOk]; omega
        simpa [hb] using this
theorem spec_IsKey_f (s : ByteArray) (hz : (s.size : Int) ≤ 9223372036854775806) : Ev (fun k => spec_IsKey.f k s) (isKeyB s) := by
  unfold spec_IsKey.f
  exact spec_IsKey_l0 s hz s.data.toList [] rfl
theorem impl_IsKey_l0 (x0 : ByteArray) (hz : (x0.size : Int) ≤ 9223372036854775806) : ∀ (t pre : List UInt8), x0.data.toList = pre ++ t →
    Ev (fun k => impl_IsKey.l0 k x0 (x0.size : Int) (pre.length : Int)) (t.all byteOk && decide (1 ≤ (x0.size : Int) ∧ (x0.size : Int) ≤ 12)) := by
  intro t
  induction t with
  | nil =>
    intro pre h
    refine ev_succ ?_
    simp only [impl_IsKey.l0, impl_in, Option.bind_some]
    exact ev_neg (not_lt_size h) (ev_some (by simp))
  | cons c t ih =>
    intro pre h
    have hm := lt_size h
    refine ev_succ ?_
    simp only [impl_IsKey.l0, bt_mid h]
    refine ev_pos hm (ev_pos (by omega) (ev_pos hm ?_))
    by_cases c1 : (c.toNat : Int) < 33
    · exact ev_pos c1 (ev_some (by simp [byteOk]; omega))
    · refine ev_neg c1 ?_
      by_cases c2 : (c.toNat : Int) > 125
      · exact ev_pos c2 (ev_some (by simp [byteOk]; omega))
      · refine ev_neg c2 ?_
        rw [winc (by omega)]
        have := ih (pre ++ [c]) (by rw [h]; simp)
        rw [len_one] at this
        have hb : byteOk c = true := by simp [byteOk]; omega
        simpa [hb] using this
theorem impl_IsKey_f (s : ByteArray) (hz : (s.size : Int) ≤ 9223372036854775806) : Ev (fun k => impl_IsKey.f k s) (isKeyB s) := by
  unfold impl_IsKey.f
  exact impl_IsKey_l0 s hz s.data.toList [] rfl
theorem isKeyB_size {s : ByteArray} (h : isKeyB s = true) : 1 ≤ s.size ∧ s.size ≤ 12 := by
  simp [isKeyB] at h
  omega

def keysFrom : Option ByteArray → List ByteArray → Bool
  | _, [] => true
  | p, s :: t => isKeyB s && (match p with | none => true | some q => lessS q s) && keysFrom (some s) t
def areKeysB (l : List ByteArray) : Bool := keysFrom none l && decide ((l.length : Int) ≤ 40)
def lastOf (pre : List ByteArray) : Option ByteArray := pre.getLast?
theorem lastOf_one (pre : List ByteArray) (s : ByteArray) : lastOf (pre ++ [s]) = some s := by simp [lastOf]
theorem lastOf_nil : lastOf [] = none := rfl
theorem last_split {pre : List ByteArray} (h : 0 < pre.length) : ∃ q p, pre = q ++ [p] := by
  obtain ⟨x, hx⟩ : ∃ x, pre.getLast? = some x := by
    cases hp : pre.getLast? with
    | none => rw [List.getLast?_eq_none_iff] at hp; subst hp; simp at h
    | some x => exact ⟨x, rfl⟩
  obtain ⟨q, hq⟩ := List.getLast?_eq_some_iff.1 hx
  exact ⟨q, x, hq⟩

theorem spec_biKeys_l0 (x0 : List ByteArray) (hl : (x0.length : Int) ≤ 9223372036854775806) : ∀ (t pre : List ByteArray), x0 = pre ++ t → (∀ s ∈ t, (s.size : Int) ≤ 9223372036854775806) →
    Ev (fun k => spec_biKeys.l0 k x0 x0 (x0.length : Int) (pre.length : Int)) (keysFrom (lastOf pre) t && decide ((x0.length : Int) ≤ 40)) := by
  intro t
  induction t with
  | nil =>
    intro pre h hs
    refine ev_succ ?_
    simp only [spec_biKeys.l0]
    exact ev_neg (by rw [h]; exact not_lt_end) (ev_some (by simp [keysFrom]))
  | cons s t ih =>
    intro pre h hs
    have hm : ((pre.length : Nat) : Int) < (x0.length : Int) := by rw [h]; exact lt_mid
    have hg : rdOf ByteArray.empty x0 (pre.length : Int) = s := by rw [h]; exact rdOf_mid
    have next := ih (pre ++ [s]) (by rw [h]; simp) (fun x hx => hs x (by simp [hx]))
    rw [len_one, lastOf_one] at next
    refine ev_succ ?_
    simp only [spec_biKeys.l0, hg]
    refine ev_pos hm (ev_pos (by omega) (ev_pos hm (ev_bind _ (spec_IsKey_f s (hs s (by simp))) ?_)))
    cases hk : isKeyB s with
    | false => exact ev_neg (by simp) (ev_some (by simp [keysFrom, hk]))
    | true =>
      refine ev_pos rfl ?_
      by_cases c : 0 < pre.length
      · obtain ⟨q, p, rfl⟩ := last_split c
        have hp : rdOf ByteArray.empty x0 ((q.length : Nat) : Int) = p := by rw [h]; exact rdOf_last
        have hw : wrap64 (((q ++ [p]).length : Int) - 1) = (q.length : Int) := by rw [len_one]; exact wdec (by simp at hm; omega)
        simp only [hw, hp, lastOf_one, keysFrom, hk, Bool.true_and]
        refine ev_pos (by omega) (ev_pos (by omega) (ev_pos (by simp at hm; omega) ?_))
        by_cases c2 : lessS p s = true
        · refine ev_pos c2 ?_
          rw [winc (by omega), c2, Bool.true_and]
          exact next
        · refine ev_neg c2 (ev_some ?_)
          simp only [Bool.not_eq_true] at c2
          simp [c2]
      · obtain rfl := List.length_eq_zero_iff.1 (show pre.length = 0 by omega)
        refine ev_neg (by simp) ?_
        rw [winc (by omega)]
        simp only [lastOf_nil, keysFrom, hk, Bool.true_and]
        exact next
theorem spec_biKeys_f (l : List ByteArray) (hl : (l.length : Int) ≤ 9223372036854775806) (hs : ∀ s ∈ l, (s.size : Int) ≤ 9223372036854775806) : Ev (fun k => spec_biKeys.f k l) (areKeysB l) := by
  unfold spec_biKeys.f
  exact spec_biKeys_l0 l hl l [] rfl hs
theorem impl_AreKeys_l0 (x0 : List ByteArray) (hl : (x0.length : Int) ≤ 9223372036854775806) : ∀ (t pre : List ByteArray), x0 = pre ++ t → (∀ s ∈ t, (s.size : Int) ≤ 9223372036854775806) →
    Ev (fun k => impl_AreKeys.l0 k x0 x0 (x0.length : Int) (pre.length : Int)) (keysFrom (lastOf pre) t && decide ((x0.length : Int) ≤ 40)) := by
  intro t
  induction t with
  | nil =>
    intro pre h hs
    refine ev_succ ?_
    simp only [impl_AreKeys.l0]
    exact ev_neg (by rw [h]; exact not_lt_end) (ev_some (by simp [keysFrom]))
  | cons s t ih =>
    intro pre h hs
    have hm : ((pre.length : Nat) : Int) < (x0.length : Int) := by rw [h]; exact lt_mid
    have hg : rdOf ByteArray.empty x0 (pre.length : Int) = s := by rw [h]; exact rdOf_mid
    have next := ih (pre ++ [s]) (by rw [h]; simp) (fun x hx => hs x (by simp [hx]))
    rw [len_one, lastOf_one] at next
    refine ev_succ ?_
    simp only [impl_AreKeys.l0, hg]
    refine ev_pos hm (ev_pos (by omega) (ev_pos hm (ev_bind _ (impl_IsKey_f s (hs s (by simp))) ?_)))
    cases hk : isKeyB s with
    | false => exact ev_neg (by simp) (ev_some (by simp [keysFrom, hk]))
    | true =>
      refine ev_pos rfl ?_
      by_cases c : 0 < pre.length
      · obtain ⟨q, p, rfl⟩ := last_split c
        have hp : rdOf ByteArray.empty x0 ((q.length : Nat) : Int) = p := by rw [h]; exact rdOf_last
        have hw : wrap64 (((q ++ [p]).length : Int) - 1) = (q.length : Int) := by rw [len_one]; exact wdec (by simp at hm; omega)
        simp only [hw, hp, lastOf_one, keysFrom, hk, Bool.true_and]
        refine ev_pos (by omega) (ev_pos (by omega) (ev_pos (by simp at hm; omega) ?_))
        by_cases c2 : lessS p s = true
        · refine ev_pos c2 ?_
          rw [winc (by omega), c2, Bool.true_and]
          exact next
        · refine ev_neg c2 (ev_some ?_)
          simp only [Bool.not_eq_true] at c2
          simp [c2]
      · obtain rfl := List.length_eq_zero_iff.1 (show pre.length = 0 by omega)
        refine ev_neg (by simp) ?_
        rw [winc (by omega)]
        simp only [lastOf_nil, keysFrom, hk, Bool.true_and]
        exact next
theorem impl_AreKeys_f (l : List ByteArray) (hl : (l.length : Int) ≤ 9223372036854775806) (hs : ∀ s ∈ l, (s.size : Int) ≤ 9223372036854775806) : Ev (fun k => impl_AreKeys.f k l) (areKeysB l) := by
  unfold impl_AreKeys.f
  exact impl_AreKeys_l0 l hl l [] rfl hs
theorem areKeysB_len {l : List ByteArray} (h : areKeysB l = true) : l.length ≤ 40 := by
  simp [areKeysB] at h
  omega
theorem keysFrom_all : ∀ (p : Option ByteArray) (l : List ByteArray), keysFrom p l = true → ∀ s ∈ l, isKeyB s = true
  | _, [], _, s, h => by simp at h
  | p, x :: t, hk, s, h => by
    simp only [keysFrom, Bool.and_eq_true] at hk
    rcases List.mem_cons.1 h with rfl | h
    · exact hk.1.1
    · exact keysFrom_all _ t hk.2 s h
theorem areKeysB_all {l : List ByteArray} (h : areKeysB l = true) : ∀ s ∈ l, isKeyB s = true := by
  simp only [areKeysB, Bool.and_eq_true] at h
  exact keysFrom_all _ _ h.1
theorem areKeysB_from {l : List ByteArray} (h : areKeysB l = true) : keysFrom none l = true := by
  simp only [areKeysB, Bool.and_eq_true] at h
  exact h.1
theorem keysFrom_less : ∀ (q : ByteArray) (l : List ByteArray), keysFrom (some q) l = true → ∀ s ∈ l, lessS q s = true
  | _, [], _, s, h => by simp at h
  | q, x :: t, hk, s, h => by
    simp only [keysFrom, Bool.and_eq_true] at hk
    rcases List.mem_cons.1 h with rfl | h
    · exact hk.1.2
    · exact lessS_trans hk.1.2 (keysFrom_less x t hk.2 s h)
end Go.Proofs.YtalfkfddpamnjaaGreatQ
namespace Go.Proofs.YtalfkfddpamnjaaGreatQ
open Go Go.RowKit Go.Proofs.YtalfkfddpamnjaaGreatW.PrintWords Go.Proofs.YtalfkfddpamnjaaGreatGp Go.Proofs.YtalfkfddpamnjaaGreat.PA

def hasS (l : List ByteArray) (s : ByteArray) : Bool := l.any fun x => decide (x = s)
theorem hasS_iff {l : List ByteArray} {s : ByteArray} : hasS l s = true ↔ s ∈ l := by simp [hasS]
theorem spec_l1HasS_l0 (x0 : List ByteArray) (s : ByteArray) (hl : (x0.length : Int) ≤ 9223372036854775806) : ∀ (t pre : List ByteArray), x0 = pre ++ t →
    Ev (fun k => spec_l1HasS.l0 k s x0 (x0.length : Int) (pre.length : Int)) (hasS t s) := by
  intro t
  induction t with
  | nil =>
    intro pre h
    refine ev_succ ?_
    simp only [spec_l1HasS.l0]
    exact ev_neg (by rw [h]; exact not_lt_end) (ev_some (by simp [hasS]))
  | cons x t ih =>
    intro pre h
    have hm : ((pre.length : Nat) : Int) < (x0.length : Int) := by rw [h]; exact lt_mid
    have hg : rdOf ByteArray.empty x0 (pre.length : Int) = x := by rw [h]; exact rdOf_mid
    refine ev_succ ?_
    simp only [spec_l1HasS.l0, hg, tl_inj]
    refine ev_pos hm (ev_pos (by omega) (ev_pos hm ?_))
    by_cases c : x = s
    · exact ev_pos c (ev_some (by simp [hasS, c]))
    · refine ev_neg c ?_
      rw [winc (by omega)]
      have := ih (pre ++ [x]) (by rw [h]; simp)
      rw [len_one] at this
      have e : hasS (x :: t) s = hasS t s := by simp [hasS, c]
      rw [e]
      exact this
theorem spec_l1HasS_f (l : List ByteArray) (s : ByteArray) (hl : (l.length : Int) ≤ 9223372036854775806) : Ev (fun k => spec_l1HasS.f k l s) (hasS l s) := by
  unfold spec_l1HasS.f
  exact spec_l1HasS_l0 l s hl l [] rfl
def idxS : List ByteArray → ByteArray → Nat → Int
  | [], _, _ => -1
  | x :: t, s, i => if x = s then (i : Int) else idxS t s (i + 1)
theorem idxS_mem : ∀ (l : List ByteArray) (s : ByteArray) (i : Nat), 0 ≤ idxS l s i ↔ s ∈ l
  | [], s, i => by simp [idxS]
  | x :: t, s, i => by
    simp only [idxS]
    split
    · rename_i c; simp [c]
    · rename_i c; rw [idxS_mem t s (i + 1)]; simp [Ne.symm c]
theorem slices_Index_string_string_l0 (x0 : List ByteArray) (s : ByteArray) (hl : (x0.length : Int) ≤ 9223372036854775806) : ∀ (t pre : List ByteArray), x0 = pre ++ t →
    Ev (fun k => slices_Index_string_string.l0 k x0 s (x0.length : Int) (pre.length : Int)) (idxS t s pre.length) := by
  intro t
  induction t with
  | nil =>
    intro pre h
    refine ev_succ ?_
    simp only [slices_Index_string_string.l0]
    exact ev_neg (by rw [h]; exact not_lt_end) (ev_some (by simp [idxS]))
  | cons x t ih =>
    intro pre h
    have hm : ((pre.length : Nat) : Int) < (x0.length : Int) := by rw [h]; exact lt_mid
    have hg : rdOf ByteArray.empty x0 (pre.length : Int) = x := by rw [h]; exact rdOf_mid
    refine ev_succ ?_
    simp only [slices_Index_string_string.l0, hg, tl_inj]
    refine ev_pos hm (ev_pos (by omega) (ev_pos hm ?_))
    by_cases c : s = x
    · exact ev_pos c (ev_some (by simp [idxS, c]))
    · refine ev_neg c ?_
      rw [winc (by omega)]
      have := ih (pre ++ [x]) (by rw [h]; simp)
      rw [len_one] at this
      have e : idxS (x :: t) s pre.length = idxS t s (pre ++ [x]).length := by simp [idxS, Ne.symm c]
      rw [e]
      exact this
theorem slices_Index_string_string_f (l : List ByteArray) (s : ByteArray) (hl : (l.length : Int) ≤ 9223372036854775806) : Ev (fun k => slices_Index_string_string.f k l s) (idxS l s 0) := by
  unfold slices_Index_string_string.f
  exact slices_Index_string_string_l0 l s hl l [] rfl
theorem slices_Contains_string_string_f (l : List ByteArray) (s : ByteArray) (hl : (l.length : Int) ≤ 9223372036854775806) : Ev (fun k => slices_Contains_string_string.f k l s) (hasS l s) := by
  unfold slices_Contains_string_string.f
  refine ev_bind _ (slices_Index_string_string_f l s hl) (ev_some ?_)
  rw [Bool.eq_iff_iff, hasS_iff, decide_eq_true_eq]
  exact idxS_mem l s 0
end Go.Proofs.YtalfkfddpamnjaaGreatQ
namespace Go.Proofs.YtalfkfddpamnjaaGreatQ
open Go Go.RowKit Go.Proofs.YtalfkfddpamnjaaGreatW.PrintWords Go.Proofs.YtalfkfddpamnjaaGreatW.PrintMore Go.Proofs.YtalfkfddpamnjaaGreatGp

theorem wraps_i64 (n : Int) (h0 : 0 ≤ n) (h1 : n < 2 ^ 62) : IntKind.i64.wrap n = n := by
  rw [IntKind.wrap_i64]
  have : (2 : Int) ^ 62 = 4611686018427387904 := by decide
  omega
theorem bits64 (a b : Nat) (ha : a < 2 ^ 62) (hb : b < 2 ^ 62) : Go.bits .and .i64 a b = ((a &&& b : Nat) : Int) ∧ Go.bits .or .i64 a b = ((a ||| b : Nat) : Int) :=
  bits_nat .i64 62 (by decide) wraps_i64 a b ha hb
theorem two62 : (2 : Nat) ^ 62 = 4611686018427387904 := by decide
theorem two64 : (2 : Nat) ^ 64 = 18446744073709551616 := by decide
theorem pow16 {j : Nat} (h : j < 16) : 2 ^ j < 65536 := by
  have : 2 ^ j ≤ 2 ^ 15 := Nat.pow_le_pow_right (by decide) (by omega)
  have e : (2 : Nat) ^ 15 = 32768 := by decide
  omega
theorem shl1 {j : Nat} (h : j < 16) : shl .i64 1 (j : Int) = ((2 ^ j : Nat) : Int) := by
  unfold shl
  have hj : min (j : Int).toNat IntKind.i64.bits = j := by simp [IntKind.bits]; omega
  rw [hj, Int.one_mul, show ((2 : Int) ^ j) = ((2 ^ j : Nat) : Int) from by simp]
  have hp := pow16 h
  generalize 2 ^ j = z at hp ⊢
  refine wraps_i64 _ (by omega) ?_
  have : (2 : Int) ^ 62 = 4611686018427387904 := by decide
  omega
theorem shrN {w j : Nat} (h : j < 16) : shr .i64 (w : Int) (j : Int) = ((w / 2 ^ j : Nat) : Int) := by
  unfold shr
  have hj : min (j : Int).toNat IntKind.i64.bits = j := by simp [IntKind.bits]; omega
  rw [hj]
  simp
theorem and1 {w j : Nat} (hw : w < 65536) (h : j < 16) : (Go.bits .and .i64 (shr .i64 (w : Int) (j : Int)) 1 == 1) = w.testBit j := by
  have hd : w / 2 ^ j ≤ w := Nat.div_le_self _ _
  have e : Go.bits .and .i64 ((w / 2 ^ j : Nat) : Int) ((1 : Nat) : Int) = (((w / 2 ^ j) &&& 1 : Nat) : Int) := (bits64 _ _ (by rw [two62]; omega) (by rw [two62]; omega)).1
  rw [shrN h, show (1 : Int) = ((1 : Nat) : Int) from rfl, e, Nat.and_one_is_mod, Nat.testBit_eq_decide_div_mod_eq]
  rw [Bool.eq_iff_iff]
  simp only [beq_iff_eq, decide_eq_true_eq]
  omega
theorem or1 {w j : Nat} (hw : w < 65536) (h : j < 16) : Go.bits .or .i64 (w : Int) (shl .i64 1 (j : Int)) = ((w ||| 2 ^ j : Nat) : Int) := by
  have := pow16 h
  rw [shl1 h]
  exact (bits64 _ _ (by rw [two62]; omega) (by rw [two62]; omega)).2
theorem or1_lt {w j : Nat} (hw : w < 65536) (h : j < 16) : w ||| 2 ^ j < 65536 := by
  have e : (65536 : Nat) = 2 ^ 16 := by decide
  rw [e] at hw ⊢
  have := pow16 h
  exact Nat.or_lt_two_pow hw (by omega)
theorem clr1 {w j : Nat} (hw : w < 65536) (h : j < 16) (hz : w.testBit j = false) : Go.bits .andNot .i64 (w : Int) (shl .i64 1 (j : Int)) = (w : Int) := by
  rw [shl1 h]
  have e : Go.bits .andNot .i64 (w : Int) ((2 ^ j : Nat) : Int) = IntKind.i64.wrap (((BitVec.ofInt 64 (w : Int) &&& ~~~ BitVec.ofInt 64 ((2 ^ j : Nat) : Int) : BitVec 64)).toNat : Int) := by unfold Go.bits; rfl
  have z : (BitVec.ofInt 64 (w : Int) &&& ~~~ BitVec.ofInt 64 ((2 ^ j : Nat) : Int) : BitVec 64) = BitVec.ofInt 64 (w : Int) := by
    rw [BitVec.ofInt_natCast, BitVec.ofInt_natCast]
    apply BitVec.eq_of_getLsbD_eq
    intro i hi
    simp only [BitVec.getLsbD_and, BitVec.getLsbD_not, BitVec.getLsbD_ofNat, hi, decide_true, Bool.true_and, Nat.testBit_two_pow]
    by_cases c : j = i
    · subst c; simp [hz]
    · simp [c]
  rw [e, z, BitVec.ofInt_natCast, BitVec.toNat_ofNat, Nat.mod_eq_of_lt (by rw [two64]; omega)]
  refine wraps_i64 _ (by omega) ?_
  have : (2 : Int) ^ 62 = 4611686018427387904 := by decide
  omega

def atV (l : List Int) (p : Int) : Bool := Go.bits .and .i64 (shr .i64 (rd l (p / 16)) (p % 16)) 1 == 1
def setV (l : List Int) (p : Int) : List Int := l.set (p / 16).toNat (Go.bits .or .i64 (rd l (p / 16)) (shl .i64 1 (p % 16)))
theorem setV_len (l : List Int) (p : Int) : (setV l p).length = l.length := by simp [setV]
def okW (l : List Int) : Prop := ∀ w ∈ l, 0 ≤ w ∧ w ≤ 65535
def bitN (l : List Int) (p : Nat) : Bool := (l.getD (p / 16) 0).toNat.testBit (p % 16)
theorem rdN {l : List Int} {p : Nat} (h : p / 16 < l.length) : rd l ((p : Int) / 16) = l.getD (p / 16) 0 := by
  have : ((p : Int) / 16) = ((p / 16 : Nat) : Int) := by omega
  rw [this, rd_get h, List.getD_eq_getElem?_getD, List.getElem?_eq_getElem h]
  rfl
theorem okW_get {l : List Int} (hl : okW l) {i : Nat} (h : i < l.length) : ∃ w : Nat, l.getD i 0 = (w : Int) ∧ w < 65536 := by
  have hm := hl _ (List.getElem_mem h)
  rw [List.getD_eq_getElem?_getD, List.getElem?_eq_getElem h]
  exact ⟨l[i].toNat, by simp; omega, by omega⟩
theorem atV_bit {l : List Int} (hl : okW l) {p : Nat} (h : p / 16 < l.length) : atV l (p : Int) = bitN l p := by
  obtain ⟨w, hw, hw2⟩ := okW_get hl h
  unfold atV bitN
  rw [rdN h, hw, show ((p : Int) % 16) = ((p % 16 : Nat) : Int) from by omega, and1 hw2 (by omega)]
  simp
theorem setV_get {l : List Int} (hl : okW l) {p : Nat} (h : p / 16 < l.length) : ∃ w : Nat, w < 65536 ∧ l.getD (p / 16) 0 = (w : Int) ∧ setV l (p : Int) = l.set (p / 16) ((w ||| 2 ^ (p % 16) : Nat) : Int) := by
  obtain ⟨w, hw, hw2⟩ := okW_get hl h
  refine ⟨w, hw2, hw, ?_⟩
  unfold setV
  rw [rdN h, hw, show ((p : Int) % 16) = ((p % 16 : Nat) : Int) from by omega, or1 hw2 (by omega)]
  congr 1
theorem okW_setV {l : List Int} (hl : okW l) {p : Nat} (h : p / 16 < l.length) : okW (setV l (p : Int)) := by
  obtain ⟨w, hw, _, e⟩ := setV_get hl h
  rw [e]
  intro x hx
  rcases List.mem_or_eq_of_mem_set hx with hx | rfl
  · exact hl x hx
  · have := or1_lt hw (show p % 16 < 16 by omega)
    omega
theorem bit_setV {l : List Int} (hl : okW l) {p q : Nat} (h : p / 16 < l.length) : bitN (setV l (p : Int)) q = (decide (p = q) || bitN l q) := by
  obtain ⟨w, hw, hg, e⟩ := setV_get hl h
  rw [e]
  unfold bitN
  by_cases c : p / 16 = q / 16
  · rw [← c, List.getD_eq_getElem?_getD, List.getElem?_set_self (by simpa using h), hg]
    simp only [Option.getD_some, Int.toNat_natCast, Nat.testBit_or, Nat.testBit_two_pow]
    rw [show decide (p % 16 = q % 16) = decide (p = q) from by
      rw [Bool.eq_iff_iff]; simp; omega, Bool.or_comm]
  · rw [List.getD_eq_getElem?_getD, List.getElem?_set_ne c, ← List.getD_eq_getElem?_getD, decide_eq_false (by omega), Bool.false_or]
theorem clrV {l : List Int} (hl : okW l) {p : Nat} (h : p / 16 < l.length) (hz : bitN l p = false) : l.set ((p : Int) / 16).toNat (Go.bits .andNot .i64 (rd l ((p : Int) / 16)) (shl .i64 1 ((p : Int) % 16))) = l := by
  obtain ⟨w, hw, hw2⟩ := okW_get hl h
  unfold bitN at hz
  rw [hw] at hz
  rw [rdN h, hw, show ((p : Int) % 16) = ((p % 16 : Nat) : Int) from by omega, clr1 hw2 (by omega) (by simpa using hz), show ((p : Int) / 16).toNat = p / 16 from by omega, ← hw]
  apply List.ext_getElem?
  intro i
  by_cases c : p / 16 = i
  · subst c
    rw [List.getElem?_set_self (by simpa using h), List.getD_eq_getElem?_getD, List.getElem?_eq_getElem h]
    rfl
  · rw [List.getElem?_set_ne c]

def packFrom : List Bool → Nat → List Int → List Int
  | [], _, l => l
  | b :: t, i, l => packFrom t (i + 1) (if b = true then setV l (i : Int) else l)
def blankW (n : Nat) : List Int := List.replicate ((n + 15) / 16) 0
def packB (B : List Bool) : List Int := packFrom B 0 (blankW B.length)
theorem packFrom_len : ∀ (B : List Bool) (i : Nat) (l : List Int), (packFrom B i l).length = l.length
  | [], _, _ => rfl
  | b :: t, i, l => by rw [packFrom, packFrom_len]; split <;> simp [setV_len]
theorem packFrom_ok : ∀ (B : List Bool) (i : Nat) (l : List Int), okW l → i + B.length ≤ 16 * l.length → okW (packFrom B i l) ∧ ∀ q, bitN (packFrom B i l) q = (bitN l q || (decide (i ≤ q) && B.getD (q - i) false))
  | [], i, l, h, _ => ⟨h, fun q => by simp [packFrom]⟩
  | b :: t, i, l, h, hl => by
    simp only [List.length_cons] at hl
    have hi : i / 16 < l.length := by omega
    rw [packFrom]
    by_cases c : b = true
    · rw [if_pos c]
      obtain ⟨h1, h2⟩ := packFrom_ok t (i + 1) (setV l (i : Int)) (okW_setV h hi) (by rw [setV_len]; omega)
      refine ⟨h1, fun q => ?_⟩
      rw [h2, bit_setV h hi]
      by_cases e : i = q
      · subst e; simp [c]
      · by_cases e2 : i ≤ q
        · rw [show q - i = (q - (i + 1)) + 1 from by omega, List.getD_cons_succ, decide_eq_false e, decide_eq_true e2, decide_eq_true (show i + 1 ≤ q by omega)]
          simp
        · simp [e, e2, show ¬ i + 1 ≤ q by omega]
    · rw [if_neg c]
      obtain ⟨h1, h2⟩ := packFrom_ok t (i + 1) l h (by omega)
      refine ⟨h1, fun q => ?_⟩
      rw [h2]
      have hb : b = false := by simpa using c
      subst hb
      by_cases e : i = q
      · subst e; simp [show ¬ i + 1 ≤ i by omega]
      · by_cases e2 : i ≤ q
        · rw [show q - i = (q - (i + 1)) + 1 from by omega, List.getD_cons_succ, decide_eq_true e2, decide_eq_true (show i + 1 ≤ q by omega)]
        · simp [e2, show ¬ i + 1 ≤ q by omega]
theorem okW_blank (n : Nat) : okW (blankW n) := fun w hw => by rw [List.eq_of_mem_replicate hw]; omega
theorem bit_blank (n q : Nat) : bitN (blankW n) q = false := by
  unfold bitN blankW
  rw [List.getD_eq_getElem?_getD, List.getElem?_replicate]
  split <;> simp
theorem packB_ok (B : List Bool) : okW (packB B) ∧ ∀ q, bitN (packB B) q = B.getD q false := by
  obtain ⟨h1, h2⟩ := packFrom_ok B 0 (blankW B.length) (okW_blank _) (by simp [blankW]; omega)
  exact ⟨h1, fun q => by rw [packB, h2, bit_blank]; simp⟩
theorem packB_len (B : List Bool) : (packB B).length = (B.length + 15) / 16 := by simp [packB, packFrom_len, blankW]
def bitsL (n : Int) (l : List Int) : List Bool := (List.range n.toNat).map fun (i : Nat) => atV l (i : Int)
theorem bitsL_len (n : Int) (l : List Int) : (bitsL n l).length = n.toNat := by simp [bitsL]
theorem bitsL_pack (B : List Bool) : bitsL (B.length : Int) (packB B) = B := by
  obtain ⟨h1, h2⟩ := packB_ok B
  apply List.ext_getElem
  · simp [bitsL]
  · intro i hi hi2
    have hp : i / 16 < (packB B).length := by rw [packB_len]; omega
    simp only [bitsL, List.getElem_map, List.getElem_range]
    rw [atV_bit h1 hp, h2, List.getD_eq_getElem?_getD, List.getElem?_eq_getElem hi2]
    rfl
end Go.Proofs.YtalfkfddpamnjaaGreatQ
namespace Go.Proofs.YtalfkfddpamnjaaGreatQ
open Go Go.RowKit Go.Proofs.YtalfkfddpamnjaaGreatW.PrintWords Go.Proofs.YtalfkfddpamnjaaGreatW.PrintMore Go.Proofs.YtalfkfddpamnjaaGreatGp Go.Proofs.YtalfkfddpamnjaaGreat.PA

theorem div16' {p : Int} (h0 : 0 ≤ p) (h1 : p ≤ 1000000) : wrap64 (Int.tdiv p 16) = p / 16 ∧ Int.tmod p 16 = p % 16 := by
  rw [Int.tdiv_eq_ediv_of_nonneg h0, Int.tmod_eq_emod_of_nonneg h0, w64 (by omega) (by omega)]
  exact ⟨rfl, rfl⟩
theorem ofInt_wrap (a : BitVec 64) : BitVec.ofInt 64 (IntKind.i64.wrap (a.toNat : Int)) = a := by
  have h : a.toNat < 2 ^ 64 := a.isLt
  apply BitVec.eq_of_toNat_eq
  rw [BitVec.toNat_ofInt]
  show ((IntKind.i64.wrap (a.toNat : Int)) % ((2 ^ 64 : Nat) : Int)).toNat = a.toNat
  have e : IntKind.i64.wrap (a.toNat : Int) = if (a.toNat : Int) % 18446744073709551616 ≥ 9223372036854775808 then (a.toNat : Int) % 18446744073709551616 - 18446744073709551616 else (a.toNat : Int) % 18446744073709551616 := by
    unfold IntKind.wrap
    simp [IntKind.bits, IntKind.signed]
  rw [e]
  have h2 : (2 : Nat) ^ 64 = 18446744073709551616 := by decide
  rw [h2] at h ⊢
  split <;> omega
theorem or_andNot (x b : Int) : Go.bits .or .i64 (Go.bits .andNot .i64 x b) b = Go.bits .or .i64 x b := by
  have e : ∀ op y, Go.bits op .i64 y b = IntKind.i64.wrap (((match op with | .and => BitVec.ofInt 64 y &&& BitVec.ofInt 64 b | .or => BitVec.ofInt 64 y ||| BitVec.ofInt 64 b | .xor => BitVec.ofInt 64 y ^^^ BitVec.ofInt 64 b | _ => BitVec.ofInt 64 y &&& ~~~(BitVec.ofInt 64 b)) : BitVec 64).toNat : Int) := fun op y => by
    unfold Go.bits; cases op <;> rfl
  rw [e .or, e .or, e .andNot]
  simp only
  rw [ofInt_wrap]
  congr 2
  apply congrArg
  apply BitVec.eq_of_getLsbD_eq
  intro i hi
  simp only [BitVec.getLsbD_or, BitVec.getLsbD_and, BitVec.getLsbD_not, hi, decide_true, Bool.true_and]
  cases (BitVec.ofInt 64 x).getLsbD i <;> cases (BitVec.ofInt 64 b).getLsbD i <;> rfl

theorem rd_set {l : List Int} {i : Nat} {v : Int} (h : i < l.length) : rd (l.set i v) (i : Int) = v := by simp [rd, h]
theorem spec_biSet_f (n : Int) (l : List Int) {p : Int} (h0 : 0 ≤ p) (h1 : p ≤ 1000000) (h2 : p / 16 < (l.length : Int)) : spec_biSet.f n l p = some (setV l p) := by
  unfold spec_biSet.f
  rw [(div16' h0 h1).1, (div16' h0 h1).2, if_pos (by omega), if_pos h2, if_pos (by omega)]
  rfl
theorem impl_Bits_set_f (n : Int) (l : List Int) {p : Int} (h0 : 0 ≤ p) (h1 : p ≤ 1000000) (h2 : p / 16 < (l.length : Int)) : impl_Bits_set.f n l p true = some (setV l p) := by
  unfold impl_Bits_set.f
  rw [(div16' h0 h1).1, (div16' h0 h1).2, if_pos (by omega), if_pos h2, if_pos (by omega)]
  simp only [Option.bind_some, if_true]
  obtain ⟨q, hq⟩ : ∃ q : Nat, p / 16 = (q : Int) := ⟨(p / 16).toNat, by omega⟩
  unfold setV
  rw [hq] at h2 ⊢
  simp only [Int.toNat_natCast]
  rw [rd_set (by omega), List.set_set, or_andNot]

theorem impl_Bits_set_any (n : Int) {l : List Int} (hl : okW l) {p : Nat} (h1 : p ≤ 1000000) (h2 : p / 16 < l.length) (hz : bitN l p = false) (b : Bool) : impl_Bits_set.f n l (p : Int) b = some (if b = true then setV l (p : Int) else l) := by
  by_cases c : b = true
  · subst c
    exact impl_Bits_set_f n l (by omega) (by omega) (by omega)
  · have cb : b = false := by simpa using c
    subst cb
    have hc := clrV hl h2 hz
    unfold impl_Bits_set.f
    rw [(div16' (p := (p : Int)) (by omega) (by omega)).1, (div16' (p := (p : Int)) (by omega) (by omega)).2, if_pos (by omega), if_pos (by omega), if_pos (by omega), hc]
    rfl
def all16 (l : List Int) : Bool := l.all (fun x => decide (0 ≤ x ∧ x ≤ 65535))
def bitsB (n : Int) (l : List Int) : Bool :=
  decide (0 ≤ n ∧ n ≤ 4096) && (decide ((l.length : Int) = (n + 15) / 16) && (all16 l && (decide (n % 16 = 0) || (shr .i64 (rd l ((l.length : Int) - 1)) (n % 16) == 0))))
theorem bitsB_len {n : Int} {l : List Int} (h : bitsB n l = true) : 0 ≤ n ∧ n ≤ 4096 ∧ (l.length : Int) = (n + 15) / 16 := by
  simp only [bitsB, Bool.and_eq_true, decide_eq_true_eq] at h
  exact ⟨h.1.1, h.1.2, h.2.1⟩
theorem spec_biSome_l0 (B : List Bool) (n : Int) (hB : B.length ≤ 1000000) : ∀ (t pre : List Bool) (l : List Int), B = pre ++ t → B.length ≤ 16 * l.length →
    Ev (fun k => spec_biSome.l0 k B (B.length : Int) (pre.length : Int) n l) (n, packFrom t pre.length l) := by
  intro t
  induction t with
  | nil =>
    intro pre l h _
    refine ev_succ ?_
    simp only [spec_biSome.l0]
    exact ev_neg (by rw [h]; exact not_lt_end) (ev_some rfl)
  | cons b t ih =>
    intro pre l h hl
    have hm : ((pre.length : Nat) : Int) < (B.length : Int) := by rw [h]; exact lt_mid
    have hg : rdOf false B (pre.length : Int) = b := by rw [h]; exact rdOf_mid
    have hle : pre.length < B.length := by omega
    refine ev_succ ?_
    simp only [spec_biSome.l0, hg]
    refine ev_pos hm (ev_pos (by omega) (ev_pos hm ?_))
    rw [winc (by omega)]
    by_cases c : b = true
    · refine ev_pos c ?_
      rw [spec_biSet_f n l (by omega) (by omega) (by omega)]
      refine ev_bind _ (Ev.now _) ?_
      have := ih (pre ++ [b]) (setV l (pre.length : Int)) (by rw [h]; simp) (by rw [setV_len]; exact hl)
      rw [len_one] at this
      simpa [packFrom, c] using this
    · refine ev_neg c ?_
      have := ih (pre ++ [b]) l (by rw [h]; simp) hl
      rw [len_one] at this
      simpa [packFrom, c] using this
theorem spec_biSome_f (B : List Bool) (hB : B.length ≤ 1000000) : Ev (fun k => spec_biSome.f k B) ((B.length : Int), packB B) := by
  unfold spec_biSome.f
  have e : spec_biNew.f (B.length : Int) = some ((B.length : Int), blankW B.length) := by
    unfold spec_biNew.f
    have w : wrap64 (Int.tdiv (wrap64 ((B.length : Int) + 15)) 16) = (((B.length + 15) / 16 : Nat) : Int) := by
      rw [w64 (x := (B.length : Int) + 15) (by omega) (by omega), Int.tdiv_eq_ediv_of_nonneg (by omega), w64 (by omega) (by omega)]
      omega
    rw [w, if_pos (by omega), if_pos (by omega), Int.toNat_natCast]
    rfl
  rw [e]
  refine ev_bind _ (Ev.now _) ?_
  exact spec_biSome_l0 B (B.length : Int) hB B [] (blankW B.length) rfl (by simp [blankW]; omega)
theorem impl_blank_f (n : Nat) (h : n ≤ 1000000) : impl_blank.f (n : Int) = some ((n : Int), blankW n) := by
  unfold impl_blank.f impl_words.f
  have w : wrap64 (Int.tdiv (wrap64 (wrap64 ((n : Int) + 16) - 1)) 16) = (((n + 15) / 16 : Nat) : Int) := by
    rw [w64 (x := (n : Int) + 16) (by omega) (by omega), w64 (x := (n : Int) + 16 - 1) (by omega) (by omega), Int.tdiv_eq_ediv_of_nonneg (by omega), w64 (by omega) (by omega)]
    omega
  rw [w]
  simp only [Option.bind_some]
  rw [if_pos (by omega), if_pos (by omega), Int.toNat_natCast]
  rfl
end Go.Proofs.YtalfkfddpamnjaaGreatQ
namespace Go.Proofs.YtalfkfddpamnjaaGreatQ
open Go Go.Proofs.YtalfkfddpamnjaaGreatGp

abbrev Str := List UInt8
def ll (a b : Str) : Bool := decide (a.length < b.length) || (decide (a.length = b.length) && Op.bytesLess a b)
theorem ll_irrefl (a : Str) : ll a a = false := by simp [ll, bl_irrefl]
theorem ll_iff {a b : Str} : ll a b = true ↔ a.length < b.length ∨ (a.length = b.length ∧ Op.bytesLess a b = true) := by simp [ll]
theorem ll_trans {a b c : Str} (h1 : ll a b = true) (h2 : ll b c = true) : ll a c = true := by
  rw [ll_iff] at *
  rcases h1 with h1 | ⟨e1, h1⟩ <;> rcases h2 with h2 | ⟨e2, h2⟩
  · left; omega
  · left; omega
  · left; omega
  · exact .inr ⟨by omega, bl_trans _ _ _ h1 h2⟩
theorem bl_tri (a b : Str) : Op.bytesLess a b = true ∨ a = b ∨ Op.bytesLess b a = true := by
  have t := bl_total a b
  cases h : Op.bytesLess b a
  · rw [h] at t
    simp only [Bool.not_false, Bool.or_eq_true, beq_iff_eq] at t
    rcases t with t | t
    · exact .inl t
    · exact .inr (.inl t)
  · exact .inr (.inr rfl)
theorem bl_asymm {a b : Str} (h : Op.bytesLess a b = true) : Op.bytesLess b a = false := by
  cases hb : Op.bytesLess b a
  · rfl
  · have := bl_trans _ _ _ h hb
    rw [bl_irrefl] at this
    cases this
theorem ll_tri (a b : Str) : ll a b = true ∨ a = b ∨ ll b a = true := by
  rw [ll_iff, ll_iff]
  rcases Nat.lt_trichotomy a.length b.length with h | h | h
  · exact .inl (.inl h)
  · rcases bl_tri a b with h' | h' | h'
    · exact .inl (.inr ⟨h, h'⟩)
    · exact .inr (.inl h')
    · exact .inr (.inr (.inr ⟨h.symm, h'⟩))
  · exact .inr (.inr (.inl h))
theorem ll_asymm {a b : Str} (h : ll a b = true) : ll b a = false := by
  cases hb : ll b a
  · rfl
  · have := ll_trans h hb
    rw [ll_irrefl] at this
    cases this

abbrev SLL (l : List Str) : Prop := l.Pairwise fun a b => ll a b = true
theorem sll_ext : ∀ {l m : List Str}, SLL l → SLL m → (∀ x, x ∈ l ↔ x ∈ m) → l = m
  | [], [], _, _, _ => rfl
  | [], b :: m, _, _, h => by have := (h b).2 (by simp); simp at this
  | a :: l, [], _, _, h => by have := (h a).1 (by simp); simp at this
  | a :: l, b :: m, hl, hm, h => by
    obtain ⟨ha, hl'⟩ := List.pairwise_cons.1 hl
    obtain ⟨hb, hm'⟩ := List.pairwise_cons.1 hm
    have e : a = b := by
      rcases List.mem_cons.1 ((h a).1 (by simp)) with e | ia
      · exact e
      · rcases List.mem_cons.1 ((h b).2 (by simp)) with e | ib
        · exact e.symm
        · have := ll_trans (ha b ib) (hb a ia)
          rw [ll_irrefl] at this
          cases this
    subst e
    have : l = m := sll_ext hl' hm' fun x => by
      constructor
      · intro hx
        rcases List.mem_cons.1 ((h x).1 (by simp [hx])) with e | i
        · subst e
          have := ha x hx
          rw [ll_irrefl] at this
          cases this
        · exact i
      · intro hx
        rcases List.mem_cons.1 ((h x).2 (by simp [hx])) with e | i
        · subst e
          have := hb x hx
          rw [ll_irrefl] at this
          cases this
        · exact i
    rw [this]
theorem sll_nodup {l : List Str} (h : SLL l) : l.Nodup := h.imp fun {a b} hab e => by
  subst e
  rw [ll_irrefl] at hab
  cases hab

def lvl (n : Nat) : Str → List Str → List Str
  | _, [] => []
  | p, s :: t => if n ≤ s.length ∧ s.take n ≠ p then s.take n :: lvl n (s.take n) t else lvl n p t
theorem lvl_mem {n : Nat} : ∀ {t : List Str} {p x : Str}, x ∈ lvl n p t → x.length = n ∧ ∃ s ∈ t, x <+: s
  | [], p, x, h => by simp [lvl] at h
  | s :: t, p, x, h => by
    unfold lvl at h
    split at h
    · rename_i c
      rcases List.mem_cons.1 h with rfl | h
      · exact ⟨by simp; omega, s, by simp, List.take_prefix n s⟩
      · obtain ⟨h1, s', h2, h3⟩ := lvl_mem h
        exact ⟨h1, s', by simp [h2], h3⟩
    · obtain ⟨h1, s', h2, h3⟩ := lvl_mem h
      exact ⟨h1, s', by simp [h2], h3⟩
theorem take_of_prefix {x s : Str} (h : x <+: s) : s.take x.length = x := by
  obtain ⟨t, rfl⟩ := h
  simp
theorem lvl_all {n : Nat} : ∀ {t : List Str} {p s x : Str}, s ∈ t → x <+: s → x.length = n → x = p ∨ x ∈ lvl n p t
  | s' :: t, p, s, x, hs, hx, hn => by
    unfold lvl
    rcases List.mem_cons.1 hs with rfl | hs
    · have hl := hx.length_le
      have ht := take_of_prefix hx
      rw [hn] at ht
      rw [ht]
      by_cases c : x = p
      · exact .inl c
      · rw [if_pos ⟨by omega, c⟩]
        exact .inr (by simp)
    · split
      · rcases lvl_all hs hx hn (p := s'.take n) with h | h
        · exact .inr (by simp [h])
        · exact .inr (by simp [h])
      · exact lvl_all hs hx hn
theorem bl_take : ∀ (n : Nat) (a b : Str), Op.bytesLess a b = true → n ≤ a.length → n ≤ b.length → a.take n = b.take n ∨ Op.bytesLess (a.take n) (b.take n) = true
  | 0, _, _, _, _, _ => by simp
  | n + 1, [], _, _, h, _ => by simp at h
  | n + 1, _ :: _, [], _, _, h => by simp at h
  | n + 1, a :: l, b :: m, h, h1, h2 => by
    simp only [List.length_cons] at h1 h2
    simp only [Op.bytesLess, Bool.or_eq_true, Bool.and_eq_true, decide_eq_true_eq, beq_iff_eq] at h
    simp only [List.take_succ_cons, Op.bytesLess, Bool.or_eq_true, Bool.and_eq_true, decide_eq_true_eq, beq_iff_eq, List.cons.injEq]
    rcases h with h | ⟨rfl, h⟩
    · exact .inr (.inl h)
    · rcases bl_take n l m h (by omega) (by omega) with h' | h'
      · exact .inl ⟨rfl, h'⟩
      · exact .inr (.inr ⟨rfl, h'⟩)
abbrev SBL (l : List Str) : Prop := l.Pairwise fun a b => Op.bytesLess a b = true
theorem lvl_sorted {n : Nat} : ∀ {t : List Str} {p : Str}, SBL t → (p.length = n → ∀ s ∈ t, n ≤ s.length → s.take n = p ∨ Op.bytesLess p (s.take n) = true) →
    SBL (lvl n p t) ∧ (p.length = n → ∀ x ∈ lvl n p t, Op.bytesLess p x = true)
  | [], p, _, _ => by simp [lvl]
  | s :: t, p, hs, hp => by
    obtain ⟨h1, h2⟩ := List.pairwise_cons.1 hs
    unfold lvl
    split
    · rename_i c
      have hq : (s.take n).length = n := by simp; omega
      obtain ⟨i1, i2⟩ := lvl_sorted (t := t) (p := s.take n) h2 (fun _ s' hs' hl => by
        rcases bl_take n s s' (h1 s' hs') c.1 hl with e | e
        · exact .inl e.symm
        · exact .inr e)
      refine ⟨List.pairwise_cons.2 ⟨i2 hq, i1⟩, fun e x hx => ?_⟩
      rcases hp e s (by simp) c.1 with e' | e'
      · exact absurd e' c.2
      · rcases List.mem_cons.1 hx with rfl | hx
        · exact e'
        · exact bl_trans _ _ _ e' (i2 hq x hx)
    · exact lvl_sorted h2 (fun e s' hs' hl => hp e s' (by simp [hs']) hl)
def levels (K : List Str) : Nat → Nat → List Str → List Str
  | 0, _, out => out
  | m + 1, n, out => levels K m (n + 1) (out ++ lvl n (out.getLastD []) K)
theorem levels_ok {K : List Str} (hK : SBL K) : ∀ (m n : Nat) (out : List Str), 1 ≤ n → SLL out → (∀ x, x ∈ out ↔ x = [] ∨ (x.length < n ∧ ∃ s ∈ K, x <+: s)) →
    SLL (levels K m n out) ∧ ∀ x, x ∈ levels K m n out ↔ x = [] ∨ (x.length < n + m ∧ ∃ s ∈ K, x <+: s)
  | 0, n, out, _, h1, h2 => ⟨h1, h2⟩
  | m + 1, n, out, hn, h1, h2 => by
    have hne : out ≠ [] := fun e => by have := (h2 []).2 (.inl rfl); rw [e] at this; simp at this
    have hlast : (out.getLastD []).length < n := by
      have hm : out.getLastD [] ∈ out := by
        rw [List.getLastD_eq_getLast?, List.getLast?_eq_some_getLast hne]
        exact List.getLast_mem hne
      rcases (h2 _).1 hm with e | e
      · rw [e]; simp; omega
      · exact e.1
    obtain ⟨s1, _⟩ := lvl_sorted (n := n) (t := K) (p := out.getLastD []) hK (fun e => by omega)
    have := levels_ok hK m (n + 1) (out ++ lvl n (out.getLastD []) K) (by omega) (by
      refine List.pairwise_append.2 ⟨h1, s1.imp_of_mem fun {a b} ha hb hab => ll_iff.2 (.inr ⟨by rw [(lvl_mem ha).1, (lvl_mem hb).1], hab⟩), fun a ha b hb => ll_iff.2 (.inl ?_)⟩
      rw [(lvl_mem hb).1]
      rcases (h2 a).1 ha with e | e
      · rw [e]; simp; omega
      · exact e.1) (fun x => by
      rw [List.mem_append, h2]
      constructor
      · rintro ((h | ⟨h, h'⟩) | h)
        · exact .inl h
        · exact .inr ⟨by omega, h'⟩
        · obtain ⟨e, h'⟩ := lvl_mem h
          exact .inr ⟨by omega, h'⟩
      · rintro (h | ⟨h, s, hs, hx⟩)
        · exact .inl (.inl h)
        · by_cases c : x.length = n
          · rcases lvl_all hs hx c (p := out.getLastD []) with e | e
            · rw [e] at c; omega
            · exact .inr e
          · exact .inl (.inr ⟨by omega, s, hs, hx⟩))
    rw [show n + (m + 1) = n + 1 + m from by omega]
    exact this
def nodesL (K : List Str) : List Str := levels K 12 1 [[]]
theorem nodesL_ok {K : List Str} (hK : SBL K) : SLL (nodesL K) ∧ ∀ x, x ∈ nodesL K ↔ x = [] ∨ (x.length < 13 ∧ ∃ s ∈ K, x <+: s) :=
  levels_ok hK 12 1 [[]] (Nat.le_refl _) (by simp) (fun x => by
    constructor
    · intro h
      exact .inl (by simpa using h)
    · rintro (h | ⟨h, _⟩)
      · simp [h]
      · have : x = [] := List.length_eq_zero_iff.1 (by omega)
        simp [this])

def isChild (s c : Str) : Bool := decide (c.length = s.length + 1) && s.isPrefixOf c
theorem isChild_iff {s c : Str} : isChild s c = true ↔ ∃ a, c = s ++ [a] := by
  simp only [isChild, Bool.and_eq_true, decide_eq_true_eq, List.isPrefixOf_iff_prefix]
  constructor
  · rintro ⟨h, t, rfl⟩
    simp only [List.length_append] at h
    obtain ⟨a, rfl⟩ := List.length_eq_one_iff.1 (show t.length = 1 by omega)
    exact ⟨a, rfl⟩
  · rintro ⟨a, rfl⟩
    exact ⟨by simp, [a], rfl⟩
def kids (N : List Str) (s : Str) : List Str := N.filter (isChild s)
structure Tree (N T : List Str) : Prop where
  sll : SLL N
  hd : N = [] :: T
  pc : ∀ x ∈ T, x.dropLast ∈ N
theorem Tree.ne {N T : List Str} (h : Tree N T) {x : Str} (hx : x ∈ T) : x ≠ [] := by
  have := h.sll
  rw [h.hd] at this
  have := (List.pairwise_cons.1 this).1 x hx
  intro e
  rw [e, ll_irrefl] at this
  cases this
theorem bl_app : ∀ {a b : Str} (c d : Str), a.length = b.length → Op.bytesLess a b = true → Op.bytesLess (a ++ c) (b ++ d) = true
  | [], [], _, _, _, h => by simp [Op.bytesLess] at h
  | [], _ :: _, _, _, h, _ => by simp at h
  | _ :: _, [], _, _, h, _ => by simp at h
  | a :: l, b :: m, c, d, e, h => by
    simp only [Op.bytesLess, Bool.or_eq_true, Bool.and_eq_true, decide_eq_true_eq, beq_iff_eq, List.cons_append] at h ⊢
    rcases h with h | ⟨rfl, h⟩
    · exact .inl h
    · exact .inr ⟨rfl, bl_app c d (by simpa using e) h⟩
theorem kids_all {N T : List Str} (h : Tree N T) : N.flatMap (kids N) = T := by
  have hT : SLL T := by have := h.sll; rw [h.hd] at this; exact (List.pairwise_cons.1 this).2
  refine sll_ext ?_ hT fun x => ?_
  · refine List.pairwise_flatMap.2 ⟨fun s _ => h.sll.filter _, h.sll.imp fun {s s'} hs x hx y hy => ?_⟩
    obtain ⟨a, rfl⟩ := isChild_iff.1 (List.mem_filter.1 hx).2
    obtain ⟨b, rfl⟩ := isChild_iff.1 (List.mem_filter.1 hy).2
    rw [ll_iff] at hs ⊢
    rcases hs with hs | ⟨e, hs⟩
    · exact .inl (by simp; omega)
    · exact .inr ⟨by simp [e], bl_app _ _ e hs⟩
  · simp only [List.mem_flatMap, kids, List.mem_filter]
    constructor
    · rintro ⟨s, _, hx, hc⟩
      obtain ⟨a, rfl⟩ := isChild_iff.1 hc
      rw [h.hd] at hx
      rcases List.mem_cons.1 hx with e | hx
      · simp at e
      · exact hx
    · intro hx
      refine ⟨x.dropLast, h.pc x hx, by rw [h.hd]; simp [hx], isChild_iff.2 ⟨x.getLast (h.ne hx), (List.dropLast_concat_getLast (h.ne hx)).symm⟩⟩

def lastB (s : Str) : UInt8 := s.getLastD 0
def dec (lim : Bool) (lab : Str) : List Bool → Nat → List Str → Option (List Str)
  | [], _, out => some out
  | b :: bs, k, out =>
    if k < out.length then
      if b = true then
        if out.length ≤ lab.length ∧ ¬ (lim = true ∧ (out.getD k []).length = 12) then dec lim lab bs k (out ++ [out.getD k [] ++ [lab.getD (out.length - 1) 0]])
        else none
      else dec lim lab bs (k + 1) out
    else none
def encB (N : List Str) : List Str → List Bool
  | [] => []
  | s :: t => List.replicate (kids N s).length true ++ false :: encB N t
theorem getD_of_get? {α : Type} {l : List α} {i : Nat} {x d : α} (h : l[i]? = some x) : l.getD i d = x := by rw [List.getD_eq_getElem?_getD, h]; rfl
theorem get?_of_mid {α : Type} {pre post : List α} {s : α} : (pre ++ s :: post)[pre.length]? = some s := by simp
theorem room_at {N T : List Str} (h : Tree N T) (pre post : List Str) (s : Str) (hN : N = pre ++ s :: post) (A : List Str) (hA : A = pre.flatMap (kids N)) (B : List Str) (hT : T = A ++ B) : pre.length < A.length + 1 := by
  cases hp0 : pre with
  | nil => simp
  | cons p pre' =>
    have hNT : N.length = T.length + 1 := by rw [h.hd]; simp
    have e0 : T[pre'.length]? = some s := by
      have e := h.hd
      rw [hN, hp0] at e
      simp only [List.cons_append, List.cons.injEq] at e
      rw [← e.2]
      exact get?_of_mid
    have hs : s ∈ T := List.mem_of_getElem? e0
    have hp := h.pc s hs
    have hne := h.ne hs
    have hll : ll s.dropLast s = true := ll_iff.2 (.inl (by
      have := List.length_pos_iff.2 hne
      simp; omega))
    have hpre : s.dropLast ∈ pre := by
      rw [hN] at hp
      rcases List.mem_append.1 hp with hp | hp
      · exact hp
      · have hS := h.sll
        rw [hN] at hS
        have h2 := (List.pairwise_append.1 hS).2.1
        rcases List.mem_cons.1 hp with e' | hp
        · rw [e', ll_irrefl] at hll; cases hll
        · have := ll_trans hll ((List.pairwise_cons.1 h2).1 _ hp)
          rw [ll_irrefl] at this; cases this
    have hin : s ∈ A := by
      rw [hA]
      exact List.mem_flatMap.2 ⟨_, hpre, List.mem_filter.2 ⟨by rw [h.hd]; simp [hs], isChild_iff.2 ⟨s.getLast hne, (List.dropLast_concat_getLast hne).symm⟩⟩⟩
    obtain ⟨i, hi, hi'⟩ := List.getElem_of_mem hin
    have hnd : T.Nodup := sll_nodup (by have := h.sll; rw [h.hd] at this; exact (List.pairwise_cons.1 this).2)
    have hiT : i < T.length := by rw [hT, List.length_append]; omega
    have e1 : T[i]? = some s := by rw [hT, List.getElem?_append_left hi, List.getElem?_eq_getElem hi, hi']
    have : i = pre'.length := (List.getElem?_inj hiT hnd).1 (e1.trans e0.symm)
    simp only [List.length_cons]
    omega
theorem dec_kids {N T : List Str} (h : Tree N T) {lim : Bool} (hl : lim = true → ∀ x ∈ N, x.length ≤ 12) (pre post : List Str) (s : Str) (hN : N = pre ++ s :: post) (bs : List Bool) (A B : List Str) (hA : A = pre.flatMap (kids N)) (hB : B = post.flatMap (kids N)) :
    ∀ (c2 c1 : List Str), kids N s = c1 ++ c2 →
      dec lim (T.map lastB) (List.replicate c2.length true ++ false :: bs) pre.length ([] :: (A ++ c1)) = dec lim (T.map lastB) bs (pre.length + 1) ([] :: (A ++ kids N s)) := by
  have hall : T = A ++ (kids N s ++ B) := by
    have e := kids_all h
    have : N.flatMap (kids N) = (pre ++ s :: post).flatMap (kids N) := congrArg (fun l => l.flatMap (kids N)) hN
    rw [this, List.flatMap_append, List.flatMap_cons, ← hA, ← hB] at e
    exact e.symm
  have hroom := room_at h pre post s hN A hA _ hall
  intro c2
  induction c2 with
  | nil =>
    intro c1 hc
    simp only [List.length_nil, List.replicate_zero, List.nil_append, dec]
    rw [if_pos (by simp only [List.length_cons, List.length_append]; omega), if_neg (by simp), hc, List.append_nil]
  | cons c c2 ih =>
    intro c1 hc
    have hT : T = (A ++ c1) ++ c :: (c2 ++ B) := by rw [hall, hc]; simp
    have hval : ([] :: (A ++ c1)).getD pre.length [] = s := by
      have hN2 : N = ([] :: (A ++ c1)) ++ (c :: (c2 ++ B)) := by rw [List.cons_append, ← hT]; exact h.hd
      have e1 : N[pre.length]? = some s := by rw [hN]; exact get?_of_mid
      rw [hN2, List.getElem?_append_left (by simp only [List.length_cons, List.length_append]; omega)] at e1
      exact getD_of_get? e1
    have hcm : c ∈ kids N s := by rw [hc]; simp
    obtain ⟨a, ha⟩ := isChild_iff.1 (List.mem_filter.1 hcm).2
    have hcN : c ∈ N := (List.mem_filter.1 hcm).1
    have hlen : T.length = (A ++ c1).length + (1 + (c2 ++ B).length) := by rw [hT]; simp only [List.length_append, List.length_cons]; omega
    have hlab : (T.map lastB).getD ((A ++ c1).length + 1 - 1) 0 = a := by
      refine getD_of_get? ?_
      rw [Nat.add_sub_cancel, List.getElem?_map, hT, get?_of_mid]
      simp [lastB, ha]
    simp only [List.length_cons, List.replicate_succ, List.cons_append, dec]
    rw [if_pos (by simp only [List.length_append]; omega), if_pos trivial, hval, hlab, if_pos ⟨by simp only [List.length_map]; omega, fun hh => by
      have := hl hh.1 c hcN
      rw [ha, List.length_append, hh.2] at this
      simp at this⟩, ← ha]
    have := ih (c1 ++ [c]) (by rw [hc]; simp)
    rw [← List.append_assoc] at this
    exact this
theorem dec_enc {N T : List Str} (h : Tree N T) {lim : Bool} (hl : lim = true → ∀ x ∈ N, x.length ≤ 12) : ∀ (post pre : List Str), N = pre ++ post →
    dec lim (T.map lastB) (encB N post) pre.length ([] :: pre.flatMap (kids N)) = some N
  | [], pre, hN => by
    simp only [encB, dec]
    rw [List.append_nil] at hN
    rw [← hN, kids_all h, ← h.hd]
  | s :: post, pre, hN => by
    have := dec_kids h hl pre post s hN (encB N post) _ _ rfl rfl (kids N s) [] rfl
    simp only [encB]
    rw [List.append_nil] at this
    rw [this]
    have := dec_enc h hl post (pre ++ [s]) (by rw [hN]; simp)
    simpa using this
theorem dec_nodes {N T : List Str} (h : Tree N T) {lim : Bool} (hl : lim = true → ∀ x ∈ N, x.length ≤ 12) : dec lim (T.map lastB) (encB N N) 0 [[]] = some N := dec_enc h hl N [] rfl
theorem nodesL_tree {K : List Str} (hK : SBL K) : ∃ T, Tree (nodesL K) T := by
  obtain ⟨h1, h2⟩ := nodesL_ok hK
  have h0 : [] ∈ nodesL K := (h2 []).2 (.inl rfl)
  obtain ⟨x, T, hx⟩ := List.exists_cons_of_ne_nil (List.ne_nil_of_mem h0)
  have e : x = [] := by
    rw [hx] at h0 h1
    rcases List.mem_cons.1 h0 with e | e
    · exact e.symm
    · have := (List.pairwise_cons.1 h1).1 _ e
      rw [ll_iff] at this
      simp only [List.length_nil, Nat.not_lt_zero, false_or] at this
      exact List.length_eq_zero_iff.1 this.1
  subst e
  refine ⟨T, h1, hx, fun y hy => ?_⟩
  have hy' : y ∈ nodesL K := by rw [hx]; simp [hy]
  rw [h2] at hy' ⊢
  rcases hy' with rfl | ⟨hl, s, hs, hp⟩
  · exact .inl rfl
  · exact .inr ⟨by simp; omega, s, hs, (List.dropLast_prefix y).trans hp⟩
end Go.Proofs.YtalfkfddpamnjaaGreatQ
