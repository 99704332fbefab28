import Derived.Test.YtpkpjikkfikejaaCFA1
import Derived.Test.YtpkpjikkfikejaaCFA2
-- printed by a program of this session (wip/gp) out of the translation; Lean checks it
namespace Go.Proofs.Ytpkpjikkfikejaa.PB
open Go.RowKit Go.Proofs.YtpkpjikkfikejaaW.PrintWords Go.Proofs.YtpkpjikkfikejaaW.PrintLast Go.Proofs.YtpkpjikkfikejaaW.PrintMore Go.Proofs.YtpkpjikkfikejaaSq
attribute [local go_sem] max2_int min2_int max_two min_two max_three min_three max_four min_four   -- for this text's walks alone
attribute [local go_sem] Go.Proofs.YtpkpjikkfikejaaGp.str_geq Go.Proofs.YtpkpjikkfikejaaGp.str_gtr Go.Proofs.YtpkpjikkfikejaaGp.str_leq
set_option linter.unusedVariables false
set_option linter.unusedSimpArgs false

set_option maxHeartbeats 8000000
set_option maxRecDepth 100000
mutual
def spec_ShareOf.j0 : Nat → List ByteArray → Bool → Int → Int → Int → List Int → Option (Int × Int × Bool)
 | 0, _, _, _, _, _, _ => none
 | k + 1, x9, x26, x303000, x303001, x303002, x303003 => if x26 = true then (some (0, 0, false)) else (spec_ShareOf.l0 k x9 0 x9 (x9.length : Int) 0 x303000 x303001 x303002 x303003)
def spec_ShareOf.l0 : Nat → List ByteArray → Int → List ByteArray → Int → Int → Int → Int → Int → List Int → Option (Int × Int × Bool)
 | 0, _, _, _, _, _, _, _, _, _ => none
 | k + 1, x9, x11, x27, x28, x29, x303000, x303001, x303002, x303003 => if x29 < x28 then (if 0 ≤ x29 then (if x29 < (x27.length : Int) then ((spec_fiHas.f k x303000 x303001 x303002 x303003 (rdOf ByteArray.empty x27 x29)).bind fun t309 => (if t309 = true then (spec_ShareOf.l0 k x9 (wrap64 (x11 + 1)) x27 x28 (wrap64 (x29 + 1)) x303000 x303001 x303002 x303003) else (spec_ShareOf.l0 k x9 x11 x27 x28 (wrap64 (x29 + 1)) x303000 x303001 x303002 x303003))) else (none)) else (none)) else (some (x11, (x9.length : Int), true))
end
def spec_ShareOf.f (k : Nat) (a0_0 : Int) (a0_1 : Int) (a0_2 : Int) (l0_3 : List Int) (a1 : ByteArray) (a2 : Int) : Option (Int × Int × Bool) := (spec_TextsOver.f k a1 a2).bind fun bt303 => ((spec_fiGood.f k a0_0 a0_1 a0_2 l0_3).bind fun t307 => (if t307 = true then (spec_ShareOf.j0 k bt303.1 (!bt303.2) a0_0 a0_1 a0_2 l0_3) else (spec_ShareOf.j0 k bt303.1 true a0_0 a0_1 a0_2 l0_3)))
theorem spec_ShareOf.calls (k : Nat) (a0_0 : Int) (a0_1 : Int) (a0_2 : Int) (A0_3 : Option Addr) (c0_3 : Nat) (l0_3 : List Int) (a1 : ByteArray) (a2 : Int) (r1 : Int) (r2 : Int) (r3 : Bool) (w : World) (hr0_3 : Kd.C (Kd.int .i64) w A0_3 l0_3.length l0_3) (hc0_3 : l0_3.length ≤ c0_3) (h : spec_ShareOf.f k a0_0 a0_1 a0_2 l0_3 a1 a2 = some (r1, r2, r3)) :
  Calls Try.prog 36 #[.agg #[.int .i64 a0_0, .int .i64 a0_1, .int .i64 a0_2, .slice A0_3 l0_3.length c0_3], .string a1, .int .i64 a2] w fun e w' => e = .returned (.tuple #[.int .i64 r1, .int .i64 r2, .bool r3]) ∧ Below w.heap.size w w' := by
 have hu28 := Try.underlying28; have HR0_3 := am hr0_3; have HC0_3 := am hc0_3; clear hr0_3 hc0_3; have HB := am (Below.refl w.heap.size w); have H : ((spec_TextsOver.f k a1 a2).bind fun bt303 => ((spec_fiGood.f k a0_0 a0_1 a0_2 l0_3).bind fun t307 => (if t307 = true then (spec_ShareOf.j0 k bt303.1 (!bt303.2) a0_0 a0_1 a0_2 l0_3) else (spec_ShareOf.j0 k bt303.1 true a0_0 a0_1 a0_2 l0_3)))) = some (r1, r2, r3) := h; clear h; replace H := Option.bind_eq_some_iff.mp H; obtain ⟨⟨t303, t304⟩, A40, H⟩ := H; (try dsimp -simprocs only at H); have A4 := am A40; clear A40; have HC5 := am H; clear H
 go_enter Try.func36, Try.ntmps36
 go_upto_region 2 with (first | ((with_reducible refine gate_dst (N := 3) rfl ?_); refine bE 3 #[.int .i64 a0_0, .int .i64 a0_1, .int .i64 a0_2, .slice A0_3 l0_3.length c0_3] 28 ?_; intro gb302 hg w6 hbox hb; have n0_ := Bb HB hb; have n1_ := am (hbox); have n2_ := Gl HB hg; have n3_ := Gl HB hg; clear HB; revert n0_ n1_ n2_ n3_; intro HB BK302 GW302 GE302; clear hb hbox hg) | ((with_reducible refine gate_callee (f := 115) rfl ?_); refine gL (some 17) Try.func115 #[.string a1, .int .i64 a2] ?_; (with_reducible refine (spec_TextsOver.calls k a1 a2 t303 t304 _ A4.out).mono ?_); rintro e w7 ⟨v305, rfl, ho0, hb⟩; refine ⟨_, rfl, ?_⟩; have n0_ := Rm ho0 HB; have n1_ := Kb BK302 hb; have n2_ := Bc HB hb; clear BK302 HB; revert n0_ n1_ n2_; intro HO306 BK302 HB; (try clear hb); (try clear hb2); (try clear hk); (try clear hi); (try clear ho0)))
 (try simp only [aP])
 go_cut [26] (fun v26 wc => ∃ (kq : Nat) (x26_4 : Bool), v26 = .bool x26_4 ∧ Aside0 (spec_ShareOf.j0 kq t303 x26_4 a0_0 a0_1 a0_2 l0_3 = some (r1, r2, r3)) ∧ Aside0 (kq ≤ k) ∧ Aside0 (Kd.R Kd.string 9 wc w.heap.size (fun _ => True) v305 t303) ∧ Aside0 (wc.heap[gb302]? = some (.cells #[.int .i64 a0_0, .int .i64 a0_1, .int .i64 a0_2, (.slice A0_3 l0_3.length c0_3)] 28 (0, 0))) ∧ Aside0 (Below w.heap.size w wc))
 case first =>
  have H := HC5.out; clear HC5; replace H := Option.bind_eq_some_iff.mp H; obtain ⟨t307, A80, H⟩ := H; (try dsimp -simprocs only at H); have A8 := am A80; clear A80
  by_cases c9 : t307 = true
  ·subst c9
   rw [if_pos rfl] at H; have H' := am H; clear H; obtain ⟨hcz10_0, hcz10_1, hcz10_2, hcz10_3, hfz10_0, hfz10_1, hfz10_2, hfz10_3⟩ := cf4 (w := w7) BK302
   go_wp2_with (first | ((with_reducible refine gate_callee (f := 94) rfl ?_); refine gL (some 21) Try.func94 #[.agg #[.int .i64 a0_0, .int .i64 a0_1, .int .i64 a0_2, .slice A0_3 l0_3.length c0_3]] ?_; (with_reducible refine (spec_fiGood.calls k a0_0 a0_1 a0_2 _ _ l0_3 true _ ?side1 ?side2 A8.out).mono ?_); (case side1 => exact Cz (Kd.C_below HR0_3.out HB.out)); (case side2 => exact HC0_3.out); rintro e w11 ⟨rfl, hb⟩; refine ⟨_, rfl, ?_⟩; have n0_ := Rb HO306 hb; have n1_ := Kb BK302 hb; have n2_ := Bc HB hb; clear HO306 BK302 HB; revert n0_ n1_ n2_; intro HO306 BK302 HB; (try clear hb); (try clear hb2); (try clear hk); (try clear hi)))
   go_meet
   case rel => exact ⟨_, (!t304), wZ, H', ⟨by first | omega | exact Nat.le_refl _⟩, ⟨Rz HO306.out⟩, ⟨Kz BK302.out⟩, ⟨Bq⟩⟩
  ·replace c9 := Bool.eq_false_iff.mpr c9
   subst c9
   rw [if_neg (show ¬ (false = true) by decide)] at H; have H' := am H; clear H; obtain ⟨hcz12_0, hcz12_1, hcz12_2, hcz12_3, hfz12_0, hfz12_1, hfz12_2, hfz12_3⟩ := cf4 (w := w7) BK302
   go_wp2_with (first | ((with_reducible refine gate_callee (f := 94) rfl ?_); refine gL (some 21) Try.func94 #[.agg #[.int .i64 a0_0, .int .i64 a0_1, .int .i64 a0_2, .slice A0_3 l0_3.length c0_3]] ?_; (with_reducible refine (spec_fiGood.calls k a0_0 a0_1 a0_2 _ _ l0_3 false _ ?side1 ?side2 A8.out).mono ?_); (case side1 => exact Cz (Kd.C_below HR0_3.out HB.out)); (case side2 => exact HC0_3.out); rintro e w13 ⟨rfl, hb⟩; refine ⟨_, rfl, ?_⟩; have n0_ := Rb HO306 hb; have n1_ := Kb BK302 hb; have n2_ := Bc HB hb; clear HO306 BK302 HB; revert n0_ n1_ n2_; intro HO306 BK302 HB; (try clear hb); (try clear hb2); (try clear hk); (try clear hi)))
   go_meet
   case rel => exact ⟨_, (true), wZ, H', ⟨by first | omega | exact Nat.le_refl _⟩, ⟨Rz HO306.out⟩, ⟨Kz BK302.out⟩, ⟨Bq⟩⟩
 case rest =>
  clear HC5
  try clear c1
  try clear p2
  try clear c3
  try clear c9
  try clear c11
  try clear hcz10_0
  try clear hcz10_1
  try clear hcz10_2
  try clear hcz10_3
  try clear hcz12_0
  try clear hcz12_1
  try clear hcz12_2
  try clear hcz12_3
  try clear hfz10_0
  try clear hfz10_1
  try clear hfz10_2
  try clear hfz10_3
  try clear hfz12_0
  try clear hfz12_1
  try clear hfz12_2
  try clear hfz12_3
  obtain ⟨kq, x26_4, rfl, HA, HJ4, HO_9, BK302, HB⟩ := hcut; cases kq with
  | zero => exact absurd HA.out (by simp [spec_ShareOf.j0])
  | succ kj4 =>
   have H := HA.out; clear HA
   simp only [spec_ShareOf.j0] at H
   by_cases c14 : x26_4 = true
   ·subst c14
    rw [if_pos rfl] at H
    simp only [Option.some.injEq, Prod.mk.injEq] at H
    obtain ⟨rfl, rfl, rfl⟩ := H
    go_wp2
    go_ret3
    exact ⟨eZ, Bq⟩
   ·replace c14 := Bool.eq_false_iff.mpr c14
    subst c14
    rw [if_neg (show ¬ (false = true) by decide)] at H; have H' := am H; clear H; obtain ⟨Ao15, co15, eo15⟩ := Kd.R_slice HO_9.out; subst eo15
    go_wp2
    go_loopg [11, 29] kj4 (fun kq v11 v29 w' => ∃ (x11_2 : Int) (x29_2 : Int), v11 = .int .i64 x11_2 ∧ v29 = .int .i64 x29_2 ∧ Aside0 (spec_ShareOf.l0 kq t303 x11_2 t303 (t303.length : Int) x29_2 a0_0 a0_1 a0_2 l0_3 = some (r1, r2, r3)) ∧ Aside0 (kq ≤ kj4) ∧ Aside0 (Kd.R Kd.string 9 w' w.heap.size (fun _ => True) (.slice Ao15 t303.length co15) t303) ∧ Aside0 (Kd.R Kd.string 9 w' w.heap.size (fun _ => True) (.slice Ao15 t303.length co15) t303) ∧ Aside0 (w'.heap[gb302]? = some (.cells #[.int .i64 a0_0, .int .i64 a0_1, .int .i64 a0_2, (.slice A0_3 l0_3.length c0_3)] 28 (0, 0))) ∧ Aside0 (Below w.heap.size w w'))
    case atStart => exact ⟨(0), (0), wZ, wZ, H', ⟨Nat.le_refl _⟩, ⟨Rz HO_9.out⟩, ⟨Rz HO_9.out⟩, ⟨Kz BK302.out⟩, ⟨Bq⟩⟩
    case round =>
     clear H'
     try clear c1
     try clear p2
     try clear c3
     try clear c9
     try clear c11
     try clear c14
     try clear hcz10_0
     try clear hcz10_1
     try clear hcz10_2
     try clear hcz10_3
     try clear hcz12_0
     try clear hcz12_1
     try clear hcz12_2
     try clear hcz12_3
     try clear hfz10_0
     try clear hfz10_1
     try clear hfz10_2
     try clear hfz10_3
     try clear hfz12_0
     try clear hfz12_1
     try clear hfz12_2
     try clear hfz12_3
     try clear p2
     obtain ⟨x11_2, x29_2, rfl, rfl, HA, HK2, HO_9, HO_27, BK302, HB⟩ := hrel; cases gk with
     | zero => exact absurd HA.out (by simp [spec_ShareOf.l0])
     | succ k2 =>
      have H := HA.out; clear HA
      simp only [spec_ShareOf.l0] at H
      by_cases c16 : x29_2 < (t303.length : Int)
      ·rw [if_pos c16] at H
       have c16b0 : decide (x29_2 < (t303.length : Int)) = true := decide_eq_true c16; clear c16
       by_cases c17 : 0 ≤ x29_2
       ·rw [if_pos c17] at H
        have c17b0 : decide (0 ≤ x29_2) = true := decide_eq_true c17; clear c17
        by_cases c18 : x29_2 < (t303.length : Int)
        ·rw [if_pos c18] at H
         have c18b0 : decide (x29_2 < (t303.length : Int)) = true := decide_eq_true c18; clear c18; replace H := Option.bind_eq_some_iff.mp H; obtain ⟨t309, A190, H⟩ := H; (try dsimp -simprocs only at H); have A19 := am A190; clear A190
         by_cases c20 : t309 = true
         ·subst c20
          rw [if_pos rfl] at H; have H' := am H; clear H; obtain ⟨ad308, e308, hx308_0⟩ := Kd.at_string (Kd.R_reads' HO_27.out).2.2 x29_2 dT dT; cases e308; have p308 := eT (0 ≤ (x29_2 : Int)); have q308 := eT (x29_2 < (t303.length : Int)); obtain ⟨hcz21_0, hcz21_1, hcz21_2, hcz21_3, hfz21_0, hfz21_1, hfz21_2, hfz21_3⟩ := cf4 (w := wr) BK302
          go_wp2_with (first | ((with_reducible refine gate_callee (f := 108) rfl ?_); refine gL (some 35) Try.func108 #[.agg #[.int .i64 a0_0, .int .i64 a0_1, .int .i64 a0_2, .slice A0_3 l0_3.length c0_3], .string (rdOf ByteArray.empty t303 x29_2)] ?_; (with_reducible refine (spec_fiHas.calls k2 a0_0 a0_1 a0_2 _ _ l0_3 (rdOf ByteArray.empty t303 x29_2) true _ ?side1 ?side2 A19.out).mono ?_); (case side1 => exact Cz (Kd.C_below HR0_3.out HB.out)); (case side2 => exact HC0_3.out); rintro e w22 ⟨rfl, hb⟩; refine ⟨_, rfl, ?_⟩; have n0_ := Rb HO_9 hb; have n1_ := Rb HO_27 hb; have n2_ := Kb BK302 hb; have n3_ := Bc HB hb; clear HO_9 HO_27 BK302 HB; revert n0_ n1_ n2_ n3_; intro HO_9 HO_27 BK302 HB; (try clear hb); (try clear hb2); (try clear hk); (try clear hi)))
          go_roundg k2
          case measure => have := HJ4.out; have := HK2.out; omega
          case rel => exact ⟨(wrap64 (x11_2 + 1)), (wrap64 (x29_2 + 1)), wZ, wZ, H', ⟨by have := HJ4.out; have := HK2.out; omega⟩, ⟨Rz HO_9.out⟩, ⟨Rz HO_27.out⟩, ⟨Kz BK302.out⟩, ⟨Bq⟩⟩
         ·replace c20 := Bool.eq_false_iff.mpr c20
          subst c20
          rw [if_neg (show ¬ (false = true) by decide)] at H; have H' := am H; clear H; obtain ⟨ad308, e308, hx308_0⟩ := Kd.at_string (Kd.R_reads' HO_27.out).2.2 x29_2 dT dT; cases e308; have p308 := eT (0 ≤ (x29_2 : Int)); have q308 := eT (x29_2 < (t303.length : Int)); obtain ⟨hcz23_0, hcz23_1, hcz23_2, hcz23_3, hfz23_0, hfz23_1, hfz23_2, hfz23_3⟩ := cf4 (w := wr) BK302
          go_wp2_with (first | ((with_reducible refine gate_callee (f := 108) rfl ?_); refine gL (some 35) Try.func108 #[.agg #[.int .i64 a0_0, .int .i64 a0_1, .int .i64 a0_2, .slice A0_3 l0_3.length c0_3], .string (rdOf ByteArray.empty t303 x29_2)] ?_; (with_reducible refine (spec_fiHas.calls k2 a0_0 a0_1 a0_2 _ _ l0_3 (rdOf ByteArray.empty t303 x29_2) false _ ?side1 ?side2 A19.out).mono ?_); (case side1 => exact Cz (Kd.C_below HR0_3.out HB.out)); (case side2 => exact HC0_3.out); rintro e w24 ⟨rfl, hb⟩; refine ⟨_, rfl, ?_⟩; have n0_ := Rb HO_9 hb; have n1_ := Rb HO_27 hb; have n2_ := Kb BK302 hb; have n3_ := Bc HB hb; clear HO_9 HO_27 BK302 HB; revert n0_ n1_ n2_ n3_; intro HO_9 HO_27 BK302 HB; (try clear hb); (try clear hb2); (try clear hk); (try clear hi)))
          go_roundg k2
          case measure => have := HJ4.out; have := HK2.out; omega
          case rel => exact ⟨(x11_2), (wrap64 (x29_2 + 1)), wZ, wZ, H', ⟨by have := HJ4.out; have := HK2.out; omega⟩, ⟨Rz HO_9.out⟩, ⟨Rz HO_27.out⟩, ⟨Kz BK302.out⟩, ⟨Bq⟩⟩
        ·rw [if_neg c18] at H
         exact absurd H (by simp)
       ·rw [if_neg c17] at H
        exact absurd H (by simp)
      ·rw [if_neg c16] at H
       have c16b0 : decide (x29_2 < (t303.length : Int)) = false := decide_eq_false c16; clear c16
       simp only [Option.some.injEq, Prod.mk.injEq] at H
       obtain ⟨rfl, rfl, rfl⟩ := H
       go_wp2
       go_ret3
       exact ⟨eZ, Bq⟩

open Go Go.Maps Go.Proofs.YtpkpjikkfikejaaGp
theorem lettersK : Keyed Try.prog 5 := int_keyed Try.underlying5
theorem lettersZ (w : World) : (zeroValue 4).run Try.prog w = .ok (.bool false) w := by kernel_rfl
def goesL : List Int → List Int → Bool
 | _, [] => true
 | S, x :: t => !(S.contains x) && goesL (x :: S) t
def lets (a0 : ByteArray) : List Int := (List.range a0.size).map fun i => bt a0 ((i : Nat) : Int)
def impl_areLetters.f (k : Nat) (a0 : ByteArray) : Option Bool := if a0.size ≤ 4000000 then (if goesL [] (lets a0) = true then impl_IsKey.f k a0 else some false) else none
theorem lets_len (a0 : ByteArray) : (lets a0).length = a0.size := by simp [lets]
theorem lets_get (a0 : ByteArray) {k : Nat} (h : k < a0.size) : (lets a0).drop k = bt a0 (k : Int) :: (lets a0).drop (k + 1) := by
 have hl : k < (lets a0).length := by rw [lets_len]; exact h
 rw [List.drop_eq_getElem_cons hl]
 simp [lets]
theorem bt_wf (a0 : ByteArray) (i : Int) : (Lit.int .u8 (bt a0 i)).wf = true := by
 have h := bt_range a0 i
 simp only [Lit.wf, Bool.and_eq_true, decide_eq_true_eq]
 exact h
theorem impl_areLetters.calls (k : Nat) (a0 : ByteArray) (r : Bool) (w : World) (h : impl_areLetters.f k a0 = some r) :
  Calls Try.prog 150 #[.string a0] w fun e w' => e = .returned (.bool r) ∧ Below w.heap.size w w' := by
 unfold impl_areLetters.f at h
 split at h
 case isFalse => cases h
 case isTrue hl =>
 have HG : Aside0 ((if goesL [] (lets a0) = true then impl_IsKey.f k a0 else some false) = some r) := ⟨h⟩; clear h; have hmm := @run_makeMap Try.prog
 go_enter Try.func150, Try.ntmps150
 go_wp2
 go_loopw [8] (fun i wr => ∃ (m : Nat) (S : List Int) (D : DataW Unit), m ≤ a0.size ∧ i = .int .i64 m ∧ wr.ownsMap Try.prog 5 (plainElem (H := Unit) Try.prog 4) w.heap.size m D ∧ Aside0 (SetIs .u8 D S) ∧ Aside0 ((if goesL S ((lets a0).drop m) = true then impl_IsKey.f k a0 else some false) = some r) ∧ Below w.heap.size w wr)
  (fun i _ => a0.size - (intOf i).toNat)
 case atStart => exact ⟨0, [], .map [], Nat.zero_le _, rfl, World.ownsMap_made _ _ _ _, ⟨SetIs.empty _⟩, ⟨by simpa using HG.out⟩, (Below.refl _ _).alloc (Nat.le_refl _) _⟩
 case round =>
  obtain ⟨m, S, D, hm, rfl, hown, HS, HA, hnx⟩ := hrel
  by_cases hlt : m < a0.size
  ·have hx : ∀ h : m < a0.size, ((a0[m]'h).toNat : Int) = bt a0 (m : Int) := fun h => bt_at a0 (m : Int) h
   have p5 : (0 ≤ (m : Int)) = True := eq_true (by omega); have q5 : ((m : Int) < (a0.size : Int)) = True := eq_true (by omega); have HK : Aside0 (keyOf Try.prog 5 (.int .u8 (bt a0 (m : Int))) = some (.int .u8 (bt a0 (m : Int)))) := ⟨keyOf_int_mk Try.underlying5 (bt_wf a0 _)⟩; have HD : Aside0 ((lets a0).drop m = bt a0 (m : Int) :: (lets a0).drop (m + 1)) := ⟨lets_get a0 hlt⟩
   by_cases hs : S.contains (bt a0 (m : Int)) = true
   ·have HB := HS.out.2.1 (bt a0 (m : Int))
    rw [hs] at HB; have HB' := am HB; clear HB
    go_wp2_with (first
     | (at_lookup; refine lookB _ rfl _ _ 163 rfl 5 4 lettersK Try.underlying163 Try.underlying4 (lettersZ _) w.heap.size m D rfl hown _ _ rfl HK.out true HB'.out ?_)
     | go_in)
    go_ret
    refine ⟨?_, hnx⟩; have := HA.out; rw [HD.out, goesL, hs] at this; have := Option.some.inj this; rw [← this]; rfl
   ·have hs' : S.contains (bt a0 (m : Int)) = false := by simpa using hs
    have HF := am hs'; have HB := HS.out.2.1 (bt a0 (m : Int)); rw [hs'] at HB; clear hs' hs; have HB' := am HB; clear HB
    go_wp2_with (first
     | (at_lookup; refine lookB _ rfl _ _ 163 rfl 5 4 lettersK Try.underlying163 Try.underlying4 (lettersZ _) w.heap.size m D rfl hown _ _ rfl HK.out false HB'.out ?_)
     | (at_mapUpdate; refine wpList_mapUpdate_own _ rfl _ _ _ 163 rfl 5 4 lettersK Try.underlying163 (plainElem (H := Unit) Try.prog 4) w.heap.size m _ rfl hown (by unfold maxLen; omega) _ _ _ rfl rfl HK.out _ [] (plainElem_bool Try.underlying4 true) ?_; intro w1 hown1 hgrow1)
     | go_in)
    go_roundw
    case rel => exact ⟨m + 1, bt a0 (m : Int) :: S, _, by omega, by go_num, hown1, ⟨HS.out.put _⟩, ⟨by have := HA.out; rw [HD.out, goesL, HF.out] at this; exact this⟩, hnx.grown hgrow1 hnx.size (fun j hj => by cases hj; exact Nat.le_refl _)⟩
    case measure => simp [intOf]; omega
  ·have e : m = a0.size := by omega
   subst e
   have HI : Aside0 (impl_IsKey.f k a0 = some r) := ⟨by
    have := HA.out; rw [show (lets a0).drop a0.size = [] from by rw [← lets_len, List.drop_length], goesL, if_pos rfl] at this
    exact this⟩
   go_wp2_with (first
    | (go_at_call 98; (with_reducible refine (impl_IsKey.calls k a0 r _ HI.out).mono ?_); rintro e w' ⟨rfl, ⟨nd, rfl⟩⟩)
    | go_in)
   go_ret
   exact ⟨rfl, pw_below_drewN hnx _⟩

mutual
def impl_TextsOver.j0 : Nat → ByteArray → Int → Bool → Option (List ByteArray × Bool)
 | 0, _, _, _ => none
 | k + 1, x0, x1, x18 => if x18 = true then (some (([] : List ByteArray), false)) else (impl_TextsOver.l0 k x0 (([(⟨#[]⟩ : ByteArray)] : List ByteArray)) x1 0)
def impl_TextsOver.l0 : Nat → ByteArray → List ByteArray → Int → Int → Option (List ByteArray × Bool)
 | 0, _, _, _, _ => none
 | k + 1, x0, x6, x20, x21 => if x21 < x20 then (impl_TextsOver.l1 k x0 (([] : List ByteArray)) x20 x21 x6 (x6.length : Int) 0) else (some (x6, true))
def impl_TextsOver.l1 : Nat → ByteArray → List ByteArray → Int → Int → List ByteArray → Int → Int → Option (List ByteArray × Bool)
 | 0, _, _, _, _, _, _, _ => none
 | k + 1, x0, x7, x20, x21, x24, x25, x26 => if x26 < x25 then (if 0 ≤ x26 then (if x26 < (x24.length : Int) then (impl_TextsOver.l2 k x0 x7 (rdOf ByteArray.empty x24 x26) x20 x21 x24 x25 x26 (x0.size : Int) 0) else (none)) else (none)) else (if (x7.length : Int) > 300 then (some (([] : List ByteArray), false)) else (impl_TextsOver.l0 k x0 x7 x20 (wrap64 (x21 + 1))))
def impl_TextsOver.l2 : Nat → ByteArray → List ByteArray → ByteArray → Int → Int → List ByteArray → Int → Int → Int → Int → Option (List ByteArray × Bool)
 | 0, _, _, _, _, _, _, _, _, _, _ => none
 | k + 1, x0, x7, x9, x20, x21, x24, x25, x26, x31, x32 => if x32 < x31 then (if 0 ≤ x32 then (if x32 ≤ (wrap64 (x32 + 1)) then (if (wrap64 (x32 + 1)) ≤ (x0.size : Int) then (if x9.size + (x0.extract (x32 : Int).toNat ((wrap64 (x32 + 1)) : Int).toNat).size ≤ 9223372036854775807 then (if x7.length < 8796093022208 then (impl_TextsOver.l2 k x0 (x7 ++ [x9 ++ (x0.extract (x32 : Int).toNat ((wrap64 (x32 + 1)) : Int).toNat)]) x9 x20 x21 x24 x25 x26 x31 (wrap64 (x32 + 1))) else (none)) else (none)) else (none)) else (none)) else (none)) else (impl_TextsOver.l1 k x0 x7 x20 x21 x24 x25 (wrap64 (x26 + 1)))
end
def impl_TextsOver.f (k : Nat) (a0 : ByteArray) (a1 : Int) : Option (List ByteArray × Bool) := (impl_areLetters.f k a0).bind fun t310 => (if t310 = true then ((impl_in.f a1 1 8).bind fun t311 => (impl_TextsOver.j0 k a0 a1 (!t311))) else (impl_TextsOver.j0 k a0 a1 true))
theorem impl_TextsOver.calls (k : Nat) (a0 : ByteArray) (a1 : Int) (r1 : List ByteArray) (r2 : Bool) (w : World) (h : impl_TextsOver.f k a0 a1 = some (r1, r2)) :
  Calls Try.prog 81 #[.string a0, .int .i64 a1] w fun e w' => ∃ v0_ : Value, e = .returned (.tuple #[v0_, .bool r2]) ∧ Kd.R Kd.string 9 w' w.heap.size (fun _ => True) v0_ r1 ∧ Below w.heap.size w w' := by
 have HB := am (Below.refl w.heap.size w); have H : ((impl_areLetters.f k a0).bind fun t310 => (if t310 = true then ((impl_in.f a1 1 8).bind fun t311 => (impl_TextsOver.j0 k a0 a1 (!t311))) else (impl_TextsOver.j0 k a0 a1 true))) = some (r1, r2) := h; clear h; have HC3 := am H; clear H
 go_enter Try.func81, Try.ntmps81
 go_upto_region 1 with (fail)
 go_cut [18] (fun v18 wc => ∃ (kq : Nat) (x18_2 : Bool), v18 = .bool x18_2 ∧ Aside0 (impl_TextsOver.j0 kq a0 a1 x18_2 = some (r1, r2)) ∧ Aside0 (kq ≤ k) ∧ Aside0 (Below w.heap.size w wc))
 case first =>
  have H := HC3.out; clear HC3; replace H := Option.bind_eq_some_iff.mp H; obtain ⟨t310, A40, H⟩ := H; (try dsimp -simprocs only at H); have A4 := am A40; clear A40
  by_cases c5 : t310 = true
  ·subst c5
   rw [if_pos rfl] at H; replace H := Option.bind_eq_some_iff.mp H; obtain ⟨t311, A60, H⟩ := H; (try dsimp -simprocs only at H); have A6 := am A60; clear A60; have H' := am H; clear H
   go_wp2_with (first | ((with_reducible refine gate_callee (f := 150) rfl ?_); refine gL (some 12) Try.func150 #[.string a0] ?_; (with_reducible refine (impl_areLetters.calls k a0 true _ A4.out).mono ?_); rintro e w7 ⟨rfl, hb⟩; refine ⟨_, rfl, ?_⟩; have n0_ := Bb HB hb; clear HB; revert n0_; intro HB; (try clear hb); (try clear hb2); (try clear hk); (try clear hi)) | (go_at_call 126; (with_reducible refine (impl_in.calls a1 1 8 t311 _ A6.out).mono ?_); rintro e w' ⟨rfl, ⟨nd, rfl⟩⟩))
   go_meet
   case rel => exact ⟨_, (!t311), wZ, H', ⟨by first | omega | exact Nat.le_refl _⟩, ⟨Bz HB.out⟩⟩
  ·replace c5 := Bool.eq_false_iff.mpr c5
   subst c5
   rw [if_neg (show ¬ (false = true) by decide)] at H; have H' := am H; clear H
   go_wp2_with (first | ((with_reducible refine gate_callee (f := 150) rfl ?_); refine gL (some 12) Try.func150 #[.string a0] ?_; (with_reducible refine (impl_areLetters.calls k a0 false _ A4.out).mono ?_); rintro e w8 ⟨rfl, hb⟩; refine ⟨_, rfl, ?_⟩; have n0_ := Bb HB hb; clear HB; revert n0_; intro HB; (try clear hb); (try clear hb2); (try clear hk); (try clear hi)))
   go_meet
   case rel => exact ⟨_, (true), wZ, H', ⟨by first | omega | exact Nat.le_refl _⟩, ⟨Bz HB.out⟩⟩
 case rest =>
  clear HC3
  try clear c1
  try clear p2
  try clear c5
  try clear c8
  obtain ⟨kq, x18_2, rfl, HA, HJ2, HB⟩ := hcut; cases kq with
  | zero => exact absurd HA.out (by simp [impl_TextsOver.j0])
  | succ kj2 =>
   have H := HA.out; clear HA
   simp only [impl_TextsOver.j0] at H
   by_cases c9 : x18_2 = true
   ·subst c9
    rw [if_pos rfl] at H
    simp only [Option.some.injEq, Prod.mk.injEq] at H
    obtain ⟨rfl, rfl⟩ := H
    go_wp2
    go_ret2
    exact ⟨_, eZ, nZ, Bz HB.out⟩
   ·replace c9 := Bool.eq_false_iff.mpr c9
    subst c9
    rw [if_neg (show ¬ (false = true) by decide)] at H; obtain ⟨y312, hy312⟩ : ∃ y_ : List ByteArray, y_ = (([(⟨#[]⟩ : ByteArray)] : List ByteArray)) := ⟨_, rfl⟩
    replace H : (impl_TextsOver.l0 kj2 a0 y312 a1 0) = some (r1, r2) := by first | (rw [hy312]; with_reducible exact H) | (have H2_ := (Option.bind_some _ _).symm.trans H; rw [hy312]; with_reducible exact H2_) | (have H2_ := (Option.bind_some _ _).symm.trans H; with_reducible exact H2_) | with_reducible exact H | (rw [hy312]; exact H) | exact H
    have Ny312 := am hy312; clear hy312; have H' := am H; clear H
    go_wp2_with (first | ((with_reducible refine gate_dst (N := 19) rfl ?_); refine Kd.R_lit Kd.string _ 9 ?hg (N := 19) ?hd (xs := ([(⟨#[]⟩ : ByteArray)] : List ByteArray)) (inner := [.string (⟨#[]⟩ : ByteArray)]) (ok := fun _ => True) (okp := fun _ => True) ?hr ?hp (fun _ hk => hk) trivial (Below.refl _ _) (Nat.le_refl _) (by simp) ?_; (case hd => rfl); (case hg => rfl); (case hr => first | (go_simp; done) | (go_simp; rfl)); (case hp => exact (Reps.one (show Kd.M Kd.string _ _ _ (⟨#[]⟩ : ByteArray) [.string (⟨#[]⟩ : ByteArray)] from rfl) (Reps.none _ _))); intro v313 w10 ho11 hb hg_ hnew_; clear hg_ hnew_; (first | rw [← Ny312.out] at ho11 | (simp only [Int.reduceToNat] at ho11; rw [← Ny312.out] at ho11)); have n0_ := Rl ho11 HB; have n1_ := Bb HB hb; clear HB; revert n0_ n1_; intro HO314 HB; clear hb ho11))
    (try simp only [aP])
    go_loopg [6, 21] kj2 (fun kq v6 v21 w' => ∃ (x6_2 : List ByteArray) (x21_2 : Int), v21 = .int .i64 x21_2 ∧ Aside0 (impl_TextsOver.l0 kq a0 x6_2 a1 x21_2 = some (r1, r2)) ∧ Aside0 (kq ≤ kj2) ∧ Aside0 (Kd.R Kd.string 9 w' w.heap.size (fun _ => True) v6 x6_2) ∧ Aside0 (Below w.heap.size w w'))
    case atStart => exact ⟨(y312), (0), wZ, H', ⟨Nat.le_refl _⟩, ⟨Rz HO314.out⟩, ⟨Bz HB.out⟩⟩
    case round =>
     clear H'
     try clear c1
     try clear p2
     try clear c5
     try clear c8
     try clear c9
     try clear p2
     obtain ⟨x6_2, x21_2, rfl, HA, HK2, HO_6, HB⟩ := hrel; cases gk with
     | zero => exact absurd HA.out (by simp [impl_TextsOver.l0])
     | succ k2 =>
      have H := HA.out; clear HA
      simp only [impl_TextsOver.l0] at H
      by_cases c12 : x21_2 < a1
      ·rw [if_pos c12] at H
       have c12b0 : decide (x21_2 < a1) = true := decide_eq_true c12; clear c12; obtain ⟨y315, hy315⟩ : ∃ y_ : List ByteArray, y_ = (([] : List ByteArray)) := ⟨_, rfl⟩
       replace H : (impl_TextsOver.l1 k2 a0 y315 a1 x21_2 x6_2 (x6_2.length : Int) 0) = some (r1, r2) := by first | (rw [hy315]; with_reducible exact H) | (have H2_ := (Option.bind_some _ _).symm.trans H; rw [hy315]; with_reducible exact H2_) | (have H2_ := (Option.bind_some _ _).symm.trans H; with_reducible exact H2_) | with_reducible exact H | (rw [hy315]; exact H) | exact H
       have Ny315 := am hy315; clear hy315; have H' := am H; clear H
       go_wp2_with (first | ((with_reducible refine gate_dst (N := 23) rfl ?_); refine Kd.R_lit Kd.string _ 9 ?hg (N := 23) ?hd (xs := ([] : List ByteArray)) (inner := []) (ok := fun _ => True) (okp := fun _ => True) ?hr ?hp (fun _ hk => hk) trivial (Below.refl _ _) (Nat.le_refl _) (by simp) ?_; (case hd => rfl); (case hg => rfl); (case hr => first | (go_simp; done) | (go_simp; rfl)); (case hp => exact (Reps.none _ _)); intro v316 w13 ho14 hb hg_ hnew_; clear hg_ hnew_; (first | rw [← Ny315.out] at ho14 | (simp only [Int.reduceToNat] at ho14; rw [← Ny315.out] at ho14)); have n0_ := Re HO_6 (Kd.R_base ho14) hb; have n1_ := Rl (Kd.R_new' ho14 (Kd.R_lt (Rz HO_6.out))) HB; have n2_ := Bb HB hb; clear HO_6 HB; revert n0_ n1_ n2_; intro HO_6 HO317 HB; clear hb ho14; obtain ⟨Ao15, co15, eo15⟩ := Kd.R_slice HO_6.out; subst eo15))
       (try simp only [aP])
       go_loopg [7, 26] k2 (fun kq v7 v26 w' => ∃ (x7_3 : List ByteArray) (x26_3 : Int), v26 = .int .i64 x26_3 ∧ Aside0 (impl_TextsOver.l1 kq a0 x7_3 a1 x21_2 x6_2 (x6_2.length : Int) x26_3 = some (r1, r2)) ∧ Aside0 (kq ≤ k2) ∧ Aside0 (Kd.R Kd.string 9 w' w.heap.size (fun k_ => some k_ ≠ ((.slice Ao15 x6_2.length co15) : Value).ownBlock) v7 x7_3) ∧ Aside0 (Kd.R Kd.string 9 w' w.heap.size (fun k_ => some k_ ≠ (v7 : Value).ownBlock) (.slice Ao15 x6_2.length co15) x6_2) ∧ Aside0 (Below w.heap.size w w'))
       case atStart => exact ⟨(y315), (0), wZ, H', ⟨Nat.le_refl _⟩, ⟨Rz (Kd.R_mono HO317.out (fun _ hk => hk.2))⟩, ⟨Rz (Kd.R_mono HO_6.out (fun _ hk => hk.2))⟩, ⟨Bz HB.out⟩⟩
       case round =>
        clear H'
        try clear c1
        try clear p2
        try clear c5
        try clear c8
        try clear c9
        try clear c12
        try clear c12b0
        try clear c15
        try clear p2
        obtain ⟨x7_3, x26_3, rfl, HA, HK3, HO_7, HO_24, HB⟩ := hrel; cases gk with
        | zero => exact absurd HA.out (by simp [impl_TextsOver.l1])
        | succ k3 =>
         have H := HA.out; clear HA
         simp only [impl_TextsOver.l1] at H
         by_cases c16 : x26_3 < (x6_2.length : Int)
         ·rw [if_pos c16] at H
          have c16b0 : decide (x26_3 < (x6_2.length : Int)) = true := decide_eq_true c16; clear c16
          by_cases c17 : 0 ≤ x26_3
          ·rw [if_pos c17] at H
           have c17b0 : decide (0 ≤ x26_3) = true := decide_eq_true c17; clear c17
           by_cases c18 : x26_3 < (x6_2.length : Int)
           ·rw [if_pos c18] at H
            have c18b0 : decide (x26_3 < (x6_2.length : Int)) = true := decide_eq_true c18; clear c18; have H' := am H; clear H; obtain ⟨ad318, e318, hx318_0⟩ := Kd.at_string (Kd.R_reads' HO_24.out).2.2 x26_3 dT dT; cases e318; have p318 := eT (0 ≤ (x26_3 : Int)); have q318 := eT (x26_3 < (x6_2.length : Int))
            go_wp2
            go_loopg [7, 32] k3 (fun kq v7 v32 w' => ∃ (x7_4 : List ByteArray) (x32_4 : Int), v32 = .int .i64 x32_4 ∧ Aside0 (impl_TextsOver.l2 kq a0 x7_4 (rdOf ByteArray.empty x6_2 x26_3) a1 x21_2 x6_2 (x6_2.length : Int) x26_3 (a0.size : Int) x32_4 = some (r1, r2)) ∧ Aside0 (kq ≤ k3) ∧ Aside0 (Kd.R Kd.string 9 w' w.heap.size (fun k_ => some k_ ≠ ((.slice (some ad318) x6_2.length co15) : Value).ownBlock) v7 x7_4) ∧ Aside0 (Kd.R Kd.string 9 w' w.heap.size (fun k_ => some k_ ≠ (v7 : Value).ownBlock) (.slice (some ad318) x6_2.length co15) x6_2) ∧ Aside0 (Below w.heap.size w w'))
            case atStart => exact ⟨(x7_3), (0), wZ, H', ⟨Nat.le_refl _⟩, ⟨Rz HO_7.out⟩, ⟨Rz HO_24.out⟩, ⟨Bz HB.out⟩⟩
            case round =>
             clear H'
             try clear c1
             try clear p2
             try clear p3
             try clear q3
             try clear hx3
             try clear c5
             try clear c8
             try clear c9
             try clear c12
             try clear c12b0
             try clear c15
             try clear c16
             try clear c16b0
             try clear c17
             try clear c17b0
             try clear c18
             try clear c18b0
             try clear hx318_0
             try clear p2
             try clear p318
             try clear q318
             obtain ⟨x7_4, x32_4, rfl, HA, HK4, HO_7, HO_24, HB⟩ := hrel; cases gk with
             | zero => exact absurd HA.out (by simp [impl_TextsOver.l2])
             | succ k4 =>
              have H := HA.out; clear HA
              simp only [impl_TextsOver.l2] at H
              by_cases c19 : x32_4 < (a0.size : Int)
              ·rw [if_pos c19] at H
               have c19b0 : decide (x32_4 < (a0.size : Int)) = true := decide_eq_true c19; clear c19
               by_cases c20 : 0 ≤ x32_4
               ·rw [if_pos c20] at H
                have c20b0 := eq_true c20; have c20b1 : decide (0 ≤ x32_4) = true := decide_eq_true c20; clear c20
                by_cases c21 : x32_4 ≤ (wrap64 (x32_4 + 1))
                ·rw [if_pos c21] at H
                 have c21b0 := eq_true c21; have c21b1 : decide (x32_4 ≤ (wrap64 (x32_4 + 1))) = true := decide_eq_true c21
                 by_cases c22 : (wrap64 (x32_4 + 1)) ≤ (a0.size : Int)
                 ·rw [if_pos c22] at H
                  have c22b0 := eq_true c22; have c22b1 : decide ((wrap64 (x32_4 + 1)) ≤ (a0.size : Int)) = true := decide_eq_true c22
                  by_cases c23 : (rdOf ByteArray.empty x6_2 x26_3).size + (a0.extract (x32_4 : Int).toNat ((wrap64 (x32_4 + 1)) : Int).toNat).size ≤ 9223372036854775807
                  ·rw [if_pos c23] at H
                   have c23b0 := eq_true c23; have c23b1 : decide ((rdOf ByteArray.empty x6_2 x26_3).size + (a0.extract (x32_4 : Int).toNat ((wrap64 (x32_4 + 1)) : Int).toNat).size ≤ 9223372036854775807) = true := decide_eq_true c23
                   try have c23b2 : (9223372036854775807 < (rdOf ByteArray.empty x6_2 x26_3).size + (a0.extract (x32_4 : Int).toNat ((wrap64 (x32_4 + 1)) : Int).toNat).size) = False := eq_false (Nat.not_lt.2 c23)
                   (try (have c23b3 := c23b2; simp only [ByteArray.size_extract, Int.toNat_natCast] at c23b3))
                   by_cases c24 : x7_4.length < 8796093022208
                   ·rw [if_pos c24] at H
                    have LMc24 := am c24; clear c24; obtain ⟨y319, hy319⟩ : ∃ y_ : List ByteArray, y_ = (x7_4 ++ [(rdOf ByteArray.empty x6_2 x26_3) ++ (a0.extract (x32_4 : Int).toNat ((wrap64 (x32_4 + 1)) : Int).toNat)]) := ⟨_, rfl⟩
                    replace H : (impl_TextsOver.l2 k4 a0 y319 (rdOf ByteArray.empty x6_2 x26_3) a1 x21_2 x6_2 (x6_2.length : Int) x26_3 (a0.size : Int) (wrap64 (x32_4 + 1))) = some (r1, r2) := by first | (rw [hy319]; with_reducible exact H) | (have H2_ := (Option.bind_some _ _).symm.trans H; rw [hy319]; with_reducible exact H2_) | (have H2_ := (Option.bind_some _ _).symm.trans H; with_reducible exact H2_) | with_reducible exact H | (rw [hy319]; exact H) | exact H
                    have Ny319 := am hy319; clear hy319; have H' := am H; clear H
                    go_wp2_with (first | ((with_reducible refine gate_builtin (b := .append) (xs := #[.tmp 35, .tmp 43]) rfl ?_); at_builtin; refine Kd.R_append Kd.string (w0 := w) w.heap.size rfl (.tmp 35) (.tmp 43) 22 9 (.string ⟨#[]⟩) 16 rfl Try.underlying22 info9 rfl (by decide) (by omega) u7 x7_4 ((rdOf ByteArray.empty x6_2 x26_3) ++ (a0.extract (x32_4 : Int).toNat ((wrap64 (x32_4 + 1)) : Int).toNat)) [.string ((rdOf ByteArray.empty x6_2 x26_3) ++ (a0.extract (x32_4 : Int).toNat ((wrap64 (x32_4 + 1)) : Int).toNat))] (fun k_ => some k_ ≠ (.slice (some ad318) x6_2.length co15 : Value).ownBlock) (fun _ => False) rfl rfl ?aP (fun _ hk => hk.elim) ?aF ?aO ?aB ?aS ?aL ?_; (case aP => exact rfl); (case aB => exact (Bz HB.out)); (case aF => exact (fun k_ hk => Kd.fresh' (Kd.R_lt (Rz HO_24.out)) k_ hk)); (case aO => exact (Rz HO_7.out)); (case aS => exact (below_size (Bz HB.out))); (case aL => have := LMc24.out; omega); intro v320 w25 ho hb hg hat; rw [← Ny319.out] at ho; have n0_ := am (Kd.R_after (ok := (fun _ => True)) (Rz (Kd.R_mono HO_24.out (fun _ hk => ⟨trivial, hk⟩))) hg hat); have n1_ := am (hb); have n2_ := am (ho); clear HO_24 HB HO_7; revert n0_ n1_ n2_; intro HO_24 HB HO321; clear ho hb hg hat))
                    go_roundg k4
                    case measure => have := HJ2.out; have := HK2.out; have := HK3.out; have := HK4.out; omega
                    case rel => exact ⟨(y319), (wrap64 (x32_4 + 1)), wZ, H', ⟨by have := HJ2.out; have := HK2.out; have := HK3.out; have := HK4.out; omega⟩, ⟨Rz HO321.out⟩, ⟨Rz (Kd.R_mono HO_24.out (fun _ hk => hk.2))⟩, ⟨Bz HB.out⟩⟩
                   ·rw [if_neg c24] at H
                    exact absurd H (by simp)
                  ·rw [if_neg c23] at H
                   exact absurd H (by simp)
                 ·rw [if_neg c22] at H
                  exact absurd H (by simp)
                ·rw [if_neg c21] at H
                 exact absurd H (by simp)
               ·rw [if_neg c20] at H
                exact absurd H (by simp)
              ·rw [if_neg c19] at H
               have c19b0 : decide (x32_4 < (a0.size : Int)) = false := decide_eq_false c19; clear c19; have H' := am H; clear H
               go_wp2
               go_roundg k4
               case measure => have := HJ2.out; have := HK2.out; have := HK3.out; have := HK4.out; omega
               case rel => exact ⟨(x7_4), (wrap64 (x26_3 + 1)), wZ, H', ⟨by have := HJ2.out; have := HK2.out; have := HK3.out; have := HK4.out; omega⟩, ⟨Rz HO_7.out⟩, ⟨Rz HO_24.out⟩, ⟨Bz HB.out⟩⟩
           ·rw [if_neg c18] at H
            exact absurd H (by simp)
          ·rw [if_neg c17] at H
           exact absurd H (by simp)
         ·rw [if_neg c16] at H
          have c16b0 : decide (x26_3 < (x6_2.length : Int)) = false := decide_eq_false c16; clear c16
          by_cases c26 : (x7_3.length : Int) > 300
          ·rw [if_pos c26] at H
           have c26b0 : decide (300 < (x7_3.length : Int)) = true := decide_eq_true c26; have c26b1 : decide (300 < x7_3.length) = true := decide_eq_true (by omega); clear c26
           simp only [Option.some.injEq, Prod.mk.injEq] at H
           obtain ⟨rfl, rfl⟩ := H; obtain ⟨Ao27, co27, eo27⟩ := Kd.R_slice HO_7.out; subst eo27
           go_wp2
           go_ret2
           exact ⟨_, eZ, nZ, Bz HB.out⟩
          ·rw [if_neg c26] at H
           have c26b0 : decide (300 < (x7_3.length : Int)) = false := decide_eq_false c26; have c26b1 : decide (300 < x7_3.length) = false := decide_eq_false (by omega); clear c26; have H' := am H; clear H; obtain ⟨Ao28, co28, eo28⟩ := Kd.R_slice HO_7.out; subst eo28
           go_wp2
           go_roundg k3
           case measure => have := HJ2.out; have := HK2.out; have := HK3.out; omega
           case rel => exact ⟨(x7_3), (wrap64 (x21_2 + 1)), wZ, H', ⟨by have := HJ2.out; have := HK2.out; have := HK3.out; omega⟩, ⟨Rz (Kd.R_mono HO_7.out (fun _ hk => trivial))⟩, ⟨Bz HB.out⟩⟩
      ·rw [if_neg c12] at H
       have c12b0 : decide (x21_2 < a1) = false := decide_eq_false c12; clear c12
       simp only [Option.some.injEq, Prod.mk.injEq] at H
       obtain ⟨rfl, rfl⟩ := H
       go_wp2
       go_ret2
       exact ⟨_, eZ, Rz HO_6.out, Bz HB.out⟩

mutual
def impl_IsBits.j0 : Nat → Bool → Int → List Int → Option (Bool)
 | 0, _, _, _ => none
 | k + 1, x18, x323000, x323001 => if x18 = true then (some false) else (impl_IsBits.l0 k x323001 (x323001.length : Int) 0 x323000 x323001)
def impl_IsBits.l0 : Nat → List Int → Int → Int → Int → List Int → Option (Bool)
 | 0, _, _, _, _, _ => none
 | k + 1, x20, x21, x22, x323000, x323001 => if x22 < x21 then (if 0 ≤ x22 then (if x22 < (x20.length : Int) then ((impl_in.f (rd x20 x22) 0 65535).bind fun t326 => (if t326 = true then (impl_IsBits.l0 k x20 x21 (wrap64 (x22 + 1)) x323000 x323001) else (some false))) else (none)) else (none)) else (if (Int.tmod x323000 16) = 0 then (some true) else (if 0 ≤ (wrap64 ((x323001.length : Int) - 1)) then (if (wrap64 ((x323001.length : Int) - 1)) < (x323001.length : Int) then (if 0 ≤ (Int.tmod x323000 16) then (some ((shr .i64 (rd x323001 (wrap64 ((x323001.length : Int) - 1))) (Int.tmod x323000 16)) == 0)) else (none)) else (none)) else (none)))
end
def impl_IsBits.f (k : Nat) (a0_0 : Int) (l0_1 : List Int) : Option (Bool) := (impl_in.f a0_0 0 4096).bind fun t323 => (if t323 = true then ((impl_words.f a0_0).bind fun t324 => (impl_IsBits.j0 k ((l0_1.length : Int) != t324) a0_0 l0_1)) else (impl_IsBits.j0 k true a0_0 l0_1))
theorem impl_IsBits.calls (k : Nat) (a0_0 : Int) (A0_1 : Option Addr) (c0_1 : Nat) (l0_1 : List Int) (r : Bool) (w : World) (hr0_1 : Kd.C (Kd.int .i64) w A0_1 l0_1.length l0_1) (hc0_1 : l0_1.length ≤ c0_1) (h : impl_IsBits.f k a0_0 l0_1 = some r) :
  Calls Try.prog 125 #[.agg #[.int .i64 a0_0, .slice A0_1 l0_1.length c0_1]] w fun e w' => e = .returned (.bool r) ∧ Below w.heap.size w w' := by
 have hu26 := Try.underlying26; have HR0_1 := am hr0_1; have HC0_1 := am hc0_1; clear hr0_1 hc0_1; have HB := am (Below.refl w.heap.size w); have H : ((impl_in.f a0_0 0 4096).bind fun t323 => (if t323 = true then ((impl_words.f a0_0).bind fun t324 => (impl_IsBits.j0 k ((l0_1.length : Int) != t324) a0_0 l0_1)) else (impl_IsBits.j0 k true a0_0 l0_1))) = some r := h; clear h; have HC2 := am H; clear H
 go_enter Try.func125, Try.ntmps125
 go_upto_region 1 with (first | ((with_reducible refine gate_dst (N := 1) rfl ?_); (try (refine gate_guard (by rfl) ?_; dsimp only)); refine bE 1 #[.int .i64 a0_0, .slice A0_1 l0_1.length c0_1] 26 ?_; intro gb322 hg w3 hbox hb; have n0_ := Bb HB hb; have n1_ := am (hbox); have n2_ := Gl HB hg; have n3_ := Gl HB hg; clear HB; revert n0_ n1_ n2_ n3_; intro HB BK322 GW322 GE322; clear hb hbox hg))
 repeat (go_quiet (first | ((with_reducible refine gate_dst (N := 1) rfl ?_); (try (refine gate_guard (by rfl) ?_; dsimp only)); refine bE 1 #[.int .i64 a0_0, .slice A0_1 l0_1.length c0_1] 26 ?_; intro gb322 hg w3 hbox hb; have n0_ := Bb HB hb; have n1_ := am (hbox); have n2_ := Gl HB hg; have n3_ := Gl HB hg; clear HB; revert n0_ n1_ n2_ n3_; intro HB BK322 GW322 GE322; clear hb hbox hg)); go_upto_region 1 with (first | ((with_reducible refine gate_dst (N := 1) rfl ?_); (try (refine gate_guard (by rfl) ?_; dsimp only)); refine bE 1 #[.int .i64 a0_0, .slice A0_1 l0_1.length c0_1] 26 ?_; intro gb322 hg w3 hbox hb; have n0_ := Bb HB hb; have n1_ := am (hbox); have n2_ := Gl HB hg; have n3_ := Gl HB hg; clear HB; revert n0_ n1_ n2_ n3_; intro HB BK322 GW322 GE322; clear hb hbox hg)))
 (try simp only [aP])
 go_cut [18] (fun v18 wc => ∃ (kq : Nat) (x18_1 : Bool), v18 = .bool x18_1 ∧ Aside0 (impl_IsBits.j0 kq x18_1 a0_0 l0_1 = some r) ∧ Aside0 (kq ≤ k) ∧ Aside0 (wc.heap[gb322]? = some (.cells #[.int .i64 a0_0, (.slice A0_1 l0_1.length c0_1)] 26 (0, 0))) ∧ Aside0 (Below w.heap.size w wc))
 case first =>
  have H := HC2.out; clear HC2; replace H := Option.bind_eq_some_iff.mp H; obtain ⟨t323, A40, H⟩ := H; (try dsimp -simprocs only at H); have A4 := am A40; clear A40
  by_cases c5 : t323 = true
  ·subst c5
   rw [if_pos rfl] at H; replace H := Option.bind_eq_some_iff.mp H; obtain ⟨t324, A60, H⟩ := H; (try dsimp -simprocs only at H); have A6 := am A60; clear A60; have H' := am H; clear H; obtain ⟨hcz7_0, hcz7_1, hfz7_0, hfz7_1⟩ := cf2 (w := w3) BK322
   go_wp2_with (first | (go_at_call 126; (with_reducible refine (impl_in.calls a0_0 0 4096 true _ A4.out).mono ?_); rintro e w' ⟨rfl, ⟨nd, rfl⟩⟩; (try exact yZ)) | (go_at_call 178; (with_reducible refine (impl_words.calls a0_0 t324 _ A6.out).mono ?_); rintro e w' ⟨rfl, ⟨nd, rfl⟩⟩; (try exact yZ)))
   repeat (go_quiet (first | (go_at_call 126; (with_reducible refine (impl_in.calls a0_0 0 4096 true _ A4.out).mono ?_); rintro e w' ⟨rfl, ⟨nd, rfl⟩⟩; (try exact yZ)) | (go_at_call 178; (with_reducible refine (impl_words.calls a0_0 t324 _ A6.out).mono ?_); rintro e w' ⟨rfl, ⟨nd, rfl⟩⟩; (try exact yZ))); try go_wp2_with (first | (go_at_call 126; (with_reducible refine (impl_in.calls a0_0 0 4096 true _ A4.out).mono ?_); rintro e w' ⟨rfl, ⟨nd, rfl⟩⟩; (try exact yZ)) | (go_at_call 178; (with_reducible refine (impl_words.calls a0_0 t324 _ A6.out).mono ?_); rintro e w' ⟨rfl, ⟨nd, rfl⟩⟩; (try exact yZ))))
   go_meet
   case rel => exact ⟨_, (((l0_1.length : Int) != t324)), wZ, H', ⟨by first | omega | exact Nat.le_refl _⟩, ⟨Kz BK322.out⟩, ⟨Bq⟩⟩
  ·replace c5 := Bool.eq_false_iff.mpr c5
   subst c5
   rw [if_neg (show ¬ (false = true) by decide)] at H; have H' := am H; clear H; obtain ⟨hcz8_0, hcz8_1, hfz8_0, hfz8_1⟩ := cf2 (w := w3) BK322
   go_wp2_with (first | (go_at_call 126; (with_reducible refine (impl_in.calls a0_0 0 4096 false _ A4.out).mono ?_); rintro e w' ⟨rfl, ⟨nd, rfl⟩⟩; (try exact yZ)))
   repeat (go_quiet (first | (go_at_call 126; (with_reducible refine (impl_in.calls a0_0 0 4096 false _ A4.out).mono ?_); rintro e w' ⟨rfl, ⟨nd, rfl⟩⟩; (try exact yZ))); try go_wp2_with (first | (go_at_call 126; (with_reducible refine (impl_in.calls a0_0 0 4096 false _ A4.out).mono ?_); rintro e w' ⟨rfl, ⟨nd, rfl⟩⟩; (try exact yZ))))
   go_meet
   case rel => exact ⟨_, (true), wZ, H', ⟨by first | omega | exact Nat.le_refl _⟩, ⟨Kz BK322.out⟩, ⟨Bq⟩⟩
 case rest =>
  clear HC2
  try clear c1
  try clear p2
  try clear c5
  try clear hcz7_0
  try clear hcz7_1
  try clear hcz8_0
  try clear hcz8_1
  try clear hfz7_0
  try clear hfz7_1
  try clear hfz8_0
  try clear hfz8_1
  obtain ⟨kq, x18_1, rfl, HA, HJ1, BK322, HB⟩ := hcut; cases kq with
  | zero => exact absurd HA.out (by simp [impl_IsBits.j0])
  | succ kj1 =>
   have H := HA.out; clear HA
   simp only [impl_IsBits.j0] at H
   by_cases c9 : x18_1 = true
   ·subst c9
    rw [if_pos rfl] at H; obtain rfl := Option.some.inj H
    go_wp2
    repeat (go_quiet (fail); try go_wp2)
    go_ret
    exact ⟨eZ, Bq⟩
   ·replace c9 := Bool.eq_false_iff.mpr c9
    subst c9
    rw [if_neg (show ¬ (false = true) by decide)] at H; have H' := am H; clear H; obtain ⟨hcz10_0, hcz10_1, hfz10_0, hfz10_1⟩ := cf2 (w := wc) BK322
    go_wp2
    repeat (go_quiet (fail); try go_wp2)
    go_loopg [22] kj1 (fun kq v22 w' => ∃ (x22_2 : Int), v22 = .int .i64 x22_2 ∧ Aside0 (impl_IsBits.l0 kq l0_1 (l0_1.length : Int) x22_2 a0_0 l0_1 = some r) ∧ Aside0 (kq ≤ kj1) ∧ Aside0 (w'.heap[gb322]? = some (.cells #[.int .i64 a0_0, (.slice A0_1 l0_1.length c0_1)] 26 (0, 0))) ∧ Aside0 (Below w.heap.size w w'))
    case atStart => exact ⟨(0), wZ, H', ⟨Nat.le_refl _⟩, ⟨Kz BK322.out⟩, ⟨Bq⟩⟩
    case round =>
     clear H'
     try clear c1
     try clear p2
     try clear c5
     try clear c9
     try clear hcz10_0
     try clear hcz10_1
     try clear hcz7_0
     try clear hcz7_1
     try clear hcz8_0
     try clear hcz8_1
     try clear hfz10_0
     try clear hfz10_1
     try clear hfz7_0
     try clear hfz7_1
     try clear hfz8_0
     try clear hfz8_1
     try clear p2
     obtain ⟨x22_2, rfl, HA, HK2, BK322, HB⟩ := hrel; cases gk with
     | zero => exact absurd HA.out (by simp [impl_IsBits.l0])
     | succ k2 =>
      have H := HA.out; clear HA
      simp only [impl_IsBits.l0] at H
      by_cases c11 : x22_2 < (l0_1.length : Int)
      ·rw [if_pos c11] at H
       have c11b0 : decide (x22_2 < (l0_1.length : Int)) = true := decide_eq_true c11; clear c11
       by_cases c12 : 0 ≤ x22_2
       ·rw [if_pos c12] at H
        have c12b0 : decide (0 ≤ x22_2) = true := decide_eq_true c12; clear c12
        by_cases c13 : x22_2 < (l0_1.length : Int)
        ·rw [if_pos c13] at H
         have c13b0 : decide (x22_2 < (l0_1.length : Int)) = true := decide_eq_true c13; clear c13; replace H := Option.bind_eq_some_iff.mp H; obtain ⟨t326, A140, H⟩ := H; (try dsimp -simprocs only at H); have A14 := am A140; clear A140
         by_cases c15 : t326 = true
         ·subst c15
          rw [if_pos rfl] at H; have H' := am H; clear H; have p325 : 0 ≤ (x22_2 : Int) := dT; have q325 : x22_2 < (l0_1.length : Int) := dT; obtain ⟨ad325, e325, hx325_0⟩ := Kd.at_int HR0_1.out x22_2 p325 q325; cases e325; replace hx325_0 := (HB.out.cell (World.block_lt_of_cell? w _ hx325_0)).trans hx325_0; replace p325 := eq_true p325; replace q325 := eq_true q325
          go_wp2_with (first | (go_at_call 126; (with_reducible refine (impl_in.calls (rd l0_1 x22_2) 0 65535 true _ A14.out).mono ?_); rintro e w' ⟨rfl, ⟨nd, rfl⟩⟩; (try exact yZ)))
          repeat (go_quiet (first | (go_at_call 126; (with_reducible refine (impl_in.calls (rd l0_1 x22_2) 0 65535 true _ A14.out).mono ?_); rintro e w' ⟨rfl, ⟨nd, rfl⟩⟩; (try exact yZ))); try go_wp2_with (first | (go_at_call 126; (with_reducible refine (impl_in.calls (rd l0_1 x22_2) 0 65535 true _ A14.out).mono ?_); rintro e w' ⟨rfl, ⟨nd, rfl⟩⟩; (try exact yZ))))
          go_roundg k2
          case measure => have := HJ1.out; have := HK2.out; omega
          case rel => exact ⟨(wrap64 (x22_2 + 1)), wZ, H', ⟨by have := HJ1.out; have := HK2.out; omega⟩, ⟨Kz BK322.out⟩, ⟨Bq⟩⟩
         ·replace c15 := Bool.eq_false_iff.mpr c15
          subst c15
          rw [if_neg (show ¬ (false = true) by decide)] at H; obtain rfl := Option.some.inj H; have p325 : 0 ≤ (x22_2 : Int) := dT; have q325 : x22_2 < (l0_1.length : Int) := dT; obtain ⟨ad325, e325, hx325_0⟩ := Kd.at_int HR0_1.out x22_2 p325 q325; cases e325; replace hx325_0 := (HB.out.cell (World.block_lt_of_cell? w _ hx325_0)).trans hx325_0; replace p325 := eq_true p325; replace q325 := eq_true q325
          go_wp2_with (first | (go_at_call 126; (with_reducible refine (impl_in.calls (rd l0_1 x22_2) 0 65535 false _ A14.out).mono ?_); rintro e w' ⟨rfl, ⟨nd, rfl⟩⟩; (try exact yZ)))
          repeat (go_quiet (first | (go_at_call 126; (with_reducible refine (impl_in.calls (rd l0_1 x22_2) 0 65535 false _ A14.out).mono ?_); rintro e w' ⟨rfl, ⟨nd, rfl⟩⟩; (try exact yZ))); try go_wp2_with (first | (go_at_call 126; (with_reducible refine (impl_in.calls (rd l0_1 x22_2) 0 65535 false _ A14.out).mono ?_); rintro e w' ⟨rfl, ⟨nd, rfl⟩⟩; (try exact yZ))))
          go_ret
          exact ⟨eZ, Bq⟩
        ·rw [if_neg c13] at H
         exact absurd H (by simp)
       ·rw [if_neg c12] at H
        exact absurd H (by simp)
      ·rw [if_neg c11] at H
       have c11b0 : decide (x22_2 < (l0_1.length : Int)) = false := decide_eq_false c11; clear c11
       by_cases c16 : (Int.tmod a0_0 16) = 0
       ·rw [if_pos c16] at H
        have c16b0 : ((Int.tmod a0_0 16) == 0) = true := beq_iff_eq.mpr c16; have c16b1 : ((Int.tmod a0_0 16) != 0) = false := bne_eq_false_iff_eq.mpr c16; clear c16; obtain rfl := Option.some.inj H; obtain ⟨hcz17_0, hcz17_1, hfz17_0, hfz17_1⟩ := cf2 (w := wr) BK322
        go_wp2
        repeat (go_quiet (fail); try go_wp2)
        go_ret
        exact ⟨eZ, Bq⟩
       ·rw [if_neg c16] at H
        have c16b0 : ((Int.tmod a0_0 16) == 0) = false := beq_eq_false_iff_ne.mpr c16; have c16b1 : ((Int.tmod a0_0 16) != 0) = true := bne_iff_ne.mpr c16; obtain ⟨ji18, hji18⟩ : ∃ j_ : Int, (wrap64 ((l0_1.length : Int) - 1)) = j_ := ⟨_, rfl⟩
        replace H : (if 0 ≤ (ji18) then (if (ji18) < (l0_1.length : Int) then (if 0 ≤ (Int.tmod a0_0 16) then (some ((shr .i64 (rd l0_1 (ji18)) (Int.tmod a0_0 16)) == 0)) else (none)) else (none)) else (none)) = some r := by first | (rw [hji18] at H; exact H) | (simp only [hji18] at H ⊢; exact H)
        have hji18w : (IntKind.i64.wrap ((l0_1.length : Int) - 1)) = ji18 := (i64_w _).trans hji18
        by_cases c19 : 0 ≤ (ji18)
        ·rw [if_pos c19] at H
         have c19b0 : decide (0 ≤ (ji18)) = true := decide_eq_true c19; clear c19
         by_cases c20 : (ji18) < (l0_1.length : Int)
         ·rw [if_pos c20] at H
          have c20b0 : decide ((ji18) < (l0_1.length : Int)) = true := decide_eq_true c20; clear c20; obtain ⟨ji21, hji21⟩ : ∃ j_ : Int, (Int.tmod a0_0 16) = j_ := ⟨_, rfl⟩
          replace H : (if 0 ≤ (ji21) then (some ((shr .i64 (rd l0_1 (ji18)) (ji21)) == 0)) else (none)) = some r := by first | (rw [hji21] at H; exact H) | (simp only [hji21] at H ⊢; exact H)
          (try rw [hji21] at c16b0)
          (try rw [hji21] at c16b1)
          by_cases c22 : 0 ≤ (ji21)
          ·rw [if_pos c22] at H
           have c22b0 := eq_true c22; have c22b1 : decide (0 ≤ (ji21)) = true := decide_eq_true c22; clear c22; obtain ⟨ji23, hji23⟩ : ∃ j_ : Int, (shr .i64 (rd l0_1 (ji18)) (ji21)) = j_ := ⟨_, rfl⟩
           replace H : (some ((ji23) == 0)) = some r := by first | (rw [hji23] at H; exact H) | (simp only [hji23] at H ⊢; exact H)
           have hji23_ : ((rd l0_1 (ji18)) / 2 ^ min (ji21).toNat 64) = ji23 := hji23; have hji23z : (ji21) ≤ 64 → ((rd l0_1 (ji18)) / 2 ^ (ji21).toNat) = ji23 := shr_small hji23; obtain rfl := Option.some.inj H; obtain ⟨hcz24_0, hcz24_1, hfz24_0, hfz24_1⟩ := cf2 (w := wr) BK322; have p327 : 0 ≤ ((ji18) : Int) := dT; have q327 : (ji18) < (l0_1.length : Int) := dT; obtain ⟨ad327, e327, hx327_0⟩ := Kd.at_int HR0_1.out (ji18) p327 q327; cases e327; replace hx327_0 := (HB.out.cell (World.block_lt_of_cell? w _ hx327_0)).trans hx327_0; replace p327 := eq_true p327; replace q327 := eq_true q327
           go_wp2
           repeat (go_quiet (fail); try go_wp2)
           go_ret
           exact ⟨by first | rfl | (simp [errW_none, errW_some] <;> rfl) | (simp only [← hji18, ← hji21, ← hji23]; first | rfl | (simp [errW_none, errW_some] <;> rfl)) | (simp [*, errW_none, errW_some] <;> rfl), Bq⟩
          ·rw [if_neg c22] at H
           exact absurd H (by simp)
         ·rw [if_neg c20] at H
          exact absurd H (by simp)
        ·rw [if_neg c19] at H
         exact absurd H (by simp)

def impl_IsBloom.f (k : Nat) (a0_0 : Int) (a0_1 : Int) (a0_2 : Int) (l0_3 : List Int) : Option (Bool) := (impl_sizesOk.f a0_0 a0_1 a0_2).bind fun t329 => (if t329 = true then ((impl_IsBits.f k a0_2 l0_3).bind fun t330 => (some t330)) else (some false))
theorem impl_IsBloom.calls (k : Nat) (a0_0 : Int) (a0_1 : Int) (a0_2 : Int) (A0_3 : Option Addr) (c0_3 : Nat) (l0_3 : List Int) (r : Bool) (w : World) (hr0_3 : Kd.C (Kd.int .i64) w A0_3 l0_3.length l0_3) (hc0_3 : l0_3.length ≤ c0_3) (h : impl_IsBloom.f k a0_0 a0_1 a0_2 l0_3 = some r) :
  Calls Try.prog 97 #[.agg #[.int .i64 a0_0, .int .i64 a0_1, .int .i64 a0_2, .slice A0_3 l0_3.length c0_3]] w fun e w' => e = .returned (.bool r) ∧ Below w.heap.size w w' := by
 have hu28 := Try.underlying28; have hu26 := Try.underlying26; have HR0_3 := am hr0_3; have HC0_3 := am hc0_3; clear hr0_3 hc0_3; have HB := am (Below.refl w.heap.size w); have H : ((impl_sizesOk.f a0_0 a0_1 a0_2).bind fun t329 => (if t329 = true then ((impl_IsBits.f k a0_2 l0_3).bind fun t330 => (some t330)) else (some false))) = some r := h; clear h; replace H := Option.bind_eq_some_iff.mp H; obtain ⟨t329, A20, H⟩ := H; (try dsimp -simprocs only at H); have A2 := am A20; clear A20
 by_cases c3 : t329 = true
 ·subst c3
  rw [if_pos rfl] at H; replace H := Option.bind_eq_some_iff.mp H; obtain ⟨t330, A40, H⟩ := H; (try dsimp -simprocs only at H); have A4 := am A40; clear A40; obtain rfl := Option.some.inj H
  go_enter Try.func97, Try.ntmps97
  go_wp2_with (first | ((with_reducible refine gate_dst (N := 1) rfl ?_); refine bE 1 #[.int .i64 a0_0, .int .i64 a0_1, .int .i64 a0_2, .slice A0_3 l0_3.length c0_3] 28 ?_; intro gb328 hg w5 hbox hb; have n0_ := Bb HB hb; have n1_ := am (hbox); have n2_ := Gl HB hg; have n3_ := Gl HB hg; clear HB; revert n0_ n1_ n2_ n3_; intro HB BK328 GW328 GE328; clear hb hbox hg; obtain ⟨hcz6_0, hcz6_1, hcz6_2, hcz6_3, hfz6_0, hfz6_1, hfz6_2, hfz6_3⟩ := cf4 (w := w5) BK328) | ((with_reducible refine gate_callee (f := 102) rfl ?_); refine gL (some 10) Try.func102 #[.int .i64 a0_0, .int .i64 a0_1, .int .i64 a0_2] ?_; (with_reducible refine (impl_sizesOk.calls a0_0 a0_1 a0_2 true _ A2.out).mono ?_); rintro e w' ⟨rfl, ⟨nd, rfl⟩⟩; refine ⟨_, rfl, ?_⟩) | (go_at_call 125; (with_reducible refine (impl_IsBits.calls k a0_2 _ _ l0_3 t330 _ ?side1 ?side2 A4.out).mono ?_); (case side1 => exact Cz (Kd.C_below HR0_3.out (Bq))); (case side2 => exact HC0_3.out); rintro e w7 ⟨rfl, hb⟩; have n0_ := Kb BK328 hb; have n1_ := Bc HB hb; clear BK328 HB; revert n0_ n1_; intro BK328 HB; (try clear hb); (try clear hb2); (try clear hk); (try clear hi)))
  go_ret
  exact ⟨eZ, Bq⟩
 ·replace c3 := Bool.eq_false_iff.mpr c3
  subst c3
  rw [if_neg (show ¬ (false = true) by decide)] at H; obtain rfl := Option.some.inj H
  go_enter Try.func97, Try.ntmps97
  go_wp2_with (first | ((with_reducible refine gate_dst (N := 1) rfl ?_); refine bE 1 #[.int .i64 a0_0, .int .i64 a0_1, .int .i64 a0_2, .slice A0_3 l0_3.length c0_3] 28 ?_; intro gb328 hg w8 hbox hb; have n0_ := Bb HB hb; have n1_ := am (hbox); have n2_ := Gl HB hg; have n3_ := Gl HB hg; clear HB; revert n0_ n1_ n2_ n3_; intro HB BK328 GW328 GE328; clear hb hbox hg; obtain ⟨hcz9_0, hcz9_1, hcz9_2, hcz9_3, hfz9_0, hfz9_1, hfz9_2, hfz9_3⟩ := cf4 (w := w8) BK328) | ((with_reducible refine gate_callee (f := 102) rfl ?_); refine gL (some 10) Try.func102 #[.int .i64 a0_0, .int .i64 a0_1, .int .i64 a0_2] ?_; (with_reducible refine (impl_sizesOk.calls a0_0 a0_1 a0_2 false _ A2.out).mono ?_); rintro e w' ⟨rfl, ⟨nd, rfl⟩⟩; refine ⟨_, rfl, ?_⟩))
  go_ret
  exact ⟨eZ, Bq⟩

def impl_ShareOf.f (k : Nat) (a0_0 : Int) (a0_1 : Int) (a0_2 : Int) (l0_3 : List Int) (a1 : ByteArray) (a2 : Int) : Option (Int × Int × Bool) := (impl_TextsOver.f k a1 a2).bind fun bt332 => (if bt332.2 = true then ((impl_IsBloom.f k a0_0 a0_1 a0_2 l0_3).bind fun t336 => (if t336 = true then ((impl_wrong_at_impl_Bloom_says.f k ([] : List ByteArray) bt332.1 a0_0 a0_1 a0_2 l0_3).bind fun t337 => (some ((t337.length : Int), (bt332.1.length : Int), true))) else (some (0, 0, false)))) else (some (0, 0, false)))
theorem impl_ShareOf.calls (k : Nat) (a0_0 : Int) (a0_1 : Int) (a0_2 : Int) (A0_3 : Option Addr) (c0_3 : Nat) (l0_3 : List Int) (a1 : ByteArray) (a2 : Int) (r1 : Int) (r2 : Int) (r3 : Bool) (w : World) (hr0_3 : Kd.C (Kd.int .i64) w A0_3 l0_3.length l0_3) (hc0_3 : l0_3.length ≤ c0_3) (h : impl_ShareOf.f k a0_0 a0_1 a0_2 l0_3 a1 a2 = some (r1, r2, r3)) :
  Calls Try.prog 37 #[.agg #[.int .i64 a0_0, .int .i64 a0_1, .int .i64 a0_2, .slice A0_3 l0_3.length c0_3], .string a1, .int .i64 a2] w fun e w' => e = .returned (.tuple #[.int .i64 r1, .int .i64 r2, .bool r3]) ∧ Below w.heap.size w w' := by
 have hu28 := Try.underlying28; have HR0_3 := am hr0_3; have HC0_3 := am hc0_3; clear hr0_3 hc0_3; have HB := am (Below.refl w.heap.size w); have H : ((impl_TextsOver.f k a1 a2).bind fun bt332 => (if bt332.2 = true then ((impl_IsBloom.f k a0_0 a0_1 a0_2 l0_3).bind fun t336 => (if t336 = true then ((impl_wrong_at_impl_Bloom_says.f k ([] : List ByteArray) bt332.1 a0_0 a0_1 a0_2 l0_3).bind fun t337 => (some ((t337.length : Int), (bt332.1.length : Int), true))) else (some (0, 0, false)))) else (some (0, 0, false)))) = some (r1, r2, r3) := h; clear h; replace H := Option.bind_eq_some_iff.mp H; obtain ⟨⟨t332, t333⟩, A40, H⟩ := H; (try dsimp -simprocs only at H); have A4 := am A40; clear A40
 by_cases c5 : t333 = true
 ·subst c5
  rw [if_pos rfl] at H; replace H := Option.bind_eq_some_iff.mp H; obtain ⟨t336, A60, H⟩ := H; (try dsimp -simprocs only at H); have A6 := am A60; clear A60
  by_cases c7 : t336 = true
  ·subst c7
   rw [if_pos rfl] at H; replace H := Option.bind_eq_some_iff.mp H; obtain ⟨t337, A80, H⟩ := H; (try dsimp -simprocs only at H); have A8 := am A80; clear A80
   simp only [Option.some.injEq, Prod.mk.injEq] at H
   obtain ⟨rfl, rfl, rfl⟩ := H
   go_enter Try.func37, Try.ntmps37
   go_wp2_with (first | ((with_reducible refine gate_dst (N := 3) rfl ?_); refine bE 3 #[.int .i64 a0_0, .int .i64 a0_1, .int .i64 a0_2, .slice A0_3 l0_3.length c0_3] 28 ?_; intro gb331 hg w9 hbox hb; have n0_ := Bb HB hb; have n1_ := am (hbox); have n2_ := Gl HB hg; have n3_ := Gl HB hg; clear HB; revert n0_ n1_ n2_ n3_; intro HB BK331 GW331 GE331; clear hb hbox hg) | ((with_reducible refine gate_callee (f := 81) rfl ?_); refine gL (some 14) Try.func81 #[.string a1, .int .i64 a2] ?_; (with_reducible refine (impl_TextsOver.calls k a1 a2 t332 true _ A4.out).mono ?_); rintro e w10 ⟨v334, rfl, ho0, hb⟩; refine ⟨_, rfl, ?_⟩; have n0_ := Rm ho0 HB; have n1_ := Kb BK331 hb; have n2_ := Bc HB hb; clear BK331 HB; revert n0_ n1_ n2_; intro HO335 BK331 HB; (try clear hb); (try clear hb2); (try clear hk); (try clear hi); (try clear ho0); obtain ⟨hcz11_0, hcz11_1, hcz11_2, hcz11_3, hfz11_0, hfz11_1, hfz11_2, hfz11_3⟩ := cf4 (w := w10) BK331) | (go_at_call 97; (with_reducible refine (impl_IsBloom.calls k a0_0 a0_1 a0_2 _ _ l0_3 true _ ?side1 ?side2 A6.out).mono ?_); (case side1 => exact Cz (Kd.C_below HR0_3.out HB.out)); (case side2 => exact HC0_3.out); rintro e w12 ⟨rfl, hb⟩; have n0_ := Rb HO335 hb; have n1_ := Kb BK331 hb; have n2_ := Bc HB hb; clear HO335 BK331 HB; revert n0_ n1_ n2_; intro HO335 BK331 HB; (try clear hb); (try clear hb2); (try clear hk); (try clear hi); obtain ⟨Ao13, co13, eo13⟩ := Kd.R_slice HO335.out; subst eo13) | ((with_reducible refine gate_callee (f := 104) rfl ?_); refine gL (some 26) Try.func104 #[.slice none 0 0, .slice Ao13 t332.length co13, .func (.func 105) #[.pointer (some ⟨gb331, 0, none⟩)] #[]] ?_; (refine (impl_wrong_at_impl_Bloom_says.calls k _ _ ([] : List ByteArray) _ _ t332  gb331 a0_0 a0_1 a0_2 A0_3 c0_3 l0_3 t337 _ ?side1 ?side2 ?side3 ?side4 ?side5 ?side6 ?side7 A8.out).mono ?_); (case side1 => exact Kd.C_nil _ _); (case side2 => exact Nat.le_refl _); (case side3 => exact Cz ((Kd.R_reads' HO335.out).2.2)); (case side4 => exact (Kd.R_reads' HO335.out).2.1); (case side5 => exact Kz BK331.out); (case side6 => exact Cz (Kd.C_below HR0_3.out HB.out)); (case side7 => exact HC0_3.out); rintro e w14 ⟨v338, rfl, ho0, hb⟩; refine ⟨_, rfl, ?_⟩; have n0_ := Rb HO335 hb; have n1_ := Rm ho0 HB; have n2_ := Kb BK331 hb; have n3_ := Bc HB hb; clear HO335 BK331 HB; revert n0_ n1_ n2_ n3_; intro HO335 HO339 BK331 HB; (try clear hb); (try clear hb2); (try clear hk); (try clear hi); (try clear ho0); obtain ⟨Ao15, co15, eo15⟩ := Kd.R_slice HO339.out; subst eo15))
   go_ret3
   exact ⟨eZ, Bq⟩
  ·replace c7 := Bool.eq_false_iff.mpr c7
   subst c7
   rw [if_neg (show ¬ (false = true) by decide)] at H
   simp only [Option.some.injEq, Prod.mk.injEq] at H
   obtain ⟨rfl, rfl, rfl⟩ := H
   go_enter Try.func37, Try.ntmps37
   go_wp2_with (first | ((with_reducible refine gate_dst (N := 3) rfl ?_); refine bE 3 #[.int .i64 a0_0, .int .i64 a0_1, .int .i64 a0_2, .slice A0_3 l0_3.length c0_3] 28 ?_; intro gb331 hg w16 hbox hb; have n0_ := Bb HB hb; have n1_ := am (hbox); have n2_ := Gl HB hg; have n3_ := Gl HB hg; clear HB; revert n0_ n1_ n2_ n3_; intro HB BK331 GW331 GE331; clear hb hbox hg) | ((with_reducible refine gate_callee (f := 81) rfl ?_); refine gL (some 14) Try.func81 #[.string a1, .int .i64 a2] ?_; (with_reducible refine (impl_TextsOver.calls k a1 a2 t332 true _ A4.out).mono ?_); rintro e w17 ⟨v334, rfl, ho0, hb⟩; refine ⟨_, rfl, ?_⟩; have n0_ := Rm ho0 HB; have n1_ := Kb BK331 hb; have n2_ := Bc HB hb; clear BK331 HB; revert n0_ n1_ n2_; intro HO335 BK331 HB; (try clear hb); (try clear hb2); (try clear hk); (try clear hi); (try clear ho0); obtain ⟨hcz18_0, hcz18_1, hcz18_2, hcz18_3, hfz18_0, hfz18_1, hfz18_2, hfz18_3⟩ := cf4 (w := w17) BK331) | (go_at_call 97; (with_reducible refine (impl_IsBloom.calls k a0_0 a0_1 a0_2 _ _ l0_3 false _ ?side1 ?side2 A6.out).mono ?_); (case side1 => exact Cz (Kd.C_below HR0_3.out HB.out)); (case side2 => exact HC0_3.out); rintro e w19 ⟨rfl, hb⟩; have n0_ := Rb HO335 hb; have n1_ := Kb BK331 hb; have n2_ := Bc HB hb; clear HO335 BK331 HB; revert n0_ n1_ n2_; intro HO335 BK331 HB; (try clear hb); (try clear hb2); (try clear hk); (try clear hi)))
   go_ret3
   exact ⟨eZ, Bq⟩
 ·replace c5 := Bool.eq_false_iff.mpr c5
  subst c5
  rw [if_neg (show ¬ (false = true) by decide)] at H
  simp only [Option.some.injEq, Prod.mk.injEq] at H
  obtain ⟨rfl, rfl, rfl⟩ := H
  go_enter Try.func37, Try.ntmps37
  go_wp2_with (first | ((with_reducible refine gate_dst (N := 3) rfl ?_); refine bE 3 #[.int .i64 a0_0, .int .i64 a0_1, .int .i64 a0_2, .slice A0_3 l0_3.length c0_3] 28 ?_; intro gb331 hg w20 hbox hb; have n0_ := Bb HB hb; have n1_ := am (hbox); have n2_ := Gl HB hg; have n3_ := Gl HB hg; clear HB; revert n0_ n1_ n2_ n3_; intro HB BK331 GW331 GE331; clear hb hbox hg) | ((with_reducible refine gate_callee (f := 81) rfl ?_); refine gL (some 14) Try.func81 #[.string a1, .int .i64 a2] ?_; (with_reducible refine (impl_TextsOver.calls k a1 a2 t332 false _ A4.out).mono ?_); rintro e w21 ⟨v334, rfl, ho0, hb⟩; refine ⟨_, rfl, ?_⟩; have n0_ := Rm ho0 HB; have n1_ := Kb BK331 hb; have n2_ := Bc HB hb; clear BK331 HB; revert n0_ n1_ n2_; intro HO335 BK331 HB; (try clear hb); (try clear hb2); (try clear hk); (try clear hi); (try clear ho0)))
  go_ret3
  exact ⟨eZ, Bq⟩

def spec_FalseAnswers.f (k : Nat) (a0_0 : Int) (a0_1 : Int) (a0_2 : Int) (l0_3 : List Int) (l1 : List ByteArray) (l2 : List ByteArray) : Option (List Int × Bool) := (spec_fiGood.f k a0_0 a0_1 a0_2 l0_3).bind fun t341 => (if t341 = true then ((spec_biKeys.f k l1).bind fun t342 => (if t342 = true then ((spec_fiKeys.f k l2).bind fun t343 => (if t343 = true then ((spec_fiFalse.f k a0_0 a0_1 a0_2 l0_3 l1 l2).bind fun t344 => (some (t344, true))) else (some (([] : List Int), false)))) else (some (([] : List Int), false)))) else (some (([] : List Int), false)))
theorem spec_FalseAnswers.calls (k : Nat) (a0_0 : Int) (a0_1 : Int) (a0_2 : Int) (A0_3 : Option Addr) (c0_3 : Nat) (l0_3 : List Int) (A1 : Option Addr) (c1 : Nat) (l1 : List ByteArray) (A2 : Option Addr) (c2 : Nat) (l2 : List ByteArray) (r1 : List Int) (r2 : Bool) (w : World) (hr0_3 : Kd.C (Kd.int .i64) w A0_3 l0_3.length l0_3) (hc0_3 : l0_3.length ≤ c0_3) (hr1 : Kd.C Kd.string w A1 l1.length l1) (hc1 : l1.length ≤ c1) (hr2 : Kd.C Kd.string w A2 l2.length l2) (hc2 : l2.length ≤ c2) (h : spec_FalseAnswers.f k a0_0 a0_1 a0_2 l0_3 l1 l2 = some (r1, r2)) :
  Calls Try.prog 38 #[.agg #[.int .i64 a0_0, .int .i64 a0_1, .int .i64 a0_2, .slice A0_3 l0_3.length c0_3], .slice A1 l1.length c1, .slice A2 l2.length c2] w fun e w' => ∃ v0_ : Value, e = .returned (.tuple #[v0_, .bool r2]) ∧ Kd.R (Kd.int .i64) 3 w' w.heap.size (fun _ => True) v0_ r1 ∧ Below w.heap.size w w' := by
 have hu28 := Try.underlying28; have HR0_3 := am hr0_3; have HC0_3 := am hc0_3; clear hr0_3 hc0_3; have HR1 := am hr1; have HC1 := am hc1; clear hr1 hc1; have HR2 := am hr2; have HC2 := am hc2; clear hr2 hc2; have HB := am (Below.refl w.heap.size w); have H : ((spec_fiGood.f k a0_0 a0_1 a0_2 l0_3).bind fun t341 => (if t341 = true then ((spec_biKeys.f k l1).bind fun t342 => (if t342 = true then ((spec_fiKeys.f k l2).bind fun t343 => (if t343 = true then ((spec_fiFalse.f k a0_0 a0_1 a0_2 l0_3 l1 l2).bind fun t344 => (some (t344, true))) else (some (([] : List Int), false)))) else (some (([] : List Int), false)))) else (some (([] : List Int), false)))) = some (r1, r2) := h; clear h; replace H := Option.bind_eq_some_iff.mp H; obtain ⟨t341, A40, H⟩ := H; (try dsimp -simprocs only at H); have A4 := am A40; clear A40
 by_cases c5 : t341 = true
 ·subst c5
  rw [if_pos rfl] at H; replace H := Option.bind_eq_some_iff.mp H; obtain ⟨t342, A60, H⟩ := H; (try dsimp -simprocs only at H); have A6 := am A60; clear A60
  by_cases c7 : t342 = true
  ·subst c7
   rw [if_pos rfl] at H; replace H := Option.bind_eq_some_iff.mp H; obtain ⟨t343, A80, H⟩ := H; (try dsimp -simprocs only at H); have A8 := am A80; clear A80
   by_cases c9 : t343 = true
   ·subst c9
    rw [if_pos rfl] at H; replace H := Option.bind_eq_some_iff.mp H; obtain ⟨t344, A100, H⟩ := H; (try dsimp -simprocs only at H); have A10 := am A100; clear A100
    simp only [Option.some.injEq, Prod.mk.injEq] at H
    obtain ⟨rfl, rfl⟩ := H
    go_enter Try.func38, Try.ntmps38
    go_wp2_with (first | ((with_reducible refine gate_dst (N := 3) rfl ?_); refine bE 3 #[.int .i64 a0_0, .int .i64 a0_1, .int .i64 a0_2, .slice A0_3 l0_3.length c0_3] 28 ?_; intro gb340 hg w11 hbox hb; have n0_ := Bb HB hb; have n1_ := am (hbox); have n2_ := Gl HB hg; have n3_ := Gl HB hg; clear HB; revert n0_ n1_ n2_ n3_; intro HB BK340 GW340 GE340; clear hb hbox hg; obtain ⟨hcz12_0, hcz12_1, hcz12_2, hcz12_3, hfz12_0, hfz12_1, hfz12_2, hfz12_3⟩ := cf4 (w := w11) BK340) | ((with_reducible refine gate_callee (f := 94) rfl ?_); refine gL (some 9) Try.func94 #[.agg #[.int .i64 a0_0, .int .i64 a0_1, .int .i64 a0_2, .slice A0_3 l0_3.length c0_3]] ?_; (with_reducible refine (spec_fiGood.calls k a0_0 a0_1 a0_2 _ _ l0_3 true _ ?side1 ?side2 A4.out).mono ?_); (case side1 => exact Cz (Kd.C_below HR0_3.out HB.out)); (case side2 => exact HC0_3.out); rintro e w13 ⟨rfl, hb⟩; refine ⟨_, rfl, ?_⟩; have n0_ := Kb BK340 hb; have n1_ := Bc HB hb; clear BK340 HB; revert n0_ n1_; intro BK340 HB; (try clear hb); (try clear hb2); (try clear hk); (try clear hi)) | (go_at_call 84; (with_reducible refine (spec_biKeys.calls k _ _ l1 true _ ?side1 ?side2 A6.out).mono ?_); (case side1 => exact Cz (Kd.C_below HR1.out HB.out)); (case side2 => exact HC1.out); rintro e w' ⟨rfl, ⟨nd, rfl⟩⟩) | (go_at_call 100; (with_reducible refine (spec_fiKeys.calls k _ _ l2 true _ ?side1 ?side2 A8.out).mono ?_); (case side1 => exact Cz (Kd.C_below HR2.out (Bq))); (case side2 => exact HC2.out); rintro e w' ⟨rfl, ⟨nd, rfl⟩⟩; obtain ⟨hcz14_0, hcz14_1, hcz14_2, hcz14_3, hfz14_0, hfz14_1, hfz14_2, hfz14_3⟩ := cf4 (w := w13) BK340) | ((with_reducible refine gate_callee (f := 101) rfl ?_); refine gL (some 24) Try.func101 #[.agg #[.int .i64 a0_0, .int .i64 a0_1, .int .i64 a0_2, .slice A0_3 l0_3.length c0_3], .slice A1 l1.length c1, .slice A2 l2.length c2] ?_; (with_reducible refine (spec_fiFalse.calls k a0_0 a0_1 a0_2 _ _ l0_3 _ _ l1 _ _ l2 t344 _ ?side1 ?side2 ?side3 ?side4 ?side5 ?side6 A10.out).mono ?_); (case side1 => exact Cz (Kd.C_below HR0_3.out (Bq))); (case side2 => exact HC0_3.out); (case side3 => exact Cz (Kd.C_below HR1.out (Bq))); (case side4 => exact HC1.out); (case side5 => exact Cz (Kd.C_below HR2.out (Bq))); (case side6 => exact HC2.out); rintro e w15 ⟨v345, rfl, ho0, hb⟩; refine ⟨_, rfl, ?_⟩; have n0_ := Rm ho0 HB; have n1_ := Kb BK340 hb; have n2_ := Bc HB hb; clear BK340 HB; revert n0_ n1_ n2_; intro HO346 BK340 HB; (try clear hb); (try clear hb2); (try clear hk); (try clear hi); (try clear ho0)))
    go_ret2
    exact ⟨_, eZ, Rz HO346.out, Bq⟩
   ·replace c9 := Bool.eq_false_iff.mpr c9
    subst c9
    rw [if_neg (show ¬ (false = true) by decide)] at H
    simp only [Option.some.injEq, Prod.mk.injEq] at H
    obtain ⟨rfl, rfl⟩ := H
    go_enter Try.func38, Try.ntmps38
    go_wp2_with (first | ((with_reducible refine gate_dst (N := 3) rfl ?_); refine bE 3 #[.int .i64 a0_0, .int .i64 a0_1, .int .i64 a0_2, .slice A0_3 l0_3.length c0_3] 28 ?_; intro gb340 hg w16 hbox hb; have n0_ := Bb HB hb; have n1_ := am (hbox); have n2_ := Gl HB hg; have n3_ := Gl HB hg; clear HB; revert n0_ n1_ n2_ n3_; intro HB BK340 GW340 GE340; clear hb hbox hg; obtain ⟨hcz17_0, hcz17_1, hcz17_2, hcz17_3, hfz17_0, hfz17_1, hfz17_2, hfz17_3⟩ := cf4 (w := w16) BK340) | ((with_reducible refine gate_callee (f := 94) rfl ?_); refine gL (some 9) Try.func94 #[.agg #[.int .i64 a0_0, .int .i64 a0_1, .int .i64 a0_2, .slice A0_3 l0_3.length c0_3]] ?_; (with_reducible refine (spec_fiGood.calls k a0_0 a0_1 a0_2 _ _ l0_3 true _ ?side1 ?side2 A4.out).mono ?_); (case side1 => exact Cz (Kd.C_below HR0_3.out HB.out)); (case side2 => exact HC0_3.out); rintro e w18 ⟨rfl, hb⟩; refine ⟨_, rfl, ?_⟩; have n0_ := Kb BK340 hb; have n1_ := Bc HB hb; clear BK340 HB; revert n0_ n1_; intro BK340 HB; (try clear hb); (try clear hb2); (try clear hk); (try clear hi)) | (go_at_call 84; (with_reducible refine (spec_biKeys.calls k _ _ l1 true _ ?side1 ?side2 A6.out).mono ?_); (case side1 => exact Cz (Kd.C_below HR1.out HB.out)); (case side2 => exact HC1.out); rintro e w' ⟨rfl, ⟨nd, rfl⟩⟩) | (go_at_call 100; (with_reducible refine (spec_fiKeys.calls k _ _ l2 false _ ?side1 ?side2 A8.out).mono ?_); (case side1 => exact Cz (Kd.C_below HR2.out (Bq))); (case side2 => exact HC2.out); rintro e w' ⟨rfl, ⟨nd, rfl⟩⟩))
    go_ret2
    exact ⟨_, eZ, nZ, Bq⟩
  ·replace c7 := Bool.eq_false_iff.mpr c7
   subst c7
   rw [if_neg (show ¬ (false = true) by decide)] at H
   simp only [Option.some.injEq, Prod.mk.injEq] at H
   obtain ⟨rfl, rfl⟩ := H
   go_enter Try.func38, Try.ntmps38
   go_wp2_with (first | ((with_reducible refine gate_dst (N := 3) rfl ?_); refine bE 3 #[.int .i64 a0_0, .int .i64 a0_1, .int .i64 a0_2, .slice A0_3 l0_3.length c0_3] 28 ?_; intro gb340 hg w19 hbox hb; have n0_ := Bb HB hb; have n1_ := am (hbox); have n2_ := Gl HB hg; have n3_ := Gl HB hg; clear HB; revert n0_ n1_ n2_ n3_; intro HB BK340 GW340 GE340; clear hb hbox hg; obtain ⟨hcz20_0, hcz20_1, hcz20_2, hcz20_3, hfz20_0, hfz20_1, hfz20_2, hfz20_3⟩ := cf4 (w := w19) BK340) | ((with_reducible refine gate_callee (f := 94) rfl ?_); refine gL (some 9) Try.func94 #[.agg #[.int .i64 a0_0, .int .i64 a0_1, .int .i64 a0_2, .slice A0_3 l0_3.length c0_3]] ?_; (with_reducible refine (spec_fiGood.calls k a0_0 a0_1 a0_2 _ _ l0_3 true _ ?side1 ?side2 A4.out).mono ?_); (case side1 => exact Cz (Kd.C_below HR0_3.out HB.out)); (case side2 => exact HC0_3.out); rintro e w21 ⟨rfl, hb⟩; refine ⟨_, rfl, ?_⟩; have n0_ := Kb BK340 hb; have n1_ := Bc HB hb; clear BK340 HB; revert n0_ n1_; intro BK340 HB; (try clear hb); (try clear hb2); (try clear hk); (try clear hi)) | (go_at_call 84; (with_reducible refine (spec_biKeys.calls k _ _ l1 false _ ?side1 ?side2 A6.out).mono ?_); (case side1 => exact Cz (Kd.C_below HR1.out HB.out)); (case side2 => exact HC1.out); rintro e w' ⟨rfl, ⟨nd, rfl⟩⟩))
   go_ret2
   exact ⟨_, eZ, nZ, Bq⟩
 ·replace c5 := Bool.eq_false_iff.mpr c5
  subst c5
  rw [if_neg (show ¬ (false = true) by decide)] at H
  simp only [Option.some.injEq, Prod.mk.injEq] at H
  obtain ⟨rfl, rfl⟩ := H
  go_enter Try.func38, Try.ntmps38
  go_wp2_with (first | ((with_reducible refine gate_dst (N := 3) rfl ?_); refine bE 3 #[.int .i64 a0_0, .int .i64 a0_1, .int .i64 a0_2, .slice A0_3 l0_3.length c0_3] 28 ?_; intro gb340 hg w22 hbox hb; have n0_ := Bb HB hb; have n1_ := am (hbox); have n2_ := Gl HB hg; have n3_ := Gl HB hg; clear HB; revert n0_ n1_ n2_ n3_; intro HB BK340 GW340 GE340; clear hb hbox hg; obtain ⟨hcz23_0, hcz23_1, hcz23_2, hcz23_3, hfz23_0, hfz23_1, hfz23_2, hfz23_3⟩ := cf4 (w := w22) BK340) | ((with_reducible refine gate_callee (f := 94) rfl ?_); refine gL (some 9) Try.func94 #[.agg #[.int .i64 a0_0, .int .i64 a0_1, .int .i64 a0_2, .slice A0_3 l0_3.length c0_3]] ?_; (with_reducible refine (spec_fiGood.calls k a0_0 a0_1 a0_2 _ _ l0_3 false _ ?side1 ?side2 A4.out).mono ?_); (case side1 => exact Cz (Kd.C_below HR0_3.out HB.out)); (case side2 => exact HC0_3.out); rintro e w24 ⟨rfl, hb⟩; refine ⟨_, rfl, ?_⟩; have n0_ := Kb BK340 hb; have n1_ := Bc HB hb; clear BK340 HB; revert n0_ n1_; intro BK340 HB; (try clear hb); (try clear hb2); (try clear hk); (try clear hi)))
  go_ret2
  exact ⟨_, eZ, nZ, Bq⟩

def impl_FalseAnswers.f (k : Nat) (a0_0 : Int) (a0_1 : Int) (a0_2 : Int) (l0_3 : List Int) (l1 : List ByteArray) (l2 : List ByteArray) : Option (List Int × Bool) := (impl_IsBloom.f k a0_0 a0_1 a0_2 l0_3).bind fun t348 => (if t348 = true then ((impl_AreKeys.f k l1).bind fun t349 => (if t349 = true then ((impl_areTexts.f k l2).bind fun t350 => (if t350 = true then ((impl_wrong_at_impl_Bloom_says.f k l1 l2 a0_0 a0_1 a0_2 l0_3).bind fun t351 => (some (t351, true))) else (some (([] : List Int), false)))) else (some (([] : List Int), false)))) else (some (([] : List Int), false)))
theorem impl_FalseAnswers.calls (k : Nat) (a0_0 : Int) (a0_1 : Int) (a0_2 : Int) (A0_3 : Option Addr) (c0_3 : Nat) (l0_3 : List Int) (A1 : Option Addr) (c1 : Nat) (l1 : List ByteArray) (A2 : Option Addr) (c2 : Nat) (l2 : List ByteArray) (r1 : List Int) (r2 : Bool) (w : World) (hr0_3 : Kd.C (Kd.int .i64) w A0_3 l0_3.length l0_3) (hc0_3 : l0_3.length ≤ c0_3) (hr1 : Kd.C Kd.string w A1 l1.length l1) (hc1 : l1.length ≤ c1) (hr2 : Kd.C Kd.string w A2 l2.length l2) (hc2 : l2.length ≤ c2) (h : impl_FalseAnswers.f k a0_0 a0_1 a0_2 l0_3 l1 l2 = some (r1, r2)) :
  Calls Try.prog 39 #[.agg #[.int .i64 a0_0, .int .i64 a0_1, .int .i64 a0_2, .slice A0_3 l0_3.length c0_3], .slice A1 l1.length c1, .slice A2 l2.length c2] w fun e w' => ∃ v0_ : Value, e = .returned (.tuple #[v0_, .bool r2]) ∧ Kd.R (Kd.int .i64) 3 w' w.heap.size (fun _ => True) v0_ r1 ∧ Below w.heap.size w w' := by
 have hu28 := Try.underlying28; have HR0_3 := am hr0_3; have HC0_3 := am hc0_3; clear hr0_3 hc0_3; have HR1 := am hr1; have HC1 := am hc1; clear hr1 hc1; have HR2 := am hr2; have HC2 := am hc2; clear hr2 hc2; have HB := am (Below.refl w.heap.size w); have H : ((impl_IsBloom.f k a0_0 a0_1 a0_2 l0_3).bind fun t348 => (if t348 = true then ((impl_AreKeys.f k l1).bind fun t349 => (if t349 = true then ((impl_areTexts.f k l2).bind fun t350 => (if t350 = true then ((impl_wrong_at_impl_Bloom_says.f k l1 l2 a0_0 a0_1 a0_2 l0_3).bind fun t351 => (some (t351, true))) else (some (([] : List Int), false)))) else (some (([] : List Int), false)))) else (some (([] : List Int), false)))) = some (r1, r2) := h; clear h; replace H := Option.bind_eq_some_iff.mp H; obtain ⟨t348, A40, H⟩ := H; (try dsimp -simprocs only at H); have A4 := am A40; clear A40
 by_cases c5 : t348 = true
 ·subst c5
  rw [if_pos rfl] at H; replace H := Option.bind_eq_some_iff.mp H; obtain ⟨t349, A60, H⟩ := H; (try dsimp -simprocs only at H); have A6 := am A60; clear A60
  by_cases c7 : t349 = true
  ·subst c7
   rw [if_pos rfl] at H; replace H := Option.bind_eq_some_iff.mp H; obtain ⟨t350, A80, H⟩ := H; (try dsimp -simprocs only at H); have A8 := am A80; clear A80
   by_cases c9 : t350 = true
   ·subst c9
    rw [if_pos rfl] at H; replace H := Option.bind_eq_some_iff.mp H; obtain ⟨t351, A100, H⟩ := H; (try dsimp -simprocs only at H); have A10 := am A100; clear A100
    simp only [Option.some.injEq, Prod.mk.injEq] at H
    obtain ⟨rfl, rfl⟩ := H
    go_enter Try.func39, Try.ntmps39
    go_wp2_with (first | ((with_reducible refine gate_dst (N := 3) rfl ?_); refine bE 3 #[.int .i64 a0_0, .int .i64 a0_1, .int .i64 a0_2, .slice A0_3 l0_3.length c0_3] 28 ?_; intro gb347 hg w11 hbox hb; have n0_ := Bb HB hb; have n1_ := am (hbox); have n2_ := Gl HB hg; have n3_ := Gl HB hg; clear HB; revert n0_ n1_ n2_ n3_; intro HB BK347 GW347 GE347; clear hb hbox hg; obtain ⟨hcz12_0, hcz12_1, hcz12_2, hcz12_3, hfz12_0, hfz12_1, hfz12_2, hfz12_3⟩ := cf4 (w := w11) BK347) | ((with_reducible refine gate_callee (f := 97) rfl ?_); refine gL (some 9) Try.func97 #[.agg #[.int .i64 a0_0, .int .i64 a0_1, .int .i64 a0_2, .slice A0_3 l0_3.length c0_3]] ?_; (with_reducible refine (impl_IsBloom.calls k a0_0 a0_1 a0_2 _ _ l0_3 true _ ?side1 ?side2 A4.out).mono ?_); (case side1 => exact Cz (Kd.C_below HR0_3.out HB.out)); (case side2 => exact HC0_3.out); rintro e w13 ⟨rfl, hb⟩; refine ⟨_, rfl, ?_⟩; have n0_ := Kb BK347 hb; have n1_ := Bc HB hb; clear BK347 HB; revert n0_ n1_; intro BK347 HB; (try clear hb); (try clear hb2); (try clear hk); (try clear hi)) | (go_at_call 87; (with_reducible refine (impl_AreKeys.calls k _ _ l1 true _ ?side1 ?side2 A6.out).mono ?_); (case side1 => exact Cz (Kd.C_below HR1.out HB.out)); (case side2 => exact HC1.out); rintro e w' ⟨rfl, ⟨nd, rfl⟩⟩) | (go_at_call 103; (with_reducible refine (impl_areTexts.calls k _ _ l2 true _ ?side1 ?side2 A8.out).mono ?_); (case side1 => exact Cz (Kd.C_below HR2.out (Bq))); (case side2 => exact HC2.out); rintro e w' ⟨rfl, ⟨nd, rfl⟩⟩) | ((with_reducible refine gate_callee (f := 104) rfl ?_); refine gL (some 24) Try.func104 #[.slice A1 l1.length c1, .slice A2 l2.length c2, .func (.func 105) #[.pointer (some ⟨gb347, 0, none⟩)] #[]] ?_; (with_reducible refine (impl_wrong_at_impl_Bloom_says.calls k _ _ l1 _ _ l2  gb347 a0_0 a0_1 a0_2 A0_3 c0_3 l0_3 t351 _ ?side1 ?side2 ?side3 ?side4 ?side5 ?side6 ?side7 A10.out).mono ?_); (case side1 => exact Cz (Kd.C_below HR1.out (Bq))); (case side2 => exact HC1.out); (case side3 => exact Cz (Kd.C_below HR2.out (Bq))); (case side4 => exact HC2.out); (case side5 => exact Kz BK347.out); (case side6 => exact Cz (Kd.C_below HR0_3.out (Bq))); (case side7 => exact HC0_3.out); rintro e w14 ⟨v352, rfl, ho0, hb⟩; refine ⟨_, rfl, ?_⟩; have n0_ := Rm ho0 HB; have n1_ := Kb BK347 hb; have n2_ := Bc HB hb; clear BK347 HB; revert n0_ n1_ n2_; intro HO353 BK347 HB; (try clear hb); (try clear hb2); (try clear hk); (try clear hi); (try clear ho0)))
    go_ret2
    exact ⟨_, eZ, Rz HO353.out, Bq⟩
   ·replace c9 := Bool.eq_false_iff.mpr c9
    subst c9
    rw [if_neg (show ¬ (false = true) by decide)] at H
    simp only [Option.some.injEq, Prod.mk.injEq] at H
    obtain ⟨rfl, rfl⟩ := H
    go_enter Try.func39, Try.ntmps39
    go_wp2_with (first | ((with_reducible refine gate_dst (N := 3) rfl ?_); refine bE 3 #[.int .i64 a0_0, .int .i64 a0_1, .int .i64 a0_2, .slice A0_3 l0_3.length c0_3] 28 ?_; intro gb347 hg w15 hbox hb; have n0_ := Bb HB hb; have n1_ := am (hbox); have n2_ := Gl HB hg; have n3_ := Gl HB hg; clear HB; revert n0_ n1_ n2_ n3_; intro HB BK347 GW347 GE347; clear hb hbox hg; obtain ⟨hcz16_0, hcz16_1, hcz16_2, hcz16_3, hfz16_0, hfz16_1, hfz16_2, hfz16_3⟩ := cf4 (w := w15) BK347) | ((with_reducible refine gate_callee (f := 97) rfl ?_); refine gL (some 9) Try.func97 #[.agg #[.int .i64 a0_0, .int .i64 a0_1, .int .i64 a0_2, .slice A0_3 l0_3.length c0_3]] ?_; (with_reducible refine (impl_IsBloom.calls k a0_0 a0_1 a0_2 _ _ l0_3 true _ ?side1 ?side2 A4.out).mono ?_); (case side1 => exact Cz (Kd.C_below HR0_3.out HB.out)); (case side2 => exact HC0_3.out); rintro e w17 ⟨rfl, hb⟩; refine ⟨_, rfl, ?_⟩; have n0_ := Kb BK347 hb; have n1_ := Bc HB hb; clear BK347 HB; revert n0_ n1_; intro BK347 HB; (try clear hb); (try clear hb2); (try clear hk); (try clear hi)) | (go_at_call 87; (with_reducible refine (impl_AreKeys.calls k _ _ l1 true _ ?side1 ?side2 A6.out).mono ?_); (case side1 => exact Cz (Kd.C_below HR1.out HB.out)); (case side2 => exact HC1.out); rintro e w' ⟨rfl, ⟨nd, rfl⟩⟩) | (go_at_call 103; (with_reducible refine (impl_areTexts.calls k _ _ l2 false _ ?side1 ?side2 A8.out).mono ?_); (case side1 => exact Cz (Kd.C_below HR2.out (Bq))); (case side2 => exact HC2.out); rintro e w' ⟨rfl, ⟨nd, rfl⟩⟩))
    go_ret2
    exact ⟨_, eZ, nZ, Bq⟩
  ·replace c7 := Bool.eq_false_iff.mpr c7
   subst c7
   rw [if_neg (show ¬ (false = true) by decide)] at H
   simp only [Option.some.injEq, Prod.mk.injEq] at H
   obtain ⟨rfl, rfl⟩ := H
   go_enter Try.func39, Try.ntmps39
   go_wp2_with (first | ((with_reducible refine gate_dst (N := 3) rfl ?_); refine bE 3 #[.int .i64 a0_0, .int .i64 a0_1, .int .i64 a0_2, .slice A0_3 l0_3.length c0_3] 28 ?_; intro gb347 hg w18 hbox hb; have n0_ := Bb HB hb; have n1_ := am (hbox); have n2_ := Gl HB hg; have n3_ := Gl HB hg; clear HB; revert n0_ n1_ n2_ n3_; intro HB BK347 GW347 GE347; clear hb hbox hg; obtain ⟨hcz19_0, hcz19_1, hcz19_2, hcz19_3, hfz19_0, hfz19_1, hfz19_2, hfz19_3⟩ := cf4 (w := w18) BK347) | ((with_reducible refine gate_callee (f := 97) rfl ?_); refine gL (some 9) Try.func97 #[.agg #[.int .i64 a0_0, .int .i64 a0_1, .int .i64 a0_2, .slice A0_3 l0_3.length c0_3]] ?_; (with_reducible refine (impl_IsBloom.calls k a0_0 a0_1 a0_2 _ _ l0_3 true _ ?side1 ?side2 A4.out).mono ?_); (case side1 => exact Cz (Kd.C_below HR0_3.out HB.out)); (case side2 => exact HC0_3.out); rintro e w20 ⟨rfl, hb⟩; refine ⟨_, rfl, ?_⟩; have n0_ := Kb BK347 hb; have n1_ := Bc HB hb; clear BK347 HB; revert n0_ n1_; intro BK347 HB; (try clear hb); (try clear hb2); (try clear hk); (try clear hi)) | (go_at_call 87; (with_reducible refine (impl_AreKeys.calls k _ _ l1 false _ ?side1 ?side2 A6.out).mono ?_); (case side1 => exact Cz (Kd.C_below HR1.out HB.out)); (case side2 => exact HC1.out); rintro e w' ⟨rfl, ⟨nd, rfl⟩⟩))
   go_ret2
   exact ⟨_, eZ, nZ, Bq⟩
 ·replace c5 := Bool.eq_false_iff.mpr c5
  subst c5
  rw [if_neg (show ¬ (false = true) by decide)] at H
  simp only [Option.some.injEq, Prod.mk.injEq] at H
  obtain ⟨rfl, rfl⟩ := H
  go_enter Try.func39, Try.ntmps39
  go_wp2_with (first | ((with_reducible refine gate_dst (N := 3) rfl ?_); refine bE 3 #[.int .i64 a0_0, .int .i64 a0_1, .int .i64 a0_2, .slice A0_3 l0_3.length c0_3] 28 ?_; intro gb347 hg w21 hbox hb; have n0_ := Bb HB hb; have n1_ := am (hbox); have n2_ := Gl HB hg; have n3_ := Gl HB hg; clear HB; revert n0_ n1_ n2_ n3_; intro HB BK347 GW347 GE347; clear hb hbox hg; obtain ⟨hcz22_0, hcz22_1, hcz22_2, hcz22_3, hfz22_0, hfz22_1, hfz22_2, hfz22_3⟩ := cf4 (w := w21) BK347) | ((with_reducible refine gate_callee (f := 97) rfl ?_); refine gL (some 9) Try.func97 #[.agg #[.int .i64 a0_0, .int .i64 a0_1, .int .i64 a0_2, .slice A0_3 l0_3.length c0_3]] ?_; (with_reducible refine (impl_IsBloom.calls k a0_0 a0_1 a0_2 _ _ l0_3 false _ ?side1 ?side2 A4.out).mono ?_); (case side1 => exact Cz (Kd.C_below HR0_3.out HB.out)); (case side2 => exact HC0_3.out); rintro e w23 ⟨rfl, hb⟩; refine ⟨_, rfl, ?_⟩; have n0_ := Kb BK347 hb; have n1_ := Bc HB hb; clear BK347 HB; revert n0_ n1_; intro BK347 HB; (try clear hb); (try clear hb2); (try clear hk); (try clear hi)))
  go_ret2
  exact ⟨_, eZ, nZ, Bq⟩

def laws_big.f (l0 : List Int) (l1 : List Int) : Option (Bool) := if (l0.length : Int) > 1048576 then (some true) else (some (decide ((l1.length : Int) > (wrap64 (1048576 - (l0.length : Int))))))
theorem laws_big.calls (A0 : Option Addr) (c0 : Nat) (l0 : List Int) (A1 : Option Addr) (c1 : Nat) (l1 : List Int) (r : Bool) (w : World) (hr0 : Kd.C (Kd.int .u8) w A0 l0.length l0) (hc0 : l0.length ≤ c0) (hr1 : Kd.C (Kd.int .u8) w A1 l1.length l1) (hc1 : l1.length ≤ c1) (h : laws_big.f l0 l1 = some r) :
  Calls Try.prog 49 #[.slice A0 l0.length c0, .slice A1 l1.length c1] w fun e w' => e = .returned (.bool r) ∧ Drawn0 w w' := by
 have HR0 := am hr0; have HC0 := am hc0; clear hr0 hc0; have HR1 := am hr1; have HC1 := am hc1; clear hr1 hc1; have H : (if (l0.length : Int) > 1048576 then (some true) else (some (decide ((l1.length : Int) > (wrap64 (1048576 - (l0.length : Int))))))) = some r := h; clear h
 by_cases c3 : (l0.length : Int) > 1048576
 ·rw [if_pos c3] at H
  have c3b0 : decide (1048576 < (l0.length : Int)) = true := decide_eq_true c3; have c3b1 : decide (1048576 < l0.length) = true := decide_eq_true (by omega); clear c3; obtain rfl := Option.some.inj H
  go_enter Try.func49, Try.ntmps49
  go_wp2
  go_ret
  exact ⟨by first | rfl | (simp; done) | (simp [*]; done), by repeat (first | exact Drawn0.refl _ | apply Drawn0.step)⟩
 ·rw [if_neg c3] at H
  have c3b0 : decide (1048576 < (l0.length : Int)) = false := decide_eq_false c3; have c3b1 : decide (1048576 < l0.length) = false := decide_eq_false (by omega); clear c3; obtain rfl := Option.some.inj H
  go_enter Try.func49, Try.ntmps49
  go_wp2
  go_ret
  exact ⟨by first | rfl | (simp; done) | (simp [*]; done), by repeat (first | exact Drawn0.refl _ | apply Drawn0.step)⟩

def impl_BloomHas.f (k : Nat) (a0_0 : Int) (a0_1 : Int) (a0_2 : Int) (l0_3 : List Int) (a1 : ByteArray) : Option (Bool × Bool) := (impl_IsBloom.f k a0_0 a0_1 a0_2 l0_3).bind fun t355 => (if t355 = true then ((impl_IsKey.f k a1).bind fun t356 => (if t356 = true then ((impl_Bloom_says.f k a0_0 a0_1 a0_2 l0_3 a1).bind fun t357 => (some (t357, true))) else (some (false, false)))) else (some (false, false)))
theorem impl_BloomHas.calls (k : Nat) (a0_0 : Int) (a0_1 : Int) (a0_2 : Int) (A0_3 : Option Addr) (c0_3 : Nat) (l0_3 : List Int) (a1 : ByteArray) (r1 : Bool) (r2 : Bool) (w : World) (hr0_3 : Kd.C (Kd.int .i64) w A0_3 l0_3.length l0_3) (hc0_3 : l0_3.length ≤ c0_3) (h : impl_BloomHas.f k a0_0 a0_1 a0_2 l0_3 a1 = some (r1, r2)) :
  Calls Try.prog 51 #[.agg #[.int .i64 a0_0, .int .i64 a0_1, .int .i64 a0_2, .slice A0_3 l0_3.length c0_3], .string a1] w fun e w' => e = .returned (.tuple #[.bool r1, .bool r2]) ∧ Below w.heap.size w w' := by
 have hu28 := Try.underlying28; have HR0_3 := am hr0_3; have HC0_3 := am hc0_3; clear hr0_3 hc0_3; have HB := am (Below.refl w.heap.size w); have H : ((impl_IsBloom.f k a0_0 a0_1 a0_2 l0_3).bind fun t355 => (if t355 = true then ((impl_IsKey.f k a1).bind fun t356 => (if t356 = true then ((impl_Bloom_says.f k a0_0 a0_1 a0_2 l0_3 a1).bind fun t357 => (some (t357, true))) else (some (false, false)))) else (some (false, false)))) = some (r1, r2) := h; clear h; replace H := Option.bind_eq_some_iff.mp H; obtain ⟨t355, A30, H⟩ := H; (try dsimp -simprocs only at H); have A3 := am A30; clear A30
 by_cases c4 : t355 = true
 ·subst c4
  rw [if_pos rfl] at H; replace H := Option.bind_eq_some_iff.mp H; obtain ⟨t356, A50, H⟩ := H; (try dsimp -simprocs only at H); have A5 := am A50; clear A50
  by_cases c6 : t356 = true
  ·subst c6
   rw [if_pos rfl] at H; replace H := Option.bind_eq_some_iff.mp H; obtain ⟨t357, A70, H⟩ := H; (try dsimp -simprocs only at H); have A7 := am A70; clear A70
   simp only [Option.some.injEq, Prod.mk.injEq] at H
   obtain ⟨rfl, rfl⟩ := H
   go_enter Try.func51, Try.ntmps51
   go_wp2_with (first | ((with_reducible refine gate_dst (N := 2) rfl ?_); refine bE 2 #[.int .i64 a0_0, .int .i64 a0_1, .int .i64 a0_2, .slice A0_3 l0_3.length c0_3] 28 ?_; intro gb354 hg w8 hbox hb; have n0_ := Bb HB hb; have n1_ := am (hbox); have n2_ := Gl HB hg; have n3_ := Gl HB hg; clear HB; revert n0_ n1_ n2_ n3_; intro HB BK354 GW354 GE354; clear hb hbox hg; obtain ⟨hcz9_0, hcz9_1, hcz9_2, hcz9_3, hfz9_0, hfz9_1, hfz9_2, hfz9_3⟩ := cf4 (w := w8) BK354) | ((with_reducible refine gate_callee (f := 97) rfl ?_); refine gL (some 7) Try.func97 #[.agg #[.int .i64 a0_0, .int .i64 a0_1, .int .i64 a0_2, .slice A0_3 l0_3.length c0_3]] ?_; (with_reducible refine (impl_IsBloom.calls k a0_0 a0_1 a0_2 _ _ l0_3 true _ ?side1 ?side2 A3.out).mono ?_); (case side1 => exact Cz (Kd.C_below HR0_3.out HB.out)); (case side2 => exact HC0_3.out); rintro e w10 ⟨rfl, hb⟩; refine ⟨_, rfl, ?_⟩; have n0_ := Kb BK354 hb; have n1_ := Bc HB hb; clear BK354 HB; revert n0_ n1_; intro BK354 HB; (try clear hb); (try clear hb2); (try clear hk); (try clear hi)) | (go_at_call 98; (with_reducible refine (impl_IsKey.calls k a1 true _ A5.out).mono ?_); rintro e w' ⟨rfl, ⟨nd, rfl⟩⟩) | ((with_reducible refine gate_callee (f := 105) rfl ?_); refine gL (some 15) Try.func105 #[.pointer (some ⟨gb354, 0, none⟩), .string a1] ?_; (with_reducible refine (impl_Bloom_says.calls k gb354 a0_0 a0_1 a0_2 A0_3 c0_3 l0_3 a1 t357 _ ?side1 ?side2 ?side3 A7.out).mono ?_); (case side1 => exact Kz BK354.out); (case side2 => exact Cz (Kd.C_below HR0_3.out (Bq))); (case side3 => exact HC0_3.out); rintro e w11 ⟨rfl, hb⟩; refine ⟨_, rfl, ?_⟩; have n0_ := Kb BK354 hb; have n1_ := Bc HB hb; clear BK354 HB; revert n0_ n1_; intro BK354 HB; (try clear hb); (try clear hb2); (try clear hk); (try clear hi)))
   go_ret2
   exact ⟨eZ, Bq⟩
  ·replace c6 := Bool.eq_false_iff.mpr c6
   subst c6
   rw [if_neg (show ¬ (false = true) by decide)] at H
   simp only [Option.some.injEq, Prod.mk.injEq] at H
   obtain ⟨rfl, rfl⟩ := H
   go_enter Try.func51, Try.ntmps51
   go_wp2_with (first | ((with_reducible refine gate_dst (N := 2) rfl ?_); refine bE 2 #[.int .i64 a0_0, .int .i64 a0_1, .int .i64 a0_2, .slice A0_3 l0_3.length c0_3] 28 ?_; intro gb354 hg w12 hbox hb; have n0_ := Bb HB hb; have n1_ := am (hbox); have n2_ := Gl HB hg; have n3_ := Gl HB hg; clear HB; revert n0_ n1_ n2_ n3_; intro HB BK354 GW354 GE354; clear hb hbox hg; obtain ⟨hcz13_0, hcz13_1, hcz13_2, hcz13_3, hfz13_0, hfz13_1, hfz13_2, hfz13_3⟩ := cf4 (w := w12) BK354) | ((with_reducible refine gate_callee (f := 97) rfl ?_); refine gL (some 7) Try.func97 #[.agg #[.int .i64 a0_0, .int .i64 a0_1, .int .i64 a0_2, .slice A0_3 l0_3.length c0_3]] ?_; (with_reducible refine (impl_IsBloom.calls k a0_0 a0_1 a0_2 _ _ l0_3 true _ ?side1 ?side2 A3.out).mono ?_); (case side1 => exact Cz (Kd.C_below HR0_3.out HB.out)); (case side2 => exact HC0_3.out); rintro e w14 ⟨rfl, hb⟩; refine ⟨_, rfl, ?_⟩; have n0_ := Kb BK354 hb; have n1_ := Bc HB hb; clear BK354 HB; revert n0_ n1_; intro BK354 HB; (try clear hb); (try clear hb2); (try clear hk); (try clear hi)) | (go_at_call 98; (with_reducible refine (impl_IsKey.calls k a1 false _ A5.out).mono ?_); rintro e w' ⟨rfl, ⟨nd, rfl⟩⟩))
   go_ret2
   exact ⟨eZ, Bq⟩
 ·replace c4 := Bool.eq_false_iff.mpr c4
  subst c4
  rw [if_neg (show ¬ (false = true) by decide)] at H
  simp only [Option.some.injEq, Prod.mk.injEq] at H
  obtain ⟨rfl, rfl⟩ := H
  go_enter Try.func51, Try.ntmps51
  go_wp2_with (first | ((with_reducible refine gate_dst (N := 2) rfl ?_); refine bE 2 #[.int .i64 a0_0, .int .i64 a0_1, .int .i64 a0_2, .slice A0_3 l0_3.length c0_3] 28 ?_; intro gb354 hg w15 hbox hb; have n0_ := Bb HB hb; have n1_ := am (hbox); have n2_ := Gl HB hg; have n3_ := Gl HB hg; clear HB; revert n0_ n1_ n2_ n3_; intro HB BK354 GW354 GE354; clear hb hbox hg; obtain ⟨hcz16_0, hcz16_1, hcz16_2, hcz16_3, hfz16_0, hfz16_1, hfz16_2, hfz16_3⟩ := cf4 (w := w15) BK354) | ((with_reducible refine gate_callee (f := 97) rfl ?_); refine gL (some 7) Try.func97 #[.agg #[.int .i64 a0_0, .int .i64 a0_1, .int .i64 a0_2, .slice A0_3 l0_3.length c0_3]] ?_; (with_reducible refine (impl_IsBloom.calls k a0_0 a0_1 a0_2 _ _ l0_3 false _ ?side1 ?side2 A3.out).mono ?_); (case side1 => exact Cz (Kd.C_below HR0_3.out HB.out)); (case side2 => exact HC0_3.out); rintro e w17 ⟨rfl, hb⟩; refine ⟨_, rfl, ?_⟩; have n0_ := Kb BK354 hb; have n1_ := Bc HB hb; clear BK354 HB; revert n0_ n1_; intro BK354 HB; (try clear hb); (try clear hb2); (try clear hk); (try clear hi)))
  go_ret2
  exact ⟨eZ, Bq⟩

def IsS132 (w0 W : World) (g : Nat) (f0 : List Int) (f1 : Int) (f2 : Int) : Prop := ∃ A0 c0, W.heap[g]? = some (.cells #[.slice A0 f0.length c0, .int .i64 f1, .int .u64 f2] 132 (0, 0)) ∧ w0.heap.size ≤ g ∧ Kd.C (Kd.int .u8) w0 A0 f0.length f0
theorem IsS132.grown {w0 W : World} {g : Nat} {f0 : List Int} {f1 : Int} {f2 : Int} {W1 : World} {row : Option Nat} (h : IsS132 w0 W g f0 f1 f2) (hw : W.grownBy W1 row) (hne : some g ≠ row) : IsS132 w0 W1 g f0 f1 f2 := by
 obtain ⟨A0, c0, hb, hg, hr0⟩ := h; exact ⟨A0, c0, blk_grown hb hw hne, hg, hr0⟩
theorem IsS132.kept {w0 W : World} {g : Nat} {f0 : List Int} {f1 : Int} {f2 : Int} {W1 : World} {S : Nat → Prop} (h : IsS132 w0 W g f0 f1 f2) (hk : Kept W W1 S) (hne : ¬ S g) : IsS132 w0 W1 g f0 f1 f2 := by
 obtain ⟨A0, c0, hb, hg, hr0⟩ := h; exact ⟨A0, c0, blk_kept hb hk hne, hg, hr0⟩
theorem IsS132.below {w0 W : World} {g : Nat} {f0 : List Int} {f1 : Int} {f2 : Int} {W1 : World} (h : IsS132 w0 W g f0 f1 f2) (hw : Below W.heap.size W W1) : IsS132 w0 W1 g f0 f1 f2 := h.grown (grown_of_below hw none) (by simp)
theorem IsS132.alloc {w0 W : World} {g : Nat} {f0 : List Int} {f1 : Int} {f2 : Int} (h : IsS132 w0 W g f0 f1 f2) (o : Obj) : IsS132 w0 (W.alloc o) g f0 f1 f2 := h.below (below_alloc (Below.refl _ _) o)
theorem IsS132.drewN {w0 W : World} {g : Nat} {f0 : List Int} {f1 : Int} {f2 : Int} (h : IsS132 w0 W g f0 f1 f2) (m : Nat) : IsS132 w0 (W.drewN m) g f0 f1 f2 := h
theorem IsS132.drew {w0 W : World} {g : Nat} {f0 : List Int} {f1 : Int} {f2 : Int} (h : IsS132 w0 W g f0 f1 f2) : IsS132 w0 W.drew g f0 f1 f2 := h
theorem IsS132.apart {w0 W : World} {g : Nat} {f0 : List Int} {f1 : Int} {f2 : Int} {α : Type} {d : Kd α} {e : Nat} {base : Nat} {ok : Nat → Prop} {v : Value} {xs : List α} (h : IsS132 w0 W g f0 f1 f2) (ho : d.R e W base ok v xs) (ht : ∀ q, q ∈ e :: d.E → q ≠ 132) : d.R e W base (fun k => ok k ∧ k ≠ g) v xs := by
 obtain ⟨A0, c0, hb, hg, hr0⟩ := h; exact Kd.R_types ho hb ht
theorem IsS132.own_ne {w0 W : World} {g : Nat} {f0 : List Int} {f1 : Int} {f2 : Int} {α : Type} {d : Kd α} {e : Nat} {base : Nat} {ok : Nat → Prop} {v : Value} {xs : List α} (h : IsS132 w0 W g f0 f1 f2) (ho : d.R e W base ok v xs) (ht : e ≠ 132) : some g ≠ v.ownBlock := by
 obtain ⟨A0, c0, hb, hg, hr0⟩ := h; exact Kd.R_ne ho hb ht
theorem IsS132.lt {w0 W : World} {g : Nat} {f0 : List Int} {f1 : Int} {f2 : Int} (h : IsS132 w0 W g f0 f1 f2) : g < W.heap.size := by
 obtain ⟨A0, c0, hb, hg, hr0⟩ := h; exact blk_lt hb
theorem IsS132.ge {w0 W : World} {g : Nat} {f0 : List Int} {f1 : Int} {f2 : Int} (h : IsS132 w0 W g f0 f1 f2) : w0.heap.size ≤ g := by
 obtain ⟨A0, c0, hb, hg, hr0⟩ := h; exact hg
theorem IsS132.far {w0 W : World} {g : Nat} {f0 : List Int} {f1 : Int} {f2 : Int} {p : Addr} (h : IsS132 w0 W g f0 f1 f2) (hne : g ≠ p.block) (u : Value) : IsS132 w0 (W.setCell p u) g f0 f1 f2 := by
 obtain ⟨A0, c0, hb, hg, hr0⟩ := h; exact ⟨A0, c0, blk_far hb hne u, hg, hr0⟩
theorem cellS132_0 {W : World} {g : Nat} {A0 : Option Addr} {c0 : Nat} {f0 : List Int} {f1 : Int} {f2 : Int} (h : W.heap[g]? = some (.cells #[.slice A0 f0.length c0, .int .i64 f1, .int .u64 f2] 132 (0, 0))) : W.cell? ⟨g, 0, none⟩ = some (.slice A0 f0.length c0) := (blk_cell h 0).trans rfl
theorem cellS132_1 {W : World} {g : Nat} {A0 : Option Addr} {c0 : Nat} {f0 : List Int} {f1 : Int} {f2 : Int} (h : W.heap[g]? = some (.cells #[.slice A0 f0.length c0, .int .i64 f1, .int .u64 f2] 132 (0, 0))) : W.cell? ⟨g, 1, none⟩ = some (.int .i64 f1) := (blk_cell h 1).trans rfl
theorem IsS132.set_1 {w0 W : World} {g : Nat} {f0 : List Int} {f1 : Int} {f2 : Int} (h : IsS132 w0 W g f0 f1 f2) (x : Int) : IsS132 w0 (W.setCell ⟨g, 1, none⟩ (.int .i64 x)) g f0 x f2 := by
 obtain ⟨A0, c0, hb, hg, hr0⟩ := h; exact ⟨A0, c0, by simpa using blk_set hb 1 (.int .i64 x), hg, hr0⟩
theorem cellS132_2 {W : World} {g : Nat} {A0 : Option Addr} {c0 : Nat} {f0 : List Int} {f1 : Int} {f2 : Int} (h : W.heap[g]? = some (.cells #[.slice A0 f0.length c0, .int .i64 f1, .int .u64 f2] 132 (0, 0))) : W.cell? ⟨g, 2, none⟩ = some (.int .u64 f2) := (blk_cell h 2).trans rfl
theorem IsS132.set_2 {w0 W : World} {g : Nat} {f0 : List Int} {f1 : Int} {f2 : Int} (h : IsS132 w0 W g f0 f1 f2) (x : Int) : IsS132 w0 (W.setCell ⟨g, 2, none⟩ (.int .u64 x)) g f0 f1 x := by
 obtain ⟨A0, c0, hb, hg, hr0⟩ := h; exact ⟨A0, c0, by simpa using blk_set hb 2 (.int .u64 x), hg, hr0⟩
def spec_l1Cur_next.f (s0_0 : List Int) (s0_1 : Int) (s0_2 : Int) : Option (Int × Int × Int) := if s0_1 < (s0_0.length : Int) then (if 0 ≤ s0_1 then (if (wrap64 (s0_1 + 1)) ≤ (s0_0.length : Int) then (some (wrap64 (rd s0_0 s0_1), wrap64 (s0_1 + 1), IntKind.u64.wrap ((IntKind.u64.wrap ((IntKind.u64.wrap (s0_2 * 6364136223846793005)) + (IntKind.u64.wrap (wrap64 (rd s0_0 s0_1))))) + 1442695040888963407))) else (some (wrap64 (Go.bits .and .u64 ((IntKind.u64.wrap ((IntKind.u64.wrap ((IntKind.u64.wrap (s0_2 * 6364136223846793005)) + (IntKind.u64.wrap (wrap64 (rd s0_0 s0_1))))) + 1442695040888963407)) / 1099511627776) 255), wrap64 (s0_1 + 1), IntKind.u64.wrap ((IntKind.u64.wrap ((IntKind.u64.wrap (s0_2 * 6364136223846793005)) + (IntKind.u64.wrap (wrap64 (rd s0_0 s0_1))))) + 1442695040888963407)))) else (none)) else (if (wrap64 (s0_1 + 1)) ≤ (s0_0.length : Int) then (some (0, wrap64 (s0_1 + 1), IntKind.u64.wrap ((IntKind.u64.wrap (IntKind.u64.wrap (s0_2 * 6364136223846793005))) + 1442695040888963407))) else (some (wrap64 (Go.bits .and .u64 ((IntKind.u64.wrap ((IntKind.u64.wrap (IntKind.u64.wrap (s0_2 * 6364136223846793005))) + 1442695040888963407)) / 1099511627776) 255), wrap64 (s0_1 + 1), IntKind.u64.wrap ((IntKind.u64.wrap (IntKind.u64.wrap (s0_2 * 6364136223846793005))) + 1442695040888963407))))
theorem spec_l1Cur_next.calls (g : Nat) (s0_0 : List Int) (s0_1 : Int) (s0_2 : Int) (r1 : Int) (r2 : Int) (r3 : Int) (w0 w : World) (hI : IsS132 w0 w g s0_0 s0_1 s0_2) (hB : Below w0.heap.size w0 w) (h : spec_l1Cur_next.f s0_0 s0_1 s0_2 = some (r1, r2, r3)) :
  Calls Try.prog 189 #[.pointer (some ⟨g, 0, none⟩)] w fun e w' => e = .returned (.int .i64 r1) ∧ IsS132 w0 w' g s0_0 r2 r3 ∧ Below w0.heap.size w0 w' ∧ KeepBut w w' g none := by
 have HI0 := am hI; have HK := am (KeepBut.refl w g none); have HL := am hB.size; clear hI; have HW0 := am hB.size; have HB := am hB; clear hB; have H : (if s0_1 < (s0_0.length : Int) then (if 0 ≤ s0_1 then (if (wrap64 (s0_1 + 1)) ≤ (s0_0.length : Int) then (some (wrap64 (rd s0_0 s0_1), wrap64 (s0_1 + 1), IntKind.u64.wrap ((IntKind.u64.wrap ((IntKind.u64.wrap (s0_2 * 6364136223846793005)) + (IntKind.u64.wrap (wrap64 (rd s0_0 s0_1))))) + 1442695040888963407))) else (some (wrap64 (Go.bits .and .u64 ((IntKind.u64.wrap ((IntKind.u64.wrap ((IntKind.u64.wrap (s0_2 * 6364136223846793005)) + (IntKind.u64.wrap (wrap64 (rd s0_0 s0_1))))) + 1442695040888963407)) / 1099511627776) 255), wrap64 (s0_1 + 1), IntKind.u64.wrap ((IntKind.u64.wrap ((IntKind.u64.wrap (s0_2 * 6364136223846793005)) + (IntKind.u64.wrap (wrap64 (rd s0_0 s0_1))))) + 1442695040888963407)))) else (none)) else (if (wrap64 (s0_1 + 1)) ≤ (s0_0.length : Int) then (some (0, wrap64 (s0_1 + 1), IntKind.u64.wrap ((IntKind.u64.wrap (IntKind.u64.wrap (s0_2 * 6364136223846793005))) + 1442695040888963407))) else (some (wrap64 (Go.bits .and .u64 ((IntKind.u64.wrap ((IntKind.u64.wrap (IntKind.u64.wrap (s0_2 * 6364136223846793005))) + 1442695040888963407)) / 1099511627776) 255), wrap64 (s0_1 + 1), IntKind.u64.wrap ((IntKind.u64.wrap (IntKind.u64.wrap (s0_2 * 6364136223846793005))) + 1442695040888963407))))) = some (r1, r2, r3) := h; clear h
 by_cases c2 : s0_1 < (s0_0.length : Int)
 ·rw [if_pos c2] at H
  have c2b0 : decide (s0_1 < (s0_0.length : Int)) = true := decide_eq_true c2; clear c2
  by_cases c3 : 0 ≤ s0_1
  ·rw [if_pos c3] at H
   have c3b0 : decide (0 ≤ s0_1) = true := decide_eq_true c3; clear c3
   by_cases c4 : (wrap64 (s0_1 + 1)) ≤ (s0_0.length : Int)
   ·rw [if_pos c4] at H
    have c4b0 : decide ((wrap64 (s0_1 + 1)) ≤ (s0_0.length : Int)) = true := decide_eq_true c4; clear c4
    simp only [Option.some.injEq, Prod.mk.injEq] at H
    obtain ⟨rfl, rfl, rfl⟩ := H; obtain ⟨ASz5_0, cSz5_0, HGz5, hgz5, HSz5_0⟩ := HI0.out; have hcz5_0 := cellS132_0 HGz5; have hcz5_1 := cellS132_1 HGz5; have hcz5_2 := cellS132_2 HGz5; have hfz5_1 := blk_frozen HGz5 1; have hfz5_2 := blk_frozen HGz5 2; clear HGz5 hgz5; have p358 : 0 ≤ (s0_1 : Int) := dT; have q358 : s0_1 < (s0_0.length : Int) := dT; obtain ⟨ad358, e358, hx358_0⟩ := Kd.at_int HSz5_0 s0_1 p358 q358; cases e358; replace hx358_0 := pw_cell_below HB.out hx358_0; replace p358 := eq_true p358; replace q358 := eq_true q358
    go_enter Try.func189, Try.ntmps189
    go_wp2
    repeat (go_quiet (fail); try go_wp2)
    go_ret
    exact ⟨eZ, by repeat (first | (with_reducible first | exact HI0.out | apply IsS132.alloc | apply IsS132.drewN | apply IsS132.drew | apply IsS132.set_1 | apply IsS132.set_2) | exact HI0.out), by repeat (first | (with_reducible first | exact HB.out | apply below_alloc | apply pw_below_drewN | apply below_drew1 | refine below_set ?_ (IsS132.ge HI0.out)) | exact HB.out), by repeat (first | (with_reducible first | exact HK.out | apply KeepBut.set_ | apply keep_drewN | apply keep_drew | apply keep_alloc) | exact HK.out)⟩
   ·rw [if_neg c4] at H
    have c4b0 : decide ((wrap64 (s0_1 + 1)) ≤ (s0_0.length : Int)) = false := decide_eq_false c4; clear c4
    simp only [Option.some.injEq, Prod.mk.injEq] at H
    obtain ⟨rfl, rfl, rfl⟩ := H; obtain ⟨ASz6_0, cSz6_0, HGz6, hgz6, HSz6_0⟩ := HI0.out; have hcz6_0 := cellS132_0 HGz6; have hcz6_1 := cellS132_1 HGz6; have hcz6_2 := cellS132_2 HGz6; have hfz6_1 := blk_frozen HGz6 1; have hfz6_2 := blk_frozen HGz6 2; clear HGz6 hgz6; have p358 : 0 ≤ (s0_1 : Int) := dT; have q358 : s0_1 < (s0_0.length : Int) := dT; obtain ⟨ad358, e358, hx358_0⟩ := Kd.at_int HSz6_0 s0_1 p358 q358; cases e358; replace hx358_0 := pw_cell_below HB.out hx358_0; replace p358 := eq_true p358; replace q358 := eq_true q358
    go_enter Try.func189, Try.ntmps189
    go_wp2
    repeat (go_quiet (fail); try go_wp2)
    go_ret
    exact ⟨eZ, by repeat (first | (with_reducible first | exact HI0.out | apply IsS132.alloc | apply IsS132.drewN | apply IsS132.drew | apply IsS132.set_1 | apply IsS132.set_2) | exact HI0.out), by repeat (first | (with_reducible first | exact HB.out | apply below_alloc | apply pw_below_drewN | apply below_drew1 | refine below_set ?_ (IsS132.ge HI0.out)) | exact HB.out), by repeat (first | (with_reducible first | exact HK.out | apply KeepBut.set_ | apply keep_drewN | apply keep_drew | apply keep_alloc) | exact HK.out)⟩
  ·rw [if_neg c3] at H
   exact absurd H (by simp)
 ·rw [if_neg c2] at H
  have c2b0 : decide (s0_1 < (s0_0.length : Int)) = false := decide_eq_false c2; clear c2
  by_cases c7 : (wrap64 (s0_1 + 1)) ≤ (s0_0.length : Int)
  ·rw [if_pos c7] at H
   have c7b0 : decide ((wrap64 (s0_1 + 1)) ≤ (s0_0.length : Int)) = true := decide_eq_true c7; clear c7
   simp only [Option.some.injEq, Prod.mk.injEq] at H
   obtain ⟨rfl, rfl, rfl⟩ := H; obtain ⟨ASz8_0, cSz8_0, HGz8, hgz8, HSz8_0⟩ := HI0.out; have hcz8_0 := cellS132_0 HGz8; have hcz8_1 := cellS132_1 HGz8; have hcz8_2 := cellS132_2 HGz8; have hfz8_1 := blk_frozen HGz8 1; have hfz8_2 := blk_frozen HGz8 2; clear HGz8 hgz8
   go_enter Try.func189, Try.ntmps189
   go_wp2
   repeat (go_quiet (fail); try go_wp2)
   go_ret
   exact ⟨eZ, by repeat (first | (with_reducible first | exact HI0.out | apply IsS132.alloc | apply IsS132.drewN | apply IsS132.drew | apply IsS132.set_1 | apply IsS132.set_2) | exact HI0.out), by repeat (first | (with_reducible first | exact HB.out | apply below_alloc | apply pw_below_drewN | apply below_drew1 | refine below_set ?_ (IsS132.ge HI0.out)) | exact HB.out), by repeat (first | (with_reducible first | exact HK.out | apply KeepBut.set_ | apply keep_drewN | apply keep_drew | apply keep_alloc) | exact HK.out)⟩
  ·rw [if_neg c7] at H
   have c7b0 : decide ((wrap64 (s0_1 + 1)) ≤ (s0_0.length : Int)) = false := decide_eq_false c7; clear c7
   simp only [Option.some.injEq, Prod.mk.injEq] at H
   obtain ⟨rfl, rfl, rfl⟩ := H; obtain ⟨ASz9_0, cSz9_0, HGz9, hgz9, HSz9_0⟩ := HI0.out; have hcz9_0 := cellS132_0 HGz9; have hcz9_1 := cellS132_1 HGz9; have hcz9_2 := cellS132_2 HGz9; have hfz9_1 := blk_frozen HGz9 1; have hfz9_2 := blk_frozen HGz9 2; clear HGz9 hgz9
   go_enter Try.func189, Try.ntmps189
   go_wp2
   repeat (go_quiet (fail); try go_wp2)
   go_ret
   exact ⟨eZ, by repeat (first | (with_reducible first | exact HI0.out | apply IsS132.alloc | apply IsS132.drewN | apply IsS132.drew | apply IsS132.set_1 | apply IsS132.set_2) | exact HI0.out), by repeat (first | (with_reducible first | exact HB.out | apply below_alloc | apply pw_below_drewN | apply below_drew1 | refine below_set ?_ (IsS132.ge HI0.out)) | exact HB.out), by repeat (first | (with_reducible first | exact HK.out | apply KeepBut.set_ | apply keep_drewN | apply keep_drew | apply keep_alloc) | exact HK.out)⟩

def spec_l1Cur_pick.f (s0_0 : List Int) (s0_1 : Int) (s0_2 : Int) (a1 : Int) : Option (Int × Int × Int) := if a1 ≤ 1 then (some (0, s0_1, s0_2)) else ((spec_l1Cur_next.f s0_0 s0_1 s0_2).bind fun bt359 => (if a1 > 200 then ((spec_l1Cur_next.f s0_0 bt359.2.1 bt359.2.2).bind fun bt362 => (if a1 = 0 then (none) else (some (Int.tmod (wrap64 ((wrap64 (bt359.1 * 256)) + bt362.1)) a1, bt362.2.1, bt362.2.2)))) else (if a1 = 0 then (none) else (some (Int.tmod bt359.1 a1, bt359.2.1, bt359.2.2)))))
theorem spec_l1Cur_pick.calls (g : Nat) (s0_0 : List Int) (s0_1 : Int) (s0_2 : Int) (a1 : Int) (r1 : Int) (r2 : Int) (r3 : Int) (w0 w : World) (hI : IsS132 w0 w g s0_0 s0_1 s0_2) (hB : Below w0.heap.size w0 w) (h : spec_l1Cur_pick.f s0_0 s0_1 s0_2 a1 = some (r1, r2, r3)) :
  Calls Try.prog 174 #[.pointer (some ⟨g, 0, none⟩), .int .i64 a1] w fun e w' => e = .returned (.int .i64 r1) ∧ IsS132 w0 w' g s0_0 r2 r3 ∧ Below w0.heap.size w0 w' ∧ KeepBut w w' g none := by
 have HI0 := am hI; have HK := am (KeepBut.refl w g none); have HL := am hB.size; clear hI; have HW0 := am hB.size; have HB := am hB; clear hB; have H : (if a1 ≤ 1 then (some (0, s0_1, s0_2)) else ((spec_l1Cur_next.f s0_0 s0_1 s0_2).bind fun bt359 => (if a1 > 200 then ((spec_l1Cur_next.f s0_0 bt359.2.1 bt359.2.2).bind fun bt362 => (if a1 = 0 then (none) else (some (Int.tmod (wrap64 ((wrap64 (bt359.1 * 256)) + bt362.1)) a1, bt362.2.1, bt362.2.2)))) else (if a1 = 0 then (none) else (some (Int.tmod bt359.1 a1, bt359.2.1, bt359.2.2)))))) = some (r1, r2, r3) := h; clear h
 by_cases c3 : a1 ≤ 1
 ·rw [if_pos c3] at H
  have c3b0 : decide (a1 ≤ 1) = true := decide_eq_true c3; clear c3
  simp only [Option.some.injEq, Prod.mk.injEq] at H
  obtain ⟨rfl, rfl, rfl⟩ := H
  go_enter Try.func174, Try.ntmps174
  go_wp2
  go_ret
  exact ⟨eZ, by repeat (first | (with_reducible first | exact HI0.out | apply IsS132.alloc | apply IsS132.drewN | apply IsS132.drew | apply IsS132.set_1 | apply IsS132.set_2) | exact HI0.out), by repeat (first | (with_reducible first | exact HB.out | apply below_alloc | apply pw_below_drewN | apply below_drew1 | refine below_set ?_ (IsS132.ge HI0.out)) | exact HB.out), by repeat (first | (with_reducible first | exact HK.out | apply KeepBut.set_ | apply keep_drewN | apply keep_drew | apply keep_alloc) | exact HK.out)⟩
 ·rw [if_neg c3] at H
  have c3b0 : decide (a1 ≤ 1) = false := decide_eq_false c3; clear c3; replace H := Option.bind_eq_some_iff.mp H; obtain ⟨⟨t359, t360, t361⟩, A40, H⟩ := H; (try dsimp -simprocs only at H); have A4 := am A40; clear A40
  by_cases c5 : a1 > 200
  ·rw [if_pos c5] at H
   have c5b0 : decide (200 < a1) = true := decide_eq_true c5; clear c5; replace H := Option.bind_eq_some_iff.mp H; obtain ⟨⟨t362, t363, t364⟩, A60, H⟩ := H; (try dsimp -simprocs only at H); have A6 := am A60; clear A60
   by_cases c7 : a1 = 0
   ·rw [if_pos c7] at H
    exact absurd H (by simp)
   ·rw [if_neg c7] at H
    have c7b0 : (a1 == 0) = false := beq_eq_false_iff_ne.mpr c7; have c7b1 : (a1 != 0) = true := bne_iff_ne.mpr c7
    simp only [Option.some.injEq, Prod.mk.injEq] at H
    obtain ⟨rfl, rfl, rfl⟩ := H
    go_enter Try.func174, Try.ntmps174
    go_wp2_with (first | ((with_reducible refine gate_callee (f := 189) rfl ?_); refine gL (some 9) Try.func189 #[.pointer (some ⟨g, 0, none⟩)] ?_; (with_reducible refine (spec_l1Cur_next.calls g s0_0 s0_1 s0_2 t359 t360 t361 w0 _ ?side1 ?side2 A4.out).mono ?_); (case side1 => repeat (first | (with_reducible first | exact HI0.out | apply IsS132.alloc | apply IsS132.drewN | apply IsS132.drew | apply IsS132.set_1 | apply IsS132.set_2) | exact HI0.out)); (case side2 => repeat (first | (with_reducible first | exact HB.out | apply below_alloc | apply pw_below_drewN | apply below_drew1 | refine below_set ?_ (IsS132.ge HI0.out)) | exact HB.out)); rintro e w8 ⟨rfl, hi, hb, hk⟩; refine ⟨_, rfl, ?_⟩; have n0_ := am (KeepBut.trans (by repeat (first | (with_reducible first | exact HK.out | apply KeepBut.set_ | apply keep_drewN | apply keep_drew | apply keep_alloc) | exact HK.out)) hk (.inl rfl)); have n1_ := am (hb); have n2_ := am (hi); clear HK HB HI0; revert n0_ n1_ n2_; intro HK HB HI0; (try clear hb); (try clear hb2); (try clear hk); (try clear hi)) | ((with_reducible refine gate_callee (f := 189) rfl ?_); refine gL (some 15) Try.func189 #[.pointer (some ⟨g, 0, none⟩)] ?_; (with_reducible refine (spec_l1Cur_next.calls g s0_0 t360 t361 t362 t363 t364 w0 _ ?side1 ?side2 A6.out).mono ?_); (case side1 => repeat (first | (with_reducible first | exact HI0.out | apply IsS132.alloc | apply IsS132.drewN | apply IsS132.drew | apply IsS132.set_1 | apply IsS132.set_2) | exact HI0.out)); (case side2 => repeat (first | (with_reducible first | exact HB.out | apply below_alloc | apply pw_below_drewN | apply below_drew1 | refine below_set ?_ (IsS132.ge HI0.out)) | exact HB.out)); rintro e w9 ⟨rfl, hi, hb, hk⟩; refine ⟨_, rfl, ?_⟩; have n0_ := am (KeepBut.trans (by repeat (first | (with_reducible first | exact HK.out | apply KeepBut.set_ | apply keep_drewN | apply keep_drew | apply keep_alloc) | exact HK.out)) hk (.inl rfl)); have n1_ := am (hb); have n2_ := am (hi); clear HK HB HI0; revert n0_ n1_ n2_; intro HK HB HI0; (try clear hb); (try clear hb2); (try clear hk); (try clear hi)))
    go_ret
    exact ⟨eZ, by repeat (first | (with_reducible first | exact HI0.out | apply IsS132.alloc | apply IsS132.drewN | apply IsS132.drew | apply IsS132.set_1 | apply IsS132.set_2) | exact HI0.out), by repeat (first | (with_reducible first | exact HB.out | apply below_alloc | apply pw_below_drewN | apply below_drew1 | refine below_set ?_ (IsS132.ge HI0.out)) | exact HB.out), by repeat (first | (with_reducible first | exact HK.out | apply KeepBut.set_ | apply keep_drewN | apply keep_drew | apply keep_alloc) | exact HK.out)⟩
  ·rw [if_neg c5] at H
   have c5b0 : decide (200 < a1) = false := decide_eq_false c5; clear c5
   by_cases c10 : a1 = 0
   ·rw [if_pos c10] at H
    exact absurd H (by simp)
   ·rw [if_neg c10] at H
    have c10b0 : (a1 == 0) = false := beq_eq_false_iff_ne.mpr c10; have c10b1 : (a1 != 0) = true := bne_iff_ne.mpr c10
    simp only [Option.some.injEq, Prod.mk.injEq] at H
    obtain ⟨rfl, rfl, rfl⟩ := H
    go_enter Try.func174, Try.ntmps174
    go_wp2_with (first | ((with_reducible refine gate_callee (f := 189) rfl ?_); refine gL (some 9) Try.func189 #[.pointer (some ⟨g, 0, none⟩)] ?_; (with_reducible refine (spec_l1Cur_next.calls g s0_0 s0_1 s0_2 t359 t360 t361 w0 _ ?side1 ?side2 A4.out).mono ?_); (case side1 => repeat (first | (with_reducible first | exact HI0.out | apply IsS132.alloc | apply IsS132.drewN | apply IsS132.drew | apply IsS132.set_1 | apply IsS132.set_2) | exact HI0.out)); (case side2 => repeat (first | (with_reducible first | exact HB.out | apply below_alloc | apply pw_below_drewN | apply below_drew1 | refine below_set ?_ (IsS132.ge HI0.out)) | exact HB.out)); rintro e w11 ⟨rfl, hi, hb, hk⟩; refine ⟨_, rfl, ?_⟩; have n0_ := am (KeepBut.trans (by repeat (first | (with_reducible first | exact HK.out | apply KeepBut.set_ | apply keep_drewN | apply keep_drew | apply keep_alloc) | exact HK.out)) hk (.inl rfl)); have n1_ := am (hb); have n2_ := am (hi); clear HK HB HI0; revert n0_ n1_ n2_; intro HK HB HI0; (try clear hb); (try clear hb2); (try clear hk); (try clear hi)))
    go_ret
    exact ⟨eZ, by repeat (first | (with_reducible first | exact HI0.out | apply IsS132.alloc | apply IsS132.drewN | apply IsS132.drew | apply IsS132.set_1 | apply IsS132.set_2) | exact HI0.out), by repeat (first | (with_reducible first | exact HB.out | apply below_alloc | apply pw_below_drewN | apply below_drew1 | refine below_set ?_ (IsS132.ge HI0.out)) | exact HB.out), by repeat (first | (with_reducible first | exact HK.out | apply KeepBut.set_ | apply keep_drewN | apply keep_drew | apply keep_alloc) | exact HK.out)⟩

def spec_l1Cur_among.f (s0_0 : List Int) (s0_1 : Int) (s0_2 : Int) (l1 : List Int) : Option (Int × Int × Int) := (spec_l1Cur_pick.f s0_0 s0_1 s0_2 (l1.length : Int)).bind fun bt365 => (if 0 ≤ bt365.1 then (if bt365.1 < (l1.length : Int) then (some (rd l1 bt365.1, bt365.2.1, bt365.2.2)) else (none)) else (none))
theorem spec_l1Cur_among.calls (g : Nat) (s0_0 : List Int) (s0_1 : Int) (s0_2 : Int) (A1 : Option Addr) (c1 : Nat) (l1 : List Int) (r1 : Int) (r2 : Int) (r3 : Int) (w0 w : World) (hI : IsS132 w0 w g s0_0 s0_1 s0_2) (hB : Below w0.heap.size w0 w) (hr1 : Kd.C (Kd.int .i64) w A1 l1.length l1) (hc1 : l1.length ≤ c1) (hf1 : ∀ ad, A1 = some ad → 0 < l1.length → ad.block ≠ g) (h : spec_l1Cur_among.f s0_0 s0_1 s0_2 l1 = some (r1, r2, r3)) :
  Calls Try.prog 149 #[.pointer (some ⟨g, 0, none⟩), .slice A1 l1.length c1] w fun e w' => e = .returned (.int .i64 r1) ∧ IsS132 w0 w' g s0_0 r2 r3 ∧ Below w0.heap.size w0 w' ∧ KeepBut w w' g none := by
 have HR1 := am hr1; have HC1 := am hc1; clear hr1 hc1; have HI0 := am hI; have HK := am (KeepBut.refl w g none); have HL := am hB.size; clear hI; have HW0 := am hB.size; have HB := am hB; clear hB; have H : ((spec_l1Cur_pick.f s0_0 s0_1 s0_2 (l1.length : Int)).bind fun bt365 => (if 0 ≤ bt365.1 then (if bt365.1 < (l1.length : Int) then (some (rd l1 bt365.1, bt365.2.1, bt365.2.2)) else (none)) else (none))) = some (r1, r2, r3) := h; clear h; replace H := Option.bind_eq_some_iff.mp H; obtain ⟨⟨t365, t366, t367⟩, A30, H⟩ := H; (try dsimp -simprocs only at H); have A3 := am A30; clear A30
 by_cases c4 : 0 ≤ t365
 ·rw [if_pos c4] at H
  have c4b0 : decide (0 ≤ t365) = true := decide_eq_true c4; clear c4
  by_cases c5 : t365 < (l1.length : Int)
  ·rw [if_pos c5] at H
   have c5b0 : decide (t365 < (l1.length : Int)) = true := decide_eq_true c5; clear c5
   simp only [Option.some.injEq, Prod.mk.injEq] at H
   obtain ⟨rfl, rfl, rfl⟩ := H
   go_enter Try.func149, Try.ntmps149
   go_wp2_with (first | ((with_reducible refine gate_callee (f := 174) rfl ?_); refine gL (some 9) Try.func174 #[.pointer (some ⟨g, 0, none⟩), .int .i64 (l1.length : Int)] ?_; (with_reducible refine (spec_l1Cur_pick.calls g s0_0 s0_1 s0_2 (l1.length : Int) t365 t366 t367 w0 _ ?side1 ?side2 A3.out).mono ?_); (case side1 => repeat (first | (with_reducible first | exact HI0.out | apply IsS132.alloc | apply IsS132.drewN | apply IsS132.drew | apply IsS132.set_1 | apply IsS132.set_2) | exact HI0.out)); (case side2 => repeat (first | (with_reducible first | exact HB.out | apply below_alloc | apply pw_below_drewN | apply below_drew1 | refine below_set ?_ (IsS132.ge HI0.out)) | exact HB.out)); rintro e w6 ⟨rfl, hi, hb, hk⟩; refine ⟨_, rfl, ?_⟩; have n0_ := am (KeepBut.trans (by repeat (first | (with_reducible first | exact HK.out | apply KeepBut.set_ | apply keep_drewN | apply keep_drew | apply keep_alloc) | exact HK.out)) hk (.inl rfl)); have n1_ := am (hb); have n2_ := am (hi); clear HK HB HI0; revert n0_ n1_ n2_; intro HK HB HI0; (try clear hb); (try clear hb2); (try clear hk); (try clear hi); have p368 : 0 ≤ (t365 : Int) := dT; have q368 : t365 < (l1.length : Int) := dT; obtain ⟨ad368, e368, hx368_0⟩ := Kd.at_int HR1.out t365 p368 q368; cases e368; replace hx368_0 := keep_cell HK.out hx368_0 (by first | (rw [add_block]; exact hf1 _ rfl (by omega)) | exact hf1 _ rfl (by omega) | exact hf1 ad368 rfl (by omega)); replace p368 := eq_true p368; replace q368 := eq_true q368))
   go_ret
   exact ⟨eZ, by repeat (first | (with_reducible first | exact HI0.out | apply IsS132.alloc | apply IsS132.drewN | apply IsS132.drew | apply IsS132.set_1 | apply IsS132.set_2) | exact HI0.out), by repeat (first | (with_reducible first | exact HB.out | apply below_alloc | apply pw_below_drewN | apply below_drew1 | refine below_set ?_ (IsS132.ge HI0.out)) | exact HB.out), by repeat (first | (with_reducible first | exact HK.out | apply KeepBut.set_ | apply keep_drewN | apply keep_drew | apply keep_alloc) | exact HK.out)⟩
  ·rw [if_neg c5] at H
   exact absurd H (by simp)
 ·rw [if_neg c4] at H
  exact absurd H (by simp)

def spec_l1Cur_seed9.f (s0_0 : List Int) (s0_1 : Int) (s0_2 : Int) : Option (Int × Int × Int) := (spec_l1Cur_pick.f s0_0 s0_1 s0_2 12).bind fun bt369 => (if bt369.1 = 0 then ((spec_l1Cur_among.f s0_0 bt369.2.1 bt369.2.2 (([(-1), 9999, 10000] : List Int))).bind fun bt375 => (some (bt375.1, bt375.2.1, bt375.2.2))) else (if bt369.1 = 1 then ((spec_l1Cur_pick.f s0_0 bt369.2.1 bt369.2.2 10000).bind fun bt378 => (some (bt378.1, bt378.2.1, bt378.2.2))) else ((spec_l1Cur_pick.f s0_0 bt369.2.1 bt369.2.2 20).bind fun bt381 => (some (bt381.1, bt381.2.1, bt381.2.2)))))
theorem spec_l1Cur_seed9.calls (g : Nat) (s0_0 : List Int) (s0_1 : Int) (s0_2 : Int) (r1 : Int) (r2 : Int) (r3 : Int) (w0 w : World) (hI : IsS132 w0 w g s0_0 s0_1 s0_2) (hB : Below w0.heap.size w0 w) (h : spec_l1Cur_seed9.f s0_0 s0_1 s0_2 = some (r1, r2, r3)) :
  Calls Try.prog 135 #[.pointer (some ⟨g, 0, none⟩)] w fun e w' => e = .returned (.int .i64 r1) ∧ IsS132 w0 w' g s0_0 r2 r3 ∧ Below w0.heap.size w0 w' ∧ KeepBut w w' g none := by
 have HI0 := am hI; have HK := am (KeepBut.refl w g none); have HL := am hB.size; clear hI; have HW0 := am hB.size; have HB := am hB; clear hB; have H : ((spec_l1Cur_pick.f s0_0 s0_1 s0_2 12).bind fun bt369 => (if bt369.1 = 0 then ((spec_l1Cur_among.f s0_0 bt369.2.1 bt369.2.2 (([(-1), 9999, 10000] : List Int))).bind fun bt375 => (some (bt375.1, bt375.2.1, bt375.2.2))) else (if bt369.1 = 1 then ((spec_l1Cur_pick.f s0_0 bt369.2.1 bt369.2.2 10000).bind fun bt378 => (some (bt378.1, bt378.2.1, bt378.2.2))) else ((spec_l1Cur_pick.f s0_0 bt369.2.1 bt369.2.2 20).bind fun bt381 => (some (bt381.1, bt381.2.1, bt381.2.2)))))) = some (r1, r2, r3) := h; clear h; replace H := Option.bind_eq_some_iff.mp H; obtain ⟨⟨t369, t370, t371⟩, A20, H⟩ := H; (try dsimp -simprocs only at H); have A2 := am A20; clear A20
 by_cases c3 : t369 = 0
 ·rw [if_pos c3] at H
  have c3b0 : (t369 == 0) = true := beq_iff_eq.mpr c3; have c3b1 : (t369 != 0) = false := bne_eq_false_iff_eq.mpr c3; clear c3; obtain ⟨y372, hy372⟩ : ∃ y_ : List Int, y_ = (([(-1), 9999, 10000] : List Int)) := ⟨_, rfl⟩
  replace H : ((spec_l1Cur_among.f s0_0 t370 t371 y372).bind fun bt375 => (some (bt375.1, bt375.2.1, bt375.2.2))) = some (r1, r2, r3) := by first | (rw [hy372]; with_reducible exact H) | (have H2_ := (Option.bind_some _ _).symm.trans H; rw [hy372]; with_reducible exact H2_) | (have H2_ := (Option.bind_some _ _).symm.trans H; with_reducible exact H2_) | with_reducible exact H | (rw [hy372]; exact H) | exact H
  have Ny372 := am hy372; clear hy372; replace H := Option.bind_eq_some_iff.mp H; obtain ⟨⟨t375, t376, t377⟩, A40, H⟩ := H; (try dsimp -simprocs only at H); have A4 := am A40; clear A40
  simp only [Option.some.injEq, Prod.mk.injEq] at H
  obtain ⟨rfl, rfl, rfl⟩ := H
  go_enter Try.func135, Try.ntmps135
  go_wp2_with (first | ((with_reducible refine gate_callee (f := 174) rfl ?_); refine gL (some 4) Try.func174 #[.pointer (some ⟨g, 0, none⟩), .int .i64 12] ?_; (with_reducible refine (spec_l1Cur_pick.calls g s0_0 s0_1 s0_2 12 t369 t370 t371 w0 _ ?side1 ?side2 A2.out).mono ?_); (case side1 => repeat (first | (with_reducible first | exact HI0.out | apply IsS132.alloc | apply IsS132.drewN | apply IsS132.drew | apply IsS132.set_1 | apply IsS132.set_2) | exact HI0.out)); (case side2 => repeat (first | (with_reducible first | exact HB.out | apply below_alloc | apply pw_below_drewN | apply below_drew1 | refine below_set ?_ (IsS132.ge HI0.out)) | exact HB.out)); rintro e w5 ⟨rfl, hi, hb, hk⟩; refine ⟨_, rfl, ?_⟩; have n0_ := am (KeepBut.trans (by repeat (first | (with_reducible first | exact HK.out | apply KeepBut.set_ | apply keep_drewN | apply keep_drew | apply keep_alloc) | exact HK.out)) hk (.inl rfl)); have n1_ := am (hb); have n2_ := am (hi); clear HK HB HI0; revert n0_ n1_ n2_; intro HK HB HI0; (try clear hb); (try clear hb2); (try clear hk); (try clear hi)) | ((with_reducible refine gate_dst (N := 8) rfl ?_); refine Kd.R_lit (Kd.int .i64) _ 3 ?hg (N := 8) ?hd (xs := ([(-1), 9999, 10000] : List Int)) (inner := [.int .i64 (-1), .int .i64 9999, .int .i64 10000]) (ok := fun _ => True) (okp := fun _ => True) ?hr ?hp (fun _ hk => hk) trivial (Below.refl _ _) (Nat.le_refl _) (by simp) ?_; (case hd => rfl); (case hg => rfl); (case hr => first | (go_simp; done) | (go_simp; rfl)); (case hp => exact (Reps.one (show Kd.M (Kd.int .i64) _ _ _ (-1) [.int .i64 (-1)] from rfl) (Reps.one (show Kd.M (Kd.int .i64) _ _ _ 9999 [.int .i64 9999] from rfl) (Reps.one (show Kd.M (Kd.int .i64) _ _ _ 10000 [.int .i64 10000] from rfl) (Reps.none _ _))))); intro v373 w6 ho7 hb hg_ hnew_; clear hg_ hnew_; (first | rw [← Ny372.out] at ho7 | (simp only [Int.reduceToNat] at ho7; rw [← Ny372.out] at ho7)); have n0_ := am (Kd.R_lower ho7 (keep_size (w := w) (g := g) (row := none) (by repeat (first | (with_reducible first | exact HK.out | apply KeepBut.set_ | apply keep_drewN | apply keep_drew | apply keep_alloc) | exact HK.out)))); have n1_ := am (IsS132.below (by repeat (first | (with_reducible first | exact HI0.out | apply IsS132.alloc | apply IsS132.drewN | apply IsS132.drew | apply IsS132.set_1 | apply IsS132.set_2) | exact HI0.out)) hb); have n2_ := am (KeepBut.trans (by repeat (first | (with_reducible first | exact HK.out | apply KeepBut.set_ | apply keep_drewN | apply keep_drew | apply keep_alloc) | exact HK.out)) (KeepBut.of_below hb g none) (.inl rfl)); have n3_ := am (below_step (by repeat (first | (with_reducible first | exact HB.out | apply below_alloc | apply pw_below_drewN | apply below_drew1 | refine below_set ?_ (IsS132.ge HI0.out)) | exact HB.out)) hb); clear HI0 HK HB; revert n0_ n1_ n2_ n3_; intro HO374 HI0 HK HB; clear hb ho7; obtain ⟨Ao8, co8, eo8⟩ := Kd.R_slice HO374.out; subst eo8) | ((with_reducible refine gate_callee (f := 149) rfl ?_); refine gL (some 9) Try.func149 #[.pointer (some ⟨g, 0, none⟩), .slice Ao8 y372.length co8] ?_; (with_reducible refine (spec_l1Cur_among.calls g s0_0 t370 t371 _ _ y372 t375 t376 t377 w0 _ ?side1 ?side2 ?side3 ?side4 ?side5 A4.out).mono ?_); (case side1 => repeat (first | (with_reducible first | exact HI0.out | apply IsS132.alloc | apply IsS132.drewN | apply IsS132.drew | apply IsS132.set_1 | apply IsS132.set_2) | exact HI0.out)); (case side2 => repeat (first | (with_reducible first | exact HB.out | apply below_alloc | apply pw_below_drewN | apply below_drew1 | refine below_set ?_ (IsS132.ge HI0.out)) | exact HB.out)); (case side3 => exact Cz ((Kd.R_reads' HO374.out).2.2)); (case side4 => exact (Kd.R_reads' HO374.out).2.1); (case side5 => exact far_slice (IsS132.own_ne HI0.out HO374.out (by decide))); rintro e w9 ⟨rfl, hi, hb, hk⟩; refine ⟨_, rfl, ?_⟩; have n0_ := am (Kd.R_mono (Kd.R_keep (IsS132.apart (show IsS132 w0 _ g s0_0 t370 t371 from by repeat (first | (with_reducible first | exact HI0.out | apply IsS132.alloc | apply IsS132.drewN | apply IsS132.drew | apply IsS132.set_1 | apply IsS132.set_2) | exact HI0.out)) (Rz HO374.out) (by decide)) hk (fun _ h => h.2)) (fun _ h => h.1)); have n1_ := am (KeepBut.trans (by repeat (first | (with_reducible first | exact HK.out | apply KeepBut.set_ | apply keep_drewN | apply keep_drew | apply keep_alloc) | exact HK.out)) hk (.inl rfl)); have n2_ := am (hb); have n3_ := am (hi); clear HO374 HK HB HI0; revert n0_ n1_ n2_ n3_; intro HO374 HK HB HI0; (try clear hb); (try clear hb2); (try clear hk); (try clear hi)))
  go_ret
  exact ⟨eZ, by repeat (first | (with_reducible first | exact HI0.out | apply IsS132.alloc | apply IsS132.drewN | apply IsS132.drew | apply IsS132.set_1 | apply IsS132.set_2) | exact HI0.out), by repeat (first | (with_reducible first | exact HB.out | apply below_alloc | apply pw_below_drewN | apply below_drew1 | refine below_set ?_ (IsS132.ge HI0.out)) | exact HB.out), by repeat (first | (with_reducible first | exact HK.out | apply KeepBut.set_ | apply keep_drewN | apply keep_drew | apply keep_alloc) | exact HK.out)⟩
 ·rw [if_neg c3] at H
  have c3b0 : (t369 == 0) = false := beq_eq_false_iff_ne.mpr c3; have c3b1 : (t369 != 0) = true := bne_iff_ne.mpr c3
  by_cases c10 : t369 = 1
  ·rw [if_pos c10] at H
   have c10b0 : (t369 == 1) = true := beq_iff_eq.mpr c10; have c10b1 : (t369 != 1) = false := bne_eq_false_iff_eq.mpr c10; clear c10; replace H := Option.bind_eq_some_iff.mp H; obtain ⟨⟨t378, t379, t380⟩, A110, H⟩ := H; (try dsimp -simprocs only at H); have A11 := am A110; clear A110
   simp only [Option.some.injEq, Prod.mk.injEq] at H
   obtain ⟨rfl, rfl, rfl⟩ := H
   go_enter Try.func135, Try.ntmps135
   go_wp2_with (first | ((with_reducible refine gate_callee (f := 174) rfl ?_); refine gL (some 4) Try.func174 #[.pointer (some ⟨g, 0, none⟩), .int .i64 12] ?_; (with_reducible refine (spec_l1Cur_pick.calls g s0_0 s0_1 s0_2 12 t369 t370 t371 w0 _ ?side1 ?side2 A2.out).mono ?_); (case side1 => repeat (first | (with_reducible first | exact HI0.out | apply IsS132.alloc | apply IsS132.drewN | apply IsS132.drew | apply IsS132.set_1 | apply IsS132.set_2) | exact HI0.out)); (case side2 => repeat (first | (with_reducible first | exact HB.out | apply below_alloc | apply pw_below_drewN | apply below_drew1 | refine below_set ?_ (IsS132.ge HI0.out)) | exact HB.out)); rintro e w12 ⟨rfl, hi, hb, hk⟩; refine ⟨_, rfl, ?_⟩; have n0_ := am (KeepBut.trans (by repeat (first | (with_reducible first | exact HK.out | apply KeepBut.set_ | apply keep_drewN | apply keep_drew | apply keep_alloc) | exact HK.out)) hk (.inl rfl)); have n1_ := am (hb); have n2_ := am (hi); clear HK HB HI0; revert n0_ n1_ n2_; intro HK HB HI0; (try clear hb); (try clear hb2); (try clear hk); (try clear hi)) | ((with_reducible refine gate_callee (f := 174) rfl ?_); refine gL (some 13) Try.func174 #[.pointer (some ⟨g, 0, none⟩), .int .i64 10000] ?_; (with_reducible refine (spec_l1Cur_pick.calls g s0_0 t370 t371 10000 t378 t379 t380 w0 _ ?side1 ?side2 A11.out).mono ?_); (case side1 => repeat (first | (with_reducible first | exact HI0.out | apply IsS132.alloc | apply IsS132.drewN | apply IsS132.drew | apply IsS132.set_1 | apply IsS132.set_2) | exact HI0.out)); (case side2 => repeat (first | (with_reducible first | exact HB.out | apply below_alloc | apply pw_below_drewN | apply below_drew1 | refine below_set ?_ (IsS132.ge HI0.out)) | exact HB.out)); rintro e w13 ⟨rfl, hi, hb, hk⟩; refine ⟨_, rfl, ?_⟩; have n0_ := am (KeepBut.trans (by repeat (first | (with_reducible first | exact HK.out | apply KeepBut.set_ | apply keep_drewN | apply keep_drew | apply keep_alloc) | exact HK.out)) hk (.inl rfl)); have n1_ := am (hb); have n2_ := am (hi); clear HK HB HI0; revert n0_ n1_ n2_; intro HK HB HI0; (try clear hb); (try clear hb2); (try clear hk); (try clear hi)))
   go_ret
   exact ⟨eZ, by repeat (first | (with_reducible first | exact HI0.out | apply IsS132.alloc | apply IsS132.drewN | apply IsS132.drew | apply IsS132.set_1 | apply IsS132.set_2) | exact HI0.out), by repeat (first | (with_reducible first | exact HB.out | apply below_alloc | apply pw_below_drewN | apply below_drew1 | refine below_set ?_ (IsS132.ge HI0.out)) | exact HB.out), by repeat (first | (with_reducible first | exact HK.out | apply KeepBut.set_ | apply keep_drewN | apply keep_drew | apply keep_alloc) | exact HK.out)⟩
  ·rw [if_neg c10] at H
   have c10b0 : (t369 == 1) = false := beq_eq_false_iff_ne.mpr c10; have c10b1 : (t369 != 1) = true := bne_iff_ne.mpr c10; replace H := Option.bind_eq_some_iff.mp H; obtain ⟨⟨t381, t382, t383⟩, A140, H⟩ := H; (try dsimp -simprocs only at H); have A14 := am A140; clear A140
   simp only [Option.some.injEq, Prod.mk.injEq] at H
   obtain ⟨rfl, rfl, rfl⟩ := H
   go_enter Try.func135, Try.ntmps135
   go_wp2_with (first | ((with_reducible refine gate_callee (f := 174) rfl ?_); refine gL (some 4) Try.func174 #[.pointer (some ⟨g, 0, none⟩), .int .i64 12] ?_; (with_reducible refine (spec_l1Cur_pick.calls g s0_0 s0_1 s0_2 12 t369 t370 t371 w0 _ ?side1 ?side2 A2.out).mono ?_); (case side1 => repeat (first | (with_reducible first | exact HI0.out | apply IsS132.alloc | apply IsS132.drewN | apply IsS132.drew | apply IsS132.set_1 | apply IsS132.set_2) | exact HI0.out)); (case side2 => repeat (first | (with_reducible first | exact HB.out | apply below_alloc | apply pw_below_drewN | apply below_drew1 | refine below_set ?_ (IsS132.ge HI0.out)) | exact HB.out)); rintro e w15 ⟨rfl, hi, hb, hk⟩; refine ⟨_, rfl, ?_⟩; have n0_ := am (KeepBut.trans (by repeat (first | (with_reducible first | exact HK.out | apply KeepBut.set_ | apply keep_drewN | apply keep_drew | apply keep_alloc) | exact HK.out)) hk (.inl rfl)); have n1_ := am (hb); have n2_ := am (hi); clear HK HB HI0; revert n0_ n1_ n2_; intro HK HB HI0; (try clear hb); (try clear hb2); (try clear hk); (try clear hi)) | ((with_reducible refine gate_callee (f := 174) rfl ?_); refine gL (some 15) Try.func174 #[.pointer (some ⟨g, 0, none⟩), .int .i64 20] ?_; (with_reducible refine (spec_l1Cur_pick.calls g s0_0 t370 t371 20 t381 t382 t383 w0 _ ?side1 ?side2 A14.out).mono ?_); (case side1 => repeat (first | (with_reducible first | exact HI0.out | apply IsS132.alloc | apply IsS132.drewN | apply IsS132.drew | apply IsS132.set_1 | apply IsS132.set_2) | exact HI0.out)); (case side2 => repeat (first | (with_reducible first | exact HB.out | apply below_alloc | apply pw_below_drewN | apply below_drew1 | refine below_set ?_ (IsS132.ge HI0.out)) | exact HB.out)); rintro e w16 ⟨rfl, hi, hb, hk⟩; refine ⟨_, rfl, ?_⟩; have n0_ := am (KeepBut.trans (by repeat (first | (with_reducible first | exact HK.out | apply KeepBut.set_ | apply keep_drewN | apply keep_drew | apply keep_alloc) | exact HK.out)) hk (.inl rfl)); have n1_ := am (hb); have n2_ := am (hi); clear HK HB HI0; revert n0_ n1_ n2_; intro HK HB HI0; (try clear hb); (try clear hb2); (try clear hk); (try clear hi)))
   go_ret
   exact ⟨eZ, by repeat (first | (with_reducible first | exact HI0.out | apply IsS132.alloc | apply IsS132.drewN | apply IsS132.drew | apply IsS132.set_1 | apply IsS132.set_2) | exact HI0.out), by repeat (first | (with_reducible first | exact HB.out | apply below_alloc | apply pw_below_drewN | apply below_drew1 | refine below_set ?_ (IsS132.ge HI0.out)) | exact HB.out), by repeat (first | (with_reducible first | exact HK.out | apply KeepBut.set_ | apply keep_drewN | apply keep_drew | apply keep_alloc) | exact HK.out)⟩

def spec_l1Cur_one.f (s0_0 : List Int) (s0_1 : Int) (s0_2 : Int) (a1 : Int) : Option (Bool × Int × Int) := (spec_l1Cur_pick.f s0_0 s0_1 s0_2 a1).bind fun bt384 => (some ((bt384.1 == 0), bt384.2.1, bt384.2.2))
theorem spec_l1Cur_one.calls (g : Nat) (s0_0 : List Int) (s0_1 : Int) (s0_2 : Int) (a1 : Int) (r1 : Bool) (r2 : Int) (r3 : Int) (w0 w : World) (hI : IsS132 w0 w g s0_0 s0_1 s0_2) (hB : Below w0.heap.size w0 w) (h : spec_l1Cur_one.f s0_0 s0_1 s0_2 a1 = some (r1, r2, r3)) :
  Calls Try.prog 132 #[.pointer (some ⟨g, 0, none⟩), .int .i64 a1] w fun e w' => e = .returned (.bool r1) ∧ IsS132 w0 w' g s0_0 r2 r3 ∧ Below w0.heap.size w0 w' ∧ KeepBut w w' g none := by
 have HI0 := am hI; have HK := am (KeepBut.refl w g none); have HL := am hB.size; clear hI; have HW0 := am hB.size; have HB := am hB; clear hB; have H : ((spec_l1Cur_pick.f s0_0 s0_1 s0_2 a1).bind fun bt384 => (some ((bt384.1 == 0), bt384.2.1, bt384.2.2))) = some (r1, r2, r3) := h; clear h; replace H := Option.bind_eq_some_iff.mp H; obtain ⟨⟨t384, t385, t386⟩, A30, H⟩ := H; (try dsimp -simprocs only at H); have A3 := am A30; clear A30
 simp only [Option.some.injEq, Prod.mk.injEq] at H
 obtain ⟨rfl, rfl, rfl⟩ := H
 go_enter Try.func132, Try.ntmps132
 go_wp2_with (first | ((with_reducible refine gate_callee (f := 174) rfl ?_); refine gL (some 7) Try.func174 #[.pointer (some ⟨g, 0, none⟩), .int .i64 a1] ?_; (with_reducible refine (spec_l1Cur_pick.calls g s0_0 s0_1 s0_2 a1 t384 t385 t386 w0 _ ?side1 ?side2 A3.out).mono ?_); (case side1 => repeat (first | (with_reducible first | exact HI0.out | apply IsS132.alloc | apply IsS132.drewN | apply IsS132.drew | apply IsS132.set_1 | apply IsS132.set_2) | exact HI0.out)); (case side2 => repeat (first | (with_reducible first | exact HB.out | apply below_alloc | apply pw_below_drewN | apply below_drew1 | refine below_set ?_ (IsS132.ge HI0.out)) | exact HB.out)); rintro e w4 ⟨rfl, hi, hb, hk⟩; refine ⟨_, rfl, ?_⟩; have n0_ := am (KeepBut.trans (by repeat (first | (with_reducible first | exact HK.out | apply KeepBut.set_ | apply keep_drewN | apply keep_drew | apply keep_alloc) | exact HK.out)) hk (.inl rfl)); have n1_ := am (hb); have n2_ := am (hi); clear HK HB HI0; revert n0_ n1_ n2_; intro HK HB HI0; (try clear hb); (try clear hb2); (try clear hk); (try clear hi)))
 go_ret
 exact ⟨eZ, by repeat (first | (with_reducible first | exact HI0.out | apply IsS132.alloc | apply IsS132.drewN | apply IsS132.drew | apply IsS132.set_1 | apply IsS132.set_2) | exact HI0.out), by repeat (first | (with_reducible first | exact HB.out | apply below_alloc | apply pw_below_drewN | apply below_drew1 | refine below_set ?_ (IsS132.ge HI0.out)) | exact HB.out), by repeat (first | (with_reducible first | exact HK.out | apply KeepBut.set_ | apply keep_drewN | apply keep_drew | apply keep_alloc) | exact HK.out)⟩

def spec_l1Cur_probes.f (s0_0 : List Int) (s0_1 : Int) (s0_2 : Int) : Option (Int × Int × Int) := (spec_l1Cur_one.f s0_0 s0_1 s0_2 10).bind fun bt387 => (if bt387.1 = true then ((spec_l1Cur_among.f s0_0 bt387.2.1 bt387.2.2 (([(-1), 0, 8, 9] : List Int))).bind fun bt393 => (some (bt393.1, bt393.2.1, bt393.2.2))) else ((spec_l1Cur_pick.f s0_0 bt387.2.1 bt387.2.2 4).bind fun bt396 => (some (wrap64 (1 + bt396.1), bt396.2.1, bt396.2.2))))
theorem spec_l1Cur_probes.calls (g : Nat) (s0_0 : List Int) (s0_1 : Int) (s0_2 : Int) (r1 : Int) (r2 : Int) (r3 : Int) (w0 w : World) (hI : IsS132 w0 w g s0_0 s0_1 s0_2) (hB : Below w0.heap.size w0 w) (h : spec_l1Cur_probes.f s0_0 s0_1 s0_2 = some (r1, r2, r3)) :
  Calls Try.prog 136 #[.pointer (some ⟨g, 0, none⟩)] w fun e w' => e = .returned (.int .i64 r1) ∧ IsS132 w0 w' g s0_0 r2 r3 ∧ Below w0.heap.size w0 w' ∧ KeepBut w w' g none := by
 have HI0 := am hI; have HK := am (KeepBut.refl w g none); have HL := am hB.size; clear hI; have HW0 := am hB.size; have HB := am hB; clear hB; have H : ((spec_l1Cur_one.f s0_0 s0_1 s0_2 10).bind fun bt387 => (if bt387.1 = true then ((spec_l1Cur_among.f s0_0 bt387.2.1 bt387.2.2 (([(-1), 0, 8, 9] : List Int))).bind fun bt393 => (some (bt393.1, bt393.2.1, bt393.2.2))) else ((spec_l1Cur_pick.f s0_0 bt387.2.1 bt387.2.2 4).bind fun bt396 => (some (wrap64 (1 + bt396.1), bt396.2.1, bt396.2.2))))) = some (r1, r2, r3) := h; clear h; replace H := Option.bind_eq_some_iff.mp H; obtain ⟨⟨t387, t388, t389⟩, A20, H⟩ := H; (try dsimp -simprocs only at H); have A2 := am A20; clear A20
 by_cases c3 : t387 = true
 ·subst c3
  rw [if_pos rfl] at H; obtain ⟨y390, hy390⟩ : ∃ y_ : List Int, y_ = (([(-1), 0, 8, 9] : List Int)) := ⟨_, rfl⟩
  replace H : ((spec_l1Cur_among.f s0_0 t388 t389 y390).bind fun bt393 => (some (bt393.1, bt393.2.1, bt393.2.2))) = some (r1, r2, r3) := by first | (rw [hy390]; with_reducible exact H) | (have H2_ := (Option.bind_some _ _).symm.trans H; rw [hy390]; with_reducible exact H2_) | (have H2_ := (Option.bind_some _ _).symm.trans H; with_reducible exact H2_) | with_reducible exact H | (rw [hy390]; exact H) | exact H
  have Ny390 := am hy390; clear hy390; replace H := Option.bind_eq_some_iff.mp H; obtain ⟨⟨t393, t394, t395⟩, A40, H⟩ := H; (try dsimp -simprocs only at H); have A4 := am A40; clear A40
  simp only [Option.some.injEq, Prod.mk.injEq] at H
  obtain ⟨rfl, rfl, rfl⟩ := H
  go_enter Try.func136, Try.ntmps136
  go_wp2_with (first | ((with_reducible refine gate_callee (f := 132) rfl ?_); refine gL (some 4) Try.func132 #[.pointer (some ⟨g, 0, none⟩), .int .i64 10] ?_; (with_reducible refine (spec_l1Cur_one.calls g s0_0 s0_1 s0_2 10 true t388 t389 w0 _ ?side1 ?side2 A2.out).mono ?_); (case side1 => repeat (first | (with_reducible first | exact HI0.out | apply IsS132.alloc | apply IsS132.drewN | apply IsS132.drew | apply IsS132.set_1 | apply IsS132.set_2) | exact HI0.out)); (case side2 => repeat (first | (with_reducible first | exact HB.out | apply below_alloc | apply pw_below_drewN | apply below_drew1 | refine below_set ?_ (IsS132.ge HI0.out)) | exact HB.out)); rintro e w5 ⟨rfl, hi, hb, hk⟩; refine ⟨_, rfl, ?_⟩; have n0_ := am (KeepBut.trans (by repeat (first | (with_reducible first | exact HK.out | apply KeepBut.set_ | apply keep_drewN | apply keep_drew | apply keep_alloc) | exact HK.out)) hk (.inl rfl)); have n1_ := am (hb); have n2_ := am (hi); clear HK HB HI0; revert n0_ n1_ n2_; intro HK HB HI0; (try clear hb); (try clear hb2); (try clear hk); (try clear hi)) | ((with_reducible refine gate_dst (N := 6) rfl ?_); refine Kd.R_lit (Kd.int .i64) _ 3 ?hg (N := 6) ?hd (xs := ([(-1), 0, 8, 9] : List Int)) (inner := [.int .i64 (-1), .int .i64 0, .int .i64 8, .int .i64 9]) (ok := fun _ => True) (okp := fun _ => True) ?hr ?hp (fun _ hk => hk) trivial (Below.refl _ _) (Nat.le_refl _) (by simp) ?_; (case hd => rfl); (case hg => rfl); (case hr => first | (go_simp; done) | (go_simp; rfl)); (case hp => exact (Reps.one (show Kd.M (Kd.int .i64) _ _ _ (-1) [.int .i64 (-1)] from rfl) (Reps.one (show Kd.M (Kd.int .i64) _ _ _ 0 [.int .i64 0] from rfl) (Reps.one (show Kd.M (Kd.int .i64) _ _ _ 8 [.int .i64 8] from rfl) (Reps.one (show Kd.M (Kd.int .i64) _ _ _ 9 [.int .i64 9] from rfl) (Reps.none _ _)))))); intro v391 w6 ho7 hb hg_ hnew_; clear hg_ hnew_; (first | rw [← Ny390.out] at ho7 | (simp only [Int.reduceToNat] at ho7; rw [← Ny390.out] at ho7)); have n0_ := am (Kd.R_lower ho7 (keep_size (w := w) (g := g) (row := none) (by repeat (first | (with_reducible first | exact HK.out | apply KeepBut.set_ | apply keep_drewN | apply keep_drew | apply keep_alloc) | exact HK.out)))); have n1_ := am (IsS132.below (by repeat (first | (with_reducible first | exact HI0.out | apply IsS132.alloc | apply IsS132.drewN | apply IsS132.drew | apply IsS132.set_1 | apply IsS132.set_2) | exact HI0.out)) hb); have n2_ := am (KeepBut.trans (by repeat (first | (with_reducible first | exact HK.out | apply KeepBut.set_ | apply keep_drewN | apply keep_drew | apply keep_alloc) | exact HK.out)) (KeepBut.of_below hb g none) (.inl rfl)); have n3_ := am (below_step (by repeat (first | (with_reducible first | exact HB.out | apply below_alloc | apply pw_below_drewN | apply below_drew1 | refine below_set ?_ (IsS132.ge HI0.out)) | exact HB.out)) hb); clear HI0 HK HB; revert n0_ n1_ n2_ n3_; intro HO392 HI0 HK HB; clear hb ho7; obtain ⟨Ao8, co8, eo8⟩ := Kd.R_slice HO392.out; subst eo8) | ((with_reducible refine gate_callee (f := 149) rfl ?_); refine gL (some 7) Try.func149 #[.pointer (some ⟨g, 0, none⟩), .slice Ao8 y390.length co8] ?_; (with_reducible refine (spec_l1Cur_among.calls g s0_0 t388 t389 _ _ y390 t393 t394 t395 w0 _ ?side1 ?side2 ?side3 ?side4 ?side5 A4.out).mono ?_); (case side1 => repeat (first | (with_reducible first | exact HI0.out | apply IsS132.alloc | apply IsS132.drewN | apply IsS132.drew | apply IsS132.set_1 | apply IsS132.set_2) | exact HI0.out)); (case side2 => repeat (first | (with_reducible first | exact HB.out | apply below_alloc | apply pw_below_drewN | apply below_drew1 | refine below_set ?_ (IsS132.ge HI0.out)) | exact HB.out)); (case side3 => exact Cz ((Kd.R_reads' HO392.out).2.2)); (case side4 => exact (Kd.R_reads' HO392.out).2.1); (case side5 => exact far_slice (IsS132.own_ne HI0.out HO392.out (by decide))); rintro e w9 ⟨rfl, hi, hb, hk⟩; refine ⟨_, rfl, ?_⟩; have n0_ := am (Kd.R_mono (Kd.R_keep (IsS132.apart (show IsS132 w0 _ g s0_0 t388 t389 from by repeat (first | (with_reducible first | exact HI0.out | apply IsS132.alloc | apply IsS132.drewN | apply IsS132.drew | apply IsS132.set_1 | apply IsS132.set_2) | exact HI0.out)) (Rz HO392.out) (by decide)) hk (fun _ h => h.2)) (fun _ h => h.1)); have n1_ := am (KeepBut.trans (by repeat (first | (with_reducible first | exact HK.out | apply KeepBut.set_ | apply keep_drewN | apply keep_drew | apply keep_alloc) | exact HK.out)) hk (.inl rfl)); have n2_ := am (hb); have n3_ := am (hi); clear HO392 HK HB HI0; revert n0_ n1_ n2_ n3_; intro HO392 HK HB HI0; (try clear hb); (try clear hb2); (try clear hk); (try clear hi)))
  go_ret
  exact ⟨eZ, by repeat (first | (with_reducible first | exact HI0.out | apply IsS132.alloc | apply IsS132.drewN | apply IsS132.drew | apply IsS132.set_1 | apply IsS132.set_2) | exact HI0.out), by repeat (first | (with_reducible first | exact HB.out | apply below_alloc | apply pw_below_drewN | apply below_drew1 | refine below_set ?_ (IsS132.ge HI0.out)) | exact HB.out), by repeat (first | (with_reducible first | exact HK.out | apply KeepBut.set_ | apply keep_drewN | apply keep_drew | apply keep_alloc) | exact HK.out)⟩
 ·replace c3 := Bool.eq_false_iff.mpr c3
  subst c3
  rw [if_neg (show ¬ (false = true) by decide)] at H; replace H := Option.bind_eq_some_iff.mp H; obtain ⟨⟨t396, t397, t398⟩, A100, H⟩ := H; (try dsimp -simprocs only at H); have A10 := am A100; clear A100
  simp only [Option.some.injEq, Prod.mk.injEq] at H
  obtain ⟨rfl, rfl, rfl⟩ := H
  go_enter Try.func136, Try.ntmps136
  go_wp2_with (first | ((with_reducible refine gate_callee (f := 132) rfl ?_); refine gL (some 4) Try.func132 #[.pointer (some ⟨g, 0, none⟩), .int .i64 10] ?_; (with_reducible refine (spec_l1Cur_one.calls g s0_0 s0_1 s0_2 10 false t388 t389 w0 _ ?side1 ?side2 A2.out).mono ?_); (case side1 => repeat (first | (with_reducible first | exact HI0.out | apply IsS132.alloc | apply IsS132.drewN | apply IsS132.drew | apply IsS132.set_1 | apply IsS132.set_2) | exact HI0.out)); (case side2 => repeat (first | (with_reducible first | exact HB.out | apply below_alloc | apply pw_below_drewN | apply below_drew1 | refine below_set ?_ (IsS132.ge HI0.out)) | exact HB.out)); rintro e w11 ⟨rfl, hi, hb, hk⟩; refine ⟨_, rfl, ?_⟩; have n0_ := am (KeepBut.trans (by repeat (first | (with_reducible first | exact HK.out | apply KeepBut.set_ | apply keep_drewN | apply keep_drew | apply keep_alloc) | exact HK.out)) hk (.inl rfl)); have n1_ := am (hb); have n2_ := am (hi); clear HK HB HI0; revert n0_ n1_ n2_; intro HK HB HI0; (try clear hb); (try clear hb2); (try clear hk); (try clear hi)) | ((with_reducible refine gate_callee (f := 174) rfl ?_); refine gL (some 9) Try.func174 #[.pointer (some ⟨g, 0, none⟩), .int .i64 4] ?_; (with_reducible refine (spec_l1Cur_pick.calls g s0_0 t388 t389 4 t396 t397 t398 w0 _ ?side1 ?side2 A10.out).mono ?_); (case side1 => repeat (first | (with_reducible first | exact HI0.out | apply IsS132.alloc | apply IsS132.drewN | apply IsS132.drew | apply IsS132.set_1 | apply IsS132.set_2) | exact HI0.out)); (case side2 => repeat (first | (with_reducible first | exact HB.out | apply below_alloc | apply pw_below_drewN | apply below_drew1 | refine below_set ?_ (IsS132.ge HI0.out)) | exact HB.out)); rintro e w12 ⟨rfl, hi, hb, hk⟩; refine ⟨_, rfl, ?_⟩; have n0_ := am (KeepBut.trans (by repeat (first | (with_reducible first | exact HK.out | apply KeepBut.set_ | apply keep_drewN | apply keep_drew | apply keep_alloc) | exact HK.out)) hk (.inl rfl)); have n1_ := am (hb); have n2_ := am (hi); clear HK HB HI0; revert n0_ n1_ n2_; intro HK HB HI0; (try clear hb); (try clear hb2); (try clear hk); (try clear hi)))
  go_ret
  exact ⟨eZ, by repeat (first | (with_reducible first | exact HI0.out | apply IsS132.alloc | apply IsS132.drewN | apply IsS132.drew | apply IsS132.set_1 | apply IsS132.set_2) | exact HI0.out), by repeat (first | (with_reducible first | exact HB.out | apply below_alloc | apply pw_below_drewN | apply below_drew1 | refine below_set ?_ (IsS132.ge HI0.out)) | exact HB.out), by repeat (first | (with_reducible first | exact HK.out | apply KeepBut.set_ | apply keep_drewN | apply keep_drew | apply keep_alloc) | exact HK.out)⟩

mutual
def spec_l1Cur_key.l0 : Nat → List Int → Int → List Int → Int → Int → Option (ByteArray × Int × Int)
 | 0, _, _, _, _, _ => none
 | k + 1, x3, x4, x1000, x1001, x1002 => if x4 > 0 then ((spec_l1Cur_pick.f x1000 x1001 x1002 11).bind fun bt402 => (if 0 ≤ bt402.1 then (if bt402.1 < 11 then (if x3.length < 140737488355328 then (spec_l1Cur_key.l0 k (x3 ++ [bt (⟨#[97, 97, 98, 98, 99, 120, 121, 122, 33, 125, 48]⟩ : ByteArray) bt402.1]) (wrap64 (x4 - 1)) x1000 bt402.2.1 bt402.2.2) else (none)) else (none)) else (none))) else ((spec_l1Cur_one.f x1000 x1001 x1002 12).bind fun bt408 => (if bt408.1 = true then (spec_l1Cur_key.l1 k x3 x1000 bt408.2.1 bt408.2.2) else (some (strOfNums x3, bt408.2.1, bt408.2.2))))
def spec_l1Cur_key.l1 : Nat → List Int → List Int → Int → Int → Option (ByteArray × Int × Int)
 | 0, _, _, _, _ => none
 | k + 1, x3, x1000, x1001, x1002 => if (x3.length : Int) < 12 then (if x3.length < 140737488355328 then (spec_l1Cur_key.l1 k (x3 ++ [97]) x1000 x1001 x1002) else (none)) else (some (strOfNums x3, x1001, x1002))
end
def spec_l1Cur_key.f (k : Nat) (s0_0 : List Int) (s0_1 : Int) (s0_2 : Int) : Option (ByteArray × Int × Int) := (spec_l1Cur_pick.f s0_0 s0_1 s0_2 4).bind fun bt399 => (spec_l1Cur_key.l0 k ([] : List Int) (wrap64 (1 + bt399.1)) s0_0 bt399.2.1 bt399.2.2)
theorem spec_l1Cur_key.calls (k : Nat) (g : Nat) (s0_0 : List Int) (s0_1 : Int) (s0_2 : Int) (r1 : ByteArray) (r2 : Int) (r3 : Int) (w0 w : World) (hI : IsS132 w0 w g s0_0 s0_1 s0_2) (hB : Below w0.heap.size w0 w) (h : spec_l1Cur_key.f k s0_0 s0_1 s0_2 = some (r1, r2, r3)) :
  Calls Try.prog 176 #[.pointer (some ⟨g, 0, none⟩)] w fun e w' => e = .returned (.string r1) ∧ IsS132 w0 w' g s0_0 r2 r3 ∧ Below w0.heap.size w0 w' ∧ KeepBut w w' g none := by
 have HI0 := am hI; have HK := am (KeepBut.refl w g none); have HL := am hB.size; clear hI; have HW0 := am hB.size; have HB := am hB; clear hB; have H : ((spec_l1Cur_pick.f s0_0 s0_1 s0_2 4).bind fun bt399 => (spec_l1Cur_key.l0 k ([] : List Int) (wrap64 (1 + bt399.1)) s0_0 bt399.2.1 bt399.2.2)) = some (r1, r2, r3) := h; clear h; replace H := Option.bind_eq_some_iff.mp H; obtain ⟨⟨t399, t400, t401⟩, A20, H⟩ := H; (try dsimp -simprocs only at H); have A2 := am A20; clear A20; have H' := am H; clear H
 go_enter Try.func176, Try.ntmps176
 go_wp2_with (first | ((with_reducible refine gate_callee (f := 174) rfl ?_); refine gL (some 6) Try.func174 #[.pointer (some ⟨g, 0, none⟩), .int .i64 4] ?_; (with_reducible refine (spec_l1Cur_pick.calls g s0_0 s0_1 s0_2 4 t399 t400 t401 w0 _ ?side1 ?side2 A2.out).mono ?_); (case side1 => repeat (first | (with_reducible first | exact HI0.out | apply IsS132.alloc | apply IsS132.drewN | apply IsS132.drew | apply IsS132.set_1 | apply IsS132.set_2) | exact HI0.out)); (case side2 => repeat (first | (with_reducible first | exact HB.out | apply below_alloc | apply pw_below_drewN | apply below_drew1 | refine below_set ?_ (IsS132.ge HI0.out)) | exact HB.out)); rintro e w3 ⟨rfl, hi, hb, hk⟩; refine ⟨_, rfl, ?_⟩; have n0_ := am (KeepBut.trans (by repeat (first | (with_reducible first | exact HK.out | apply KeepBut.set_ | apply keep_drewN | apply keep_drew | apply keep_alloc) | exact HK.out)) hk (.inl rfl)); have n1_ := am (hb); have n2_ := am (hi); clear HK HB HI0; revert n0_ n1_ n2_; intro HK HB HI0; (try clear hb); (try clear hb2); (try clear hk); (try clear hi)))
 (try simp only [aP])
 go_loopg [3, 4] k (fun kq v3 v4 w' => ∃ (x3_1 : List Int) (x4_1 : Int) (x1001_1 : Int) (x1002_1 : Int), v4 = .int .i64 x4_1 ∧ Aside0 (spec_l1Cur_key.l0 kq x3_1 x4_1 s0_0 x1001_1 x1002_1 = some (r1, r2, r3)) ∧ Aside0 (kq ≤ k) ∧ Aside0 (Kd.R (Kd.int .u8) 5 w' w.heap.size (fun _ => True) v3 x3_1) ∧ Aside0 (IsS132 w0 w' g s0_0 x1001_1 x1002_1) ∧ Aside0 (KeepBut w w' g none) ∧ Aside0 (Below w0.heap.size w0 w'))
 case atStart => exact ⟨(([] : List Int)), (wrap64 (1 + t399)), (t400), (t401), wZ, H', ⟨Nat.le_refl _⟩, ⟨nZ⟩, ⟨by repeat (first | (with_reducible first | exact HI0.out | apply IsS132.alloc | apply IsS132.drewN | apply IsS132.drew | apply IsS132.set_1 | apply IsS132.set_2) | exact HI0.out)⟩, ⟨by repeat (first | (with_reducible first | exact HK.out | apply KeepBut.set_ | apply keep_drewN | apply keep_drew | apply keep_alloc) | exact HK.out)⟩, ⟨by repeat (first | (with_reducible first | exact HB.out | apply below_alloc | apply pw_below_drewN | apply below_drew1 | refine below_set ?_ (IsS132.ge HI0.out)) | exact HB.out)⟩⟩
 case round =>
  clear H'
  try clear c1
  try clear p2
  obtain ⟨x3_1, x4_1, x1001_1, x1002_1, rfl, HA, HK1, HO_3, HI0, HK, HB⟩ := hrel; cases gk with
  | zero => exact absurd HA.out (by simp [spec_l1Cur_key.l0])
  | succ k1 =>
   have H := HA.out; clear HA
   simp only [spec_l1Cur_key.l0] at H
   by_cases c4 : x4_1 > 0
   ·rw [if_pos c4] at H
    have c4b0 : decide (0 < x4_1) = true := decide_eq_true c4; clear c4; replace H := Option.bind_eq_some_iff.mp H; obtain ⟨⟨t402, t403, t404⟩, A50, H⟩ := H; (try dsimp -simprocs only at H); have A5 := am A50; clear A50
    by_cases c6 : 0 ≤ t402
    ·rw [if_pos c6] at H
     have c6b0 : decide (0 ≤ t402) = true := decide_eq_true c6; clear c6
     by_cases c7 : t402 < 11
     ·rw [if_pos c7] at H
      have c7b0 : decide (t402 < 11) = true := decide_eq_true c7; clear c7
      by_cases c9 : x3_1.length < 140737488355328
      ·rw [if_pos c9] at H
       have LMc9 := am c9; clear c9; obtain ⟨y405, hy405⟩ : ∃ y_ : List Int, y_ = (x3_1 ++ [bt (⟨#[97, 97, 98, 98, 99, 120, 121, 122, 33, 125, 48]⟩ : ByteArray) t402]) := ⟨_, rfl⟩
       replace H : (spec_l1Cur_key.l0 k1 y405 (wrap64 (x4_1 - 1)) s0_0 t403 t404) = some (r1, r2, r3) := by first | (rw [hy405]; with_reducible exact H) | (have H2_ := (Option.bind_some _ _).symm.trans H; rw [hy405]; with_reducible exact H2_) | (have H2_ := (Option.bind_some _ _).symm.trans H; with_reducible exact H2_) | with_reducible exact H | (rw [hy405]; exact H) | exact H
       have Ny405 := am hy405; clear hy405; have H' := am H; clear H
       go_wp2_with (first | ((with_reducible refine gate_callee (f := 174) rfl ?_); refine gL (some 14) Try.func174 #[.pointer (some ⟨g, 0, none⟩), .int .i64 11] ?_; (with_reducible refine (spec_l1Cur_pick.calls g s0_0 x1001_1 x1002_1 11 t402 t403 t404 w0 _ ?side1 ?side2 A5.out).mono ?_); (case side1 => repeat (first | (with_reducible first | exact HI0.out | apply IsS132.alloc | apply IsS132.drewN | apply IsS132.drew | apply IsS132.set_1 | apply IsS132.set_2) | exact HI0.out)); (case side2 => repeat (first | (with_reducible first | exact HB.out | apply below_alloc | apply pw_below_drewN | apply below_drew1 | refine below_set ?_ (IsS132.ge HI0.out)) | exact HB.out)); rintro e w10 ⟨rfl, hi, hb, hk⟩; refine ⟨_, rfl, ?_⟩; have n0_ := am (Kd.R_mono (Kd.R_keep (IsS132.apart (show IsS132 w0 _ g s0_0 x1001_1 x1002_1 from by repeat (first | (with_reducible first | exact HI0.out | apply IsS132.alloc | apply IsS132.drewN | apply IsS132.drew | apply IsS132.set_1 | apply IsS132.set_2) | exact HI0.out)) (Rz HO_3.out) (by decide)) hk (fun _ h => h.2)) (fun _ h => h.1)); have n1_ := am (KeepBut.trans (by repeat (first | (with_reducible first | exact HK.out | apply KeepBut.set_ | apply keep_drewN | apply keep_drew | apply keep_alloc) | exact HK.out)) hk (.inl rfl)); have n2_ := am (hb); have n3_ := am (hi); clear HO_3 HK HB HI0; revert n0_ n1_ n2_ n3_; intro HO_3 HK HB HI0; (try clear hb); (try clear hb2); (try clear hk); (try clear hi); have p8 : 0 ≤ (t402 : Int) := dT; have q8 : t402 < (11 : Int) := dT; have hx8 := bt_at (⟨#[97, 97, 98, 98, 99, 120, 121, 122, 33, 125, 48]⟩ : ByteArray) t402; replace p8 := eq_true p8; replace q8 := eq_true q8) | ((with_reducible refine gate_builtin (b := .append) (xs := #[.tmp 12, .tmp 16]) rfl ?_); at_builtin; refine Kd.R_append (Kd.int .u8) w.heap.size rfl (.tmp 12) (.tmp 16) 73 5 (.int .u8 0) 1 rfl Try.underlying73 info5 rfl (by decide) (by omega) u3 x3_1 (bt (⟨#[97, 97, 98, 98, 99, 120, 121, 122, 33, 125, 48]⟩ : ByteArray) t402) [.int .u8 (bt (⟨#[97, 97, 98, 98, 99, 120, 121, 122, 33, 125, 48]⟩ : ByteArray) t402)] (fun _ => True) (fun _ => False) rfl rfl ?aP (fun _ hk => hk.elim) ?aF ?aO (Below.refl _ _) ?aS ?aL ?_; (case aP => exact rfl); (case aF => exact (fun _ _ => trivial)); (case aO => exact (Rz HO_3.out)); (case aS => exact (keep_size (w := w) (g := g) (row := none) (by repeat (first | (with_reducible first | exact HK.out | apply KeepBut.set_ | apply keep_drewN | apply keep_drew | apply keep_alloc) | exact HK.out)))); (case aL => have := LMc9.out; omega); intro v406 w11 ho hb hg hat; rw [← Ny405.out] at ho; have n0_ := am (IsS132.grown (by repeat (first | (with_reducible first | exact HI0.out | apply IsS132.alloc | apply IsS132.drewN | apply IsS132.drew | apply IsS132.set_1 | apply IsS132.set_2) | exact HI0.out)) hg (IsS132.own_ne HI0.out HO_3.out (by decide))); have n1_ := am (below_weaken (by repeat (first | (with_reducible first | exact HB.out | apply below_alloc | apply pw_below_drewN | apply below_drew1 | refine below_set ?_ (IsS132.ge HI0.out)) | exact HB.out)) HL.out hb); have n2_ := am (KeepBut.trans (by repeat (first | (with_reducible first | exact HK.out | apply KeepBut.set_ | apply keep_drewN | apply keep_drew | apply keep_alloc) | exact HK.out)) (KeepBut.of_grown hg g) (Kd.R_base2 HO_3.out)); have n3_ := am (ho); clear HI0 HB HK HO_3; revert n0_ n1_ n2_ n3_; intro HI0 HB HK HO407; clear ho hb hg hat))
       go_roundg k1
       case measure => have := HK1.out; omega
       case rel => exact ⟨(y405), (wrap64 (x4_1 - 1)), (t403), (t404), wZ, H', ⟨by have := HK1.out; omega⟩, ⟨Rz HO407.out⟩, ⟨by repeat (first | (with_reducible first | exact HI0.out | apply IsS132.alloc | apply IsS132.drewN | apply IsS132.drew | apply IsS132.set_1 | apply IsS132.set_2) | exact HI0.out)⟩, ⟨by repeat (first | (with_reducible first | exact HK.out | apply KeepBut.set_ | apply keep_drewN | apply keep_drew | apply keep_alloc) | exact HK.out)⟩, ⟨by repeat (first | (with_reducible first | exact HB.out | apply below_alloc | apply pw_below_drewN | apply below_drew1 | refine below_set ?_ (IsS132.ge HI0.out)) | exact HB.out)⟩⟩
      ·rw [if_neg c9] at H
       exact absurd H (by simp)
     ·rw [if_neg c7] at H
      exact absurd H (by simp)
    ·rw [if_neg c6] at H
     exact absurd H (by simp)
   ·rw [if_neg c4] at H
    have c4b0 : decide (0 < x4_1) = false := decide_eq_false c4; clear c4; replace H := Option.bind_eq_some_iff.mp H; obtain ⟨⟨t408, t409, t410⟩, A120, H⟩ := H; (try dsimp -simprocs only at H); have A12 := am A120; clear A120
    by_cases c13 : t408 = true
    ·subst c13
     rw [if_pos rfl] at H; have H' := am H; clear H
     go_wp2_with (first | ((with_reducible refine gate_callee (f := 132) rfl ?_); refine gL (some 19) Try.func132 #[.pointer (some ⟨g, 0, none⟩), .int .i64 12] ?_; (with_reducible refine (spec_l1Cur_one.calls g s0_0 x1001_1 x1002_1 12 true t409 t410 w0 _ ?side1 ?side2 A12.out).mono ?_); (case side1 => repeat (first | (with_reducible first | exact HI0.out | apply IsS132.alloc | apply IsS132.drewN | apply IsS132.drew | apply IsS132.set_1 | apply IsS132.set_2) | exact HI0.out)); (case side2 => repeat (first | (with_reducible first | exact HB.out | apply below_alloc | apply pw_below_drewN | apply below_drew1 | refine below_set ?_ (IsS132.ge HI0.out)) | exact HB.out)); rintro e w14 ⟨rfl, hi, hb, hk⟩; refine ⟨_, rfl, ?_⟩; have n0_ := am (Kd.R_mono (Kd.R_keep (IsS132.apart (show IsS132 w0 _ g s0_0 x1001_1 x1002_1 from by repeat (first | (with_reducible first | exact HI0.out | apply IsS132.alloc | apply IsS132.drewN | apply IsS132.drew | apply IsS132.set_1 | apply IsS132.set_2) | exact HI0.out)) (Rz HO_3.out) (by decide)) hk (fun _ h => h.2)) (fun _ h => h.1)); have n1_ := am (KeepBut.trans (by repeat (first | (with_reducible first | exact HK.out | apply KeepBut.set_ | apply keep_drewN | apply keep_drew | apply keep_alloc) | exact HK.out)) hk (.inl rfl)); have n2_ := am (hb); have n3_ := am (hi); clear HO_3 HK HB HI0; revert n0_ n1_ n2_ n3_; intro HO_3 HK HB HI0; (try clear hb); (try clear hb2); (try clear hk); (try clear hi)))
     (try simp only [aP])
     go_loopg [3] k1 (fun kq v3 w' => ∃ (x3_2 : List Int), Aside0 (spec_l1Cur_key.l1 kq x3_2 s0_0 t409 t410 = some (r1, r2, r3)) ∧ Aside0 (kq ≤ k1) ∧ Aside0 (Kd.R (Kd.int .u8) 5 w' w.heap.size (fun _ => True) v3 x3_2) ∧ Aside0 (IsS132 w0 w' g s0_0 t409 t410) ∧ Aside0 (KeepBut w w' g none) ∧ Aside0 (Below w0.heap.size w0 w'))
     case atStart => exact ⟨(x3_1), H', ⟨Nat.le_refl _⟩, ⟨Rz HO_3.out⟩, ⟨by repeat (first | (with_reducible first | exact HI0.out | apply IsS132.alloc | apply IsS132.drewN | apply IsS132.drew | apply IsS132.set_1 | apply IsS132.set_2) | exact HI0.out)⟩, ⟨by repeat (first | (with_reducible first | exact HK.out | apply KeepBut.set_ | apply keep_drewN | apply keep_drew | apply keep_alloc) | exact HK.out)⟩, ⟨by repeat (first | (with_reducible first | exact HB.out | apply below_alloc | apply pw_below_drewN | apply below_drew1 | refine below_set ?_ (IsS132.ge HI0.out)) | exact HB.out)⟩⟩
     case round =>
      clear H'
      try clear c1
      try clear p2
      try clear c4
      try clear c4b0
      try clear c6
      try clear c6b0
      try clear p6
      try clear c7
      try clear c7b0
      try clear p8
      try clear q8
      try clear hx8
      try clear c9
      try clear c13
      try clear p2
      try clear p8
      try clear q8
      obtain ⟨x3_2, HA, HK2, HO_3, HI0, HK, HB⟩ := hrel; cases gk with
      | zero => exact absurd HA.out (by simp [spec_l1Cur_key.l1])
      | succ k2 =>
       have H := HA.out; clear HA
       simp only [spec_l1Cur_key.l1] at H
       by_cases c15 : (x3_2.length : Int) < 12
       ·rw [if_pos c15] at H
        have c15b0 : decide ((x3_2.length : Int) < 12) = true := decide_eq_true c15; have c15b1 : decide (x3_2.length < 12) = true := decide_eq_true (by omega); clear c15
        by_cases c16 : x3_2.length < 140737488355328
        ·rw [if_pos c16] at H
         have LMc16 := am c16; clear c16; obtain ⟨y411, hy411⟩ : ∃ y_ : List Int, y_ = (x3_2 ++ [97]) := ⟨_, rfl⟩
         replace H : (spec_l1Cur_key.l1 k2 y411 s0_0 t409 t410) = some (r1, r2, r3) := by first | (rw [hy411]; with_reducible exact H) | (have H2_ := (Option.bind_some _ _).symm.trans H; rw [hy411]; with_reducible exact H2_) | (have H2_ := (Option.bind_some _ _).symm.trans H; with_reducible exact H2_) | with_reducible exact H | (rw [hy411]; exact H) | exact H
         have Ny411 := am hy411; clear hy411; have H' := am H; clear H; obtain ⟨Ao17, co17, eo17⟩ := Kd.R_slice HO_3.out; subst eo17
         go_wp2_with (first | ((with_reducible refine gate_builtin (b := .append) (xs := #[.tmp 23, .tmp 24]) rfl ?_); at_builtin; refine Kd.R_append (Kd.int .u8) w.heap.size rfl (.tmp 23) (.tmp 24) 73 5 (.int .u8 0) 1 rfl Try.underlying73 info5 rfl (by decide) (by omega) (.slice Ao17 x3_2.length co17) x3_2 97 [.int .u8 97] (fun _ => True) (fun _ => False) rfl rfl ?aP (fun _ hk => hk.elim) ?aF ?aO (Below.refl _ _) ?aS ?aL ?_; (case aP => exact rfl); (case aF => exact (fun _ _ => trivial)); (case aO => exact (Rz HO_3.out)); (case aS => exact (keep_size (w := w) (g := g) (row := none) (by repeat (first | (with_reducible first | exact HK.out | apply KeepBut.set_ | apply keep_drewN | apply keep_drew | apply keep_alloc) | exact HK.out)))); (case aL => have := LMc16.out; omega); intro v412 w18 ho hb hg hat; rw [← Ny411.out] at ho; have n0_ := am (IsS132.grown (by repeat (first | (with_reducible first | exact HI0.out | apply IsS132.alloc | apply IsS132.drewN | apply IsS132.drew | apply IsS132.set_1 | apply IsS132.set_2) | exact HI0.out)) hg (IsS132.own_ne HI0.out HO_3.out (by decide))); have n1_ := am (below_weaken (by repeat (first | (with_reducible first | exact HB.out | apply below_alloc | apply pw_below_drewN | apply below_drew1 | refine below_set ?_ (IsS132.ge HI0.out)) | exact HB.out)) HL.out hb); have n2_ := am (KeepBut.trans (by repeat (first | (with_reducible first | exact HK.out | apply KeepBut.set_ | apply keep_drewN | apply keep_drew | apply keep_alloc) | exact HK.out)) (KeepBut.of_grown hg g) (Kd.R_base2 HO_3.out)); have n3_ := am (ho); clear HI0 HB HK HO_3; revert n0_ n1_ n2_ n3_; intro HI0 HB HK HO413; clear ho hb hg hat))
         go_roundg k2
         case measure => have := HK1.out; have := HK2.out; omega
         case rel => exact ⟨(y411), H', ⟨by have := HK1.out; have := HK2.out; omega⟩, ⟨Rz HO413.out⟩, ⟨by repeat (first | (with_reducible first | exact HI0.out | apply IsS132.alloc | apply IsS132.drewN | apply IsS132.drew | apply IsS132.set_1 | apply IsS132.set_2) | exact HI0.out)⟩, ⟨by repeat (first | (with_reducible first | exact HK.out | apply KeepBut.set_ | apply keep_drewN | apply keep_drew | apply keep_alloc) | exact HK.out)⟩, ⟨by repeat (first | (with_reducible first | exact HB.out | apply below_alloc | apply pw_below_drewN | apply below_drew1 | refine below_set ?_ (IsS132.ge HI0.out)) | exact HB.out)⟩⟩
        ·rw [if_neg c16] at H
         exact absurd H (by simp)
       ·rw [if_neg c15] at H
        have c15b0 : decide ((x3_2.length : Int) < 12) = false := decide_eq_false c15; have c15b1 : decide (x3_2.length < 12) = false := decide_eq_false (by omega); clear c15
        simp only [Option.some.injEq, Prod.mk.injEq] at H
        obtain ⟨rfl, rfl, rfl⟩ := H; obtain ⟨Ao19, co19, eo19⟩ := Kd.R_slice HO_3.out; subst eo19; have hcv20 := own_string (P := Try.prog) Try.underlying73 Try.underlying5 Try.underlying9 (Kd.own_of_R HO_3.out)
        go_wp2
        go_ret
        exact ⟨eZ, by repeat (first | (with_reducible first | exact HI0.out | apply IsS132.alloc | apply IsS132.drewN | apply IsS132.drew | apply IsS132.set_1 | apply IsS132.set_2) | exact HI0.out), by repeat (first | (with_reducible first | exact HB.out | apply below_alloc | apply pw_below_drewN | apply below_drew1 | refine below_set ?_ (IsS132.ge HI0.out)) | exact HB.out), by repeat (first | (with_reducible first | exact HK.out | apply KeepBut.set_ | apply keep_drewN | apply keep_drew | apply keep_alloc) | exact HK.out)⟩
    ·replace c13 := Bool.eq_false_iff.mpr c13
     subst c13
     rw [if_neg (show ¬ (false = true) by decide)] at H
     simp only [Option.some.injEq, Prod.mk.injEq] at H
     obtain ⟨rfl, rfl, rfl⟩ := H
     go_wp2_with (first | ((with_reducible refine gate_callee (f := 132) rfl ?_); refine gL (some 19) Try.func132 #[.pointer (some ⟨g, 0, none⟩), .int .i64 12] ?_; (with_reducible refine (spec_l1Cur_one.calls g s0_0 x1001_1 x1002_1 12 false t409 t410 w0 _ ?side1 ?side2 A12.out).mono ?_); (case side1 => repeat (first | (with_reducible first | exact HI0.out | apply IsS132.alloc | apply IsS132.drewN | apply IsS132.drew | apply IsS132.set_1 | apply IsS132.set_2) | exact HI0.out)); (case side2 => repeat (first | (with_reducible first | exact HB.out | apply below_alloc | apply pw_below_drewN | apply below_drew1 | refine below_set ?_ (IsS132.ge HI0.out)) | exact HB.out)); rintro e w21 ⟨rfl, hi, hb, hk⟩; refine ⟨_, rfl, ?_⟩; have n0_ := am (Kd.R_mono (Kd.R_keep (IsS132.apart (show IsS132 w0 _ g s0_0 x1001_1 x1002_1 from by repeat (first | (with_reducible first | exact HI0.out | apply IsS132.alloc | apply IsS132.drewN | apply IsS132.drew | apply IsS132.set_1 | apply IsS132.set_2) | exact HI0.out)) (Rz HO_3.out) (by decide)) hk (fun _ h => h.2)) (fun _ h => h.1)); have n1_ := am (KeepBut.trans (by repeat (first | (with_reducible first | exact HK.out | apply KeepBut.set_ | apply keep_drewN | apply keep_drew | apply keep_alloc) | exact HK.out)) hk (.inl rfl)); have n2_ := am (hb); have n3_ := am (hi); clear HO_3 HK HB HI0; revert n0_ n1_ n2_ n3_; intro HO_3 HK HB HI0; (try clear hb); (try clear hb2); (try clear hk); (try clear hi); have hcv22 := own_string (P := Try.prog) Try.underlying73 Try.underlying5 Try.underlying9 (Kd.own_of_R HO_3.out)))
     go_ret
     exact ⟨eZ, by repeat (first | (with_reducible first | exact HI0.out | apply IsS132.alloc | apply IsS132.drewN | apply IsS132.drew | apply IsS132.set_1 | apply IsS132.set_2) | exact HI0.out), by repeat (first | (with_reducible first | exact HB.out | apply below_alloc | apply pw_below_drewN | apply below_drew1 | refine below_set ?_ (IsS132.ge HI0.out)) | exact HB.out), by repeat (first | (with_reducible first | exact HK.out | apply KeepBut.set_ | apply keep_drewN | apply keep_drew | apply keep_alloc) | exact HK.out)⟩

end Go.Proofs.Ytpkpjikkfikejaa.PB
