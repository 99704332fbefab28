import Derived.Test.YtalfkfddpamnjaaCA2
import Derived.Test.YtalfkfddpamnjaaCA4
import Derived.Test.YtalfkfddpamnjaaCA6
import Derived.Test.YtalfkfddpamnjaaCA3
import Derived.Test.YtalfkfddpamnjaaCA5
import Derived.Test.YtalfkfddpamnjaaCA9
import Derived.Test.YtalfkfddpamnjaaCA10
-- printed by a program of this session (wip/gp) out of the translation; Lean checks it
namespace Go.Proofs.Ytalfkfddpamnjaa.PA
open Go.RowKit Go.Proofs.YtalfkfddpamnjaaW.PrintWords Go.Proofs.YtalfkfddpamnjaaW.PrintLast Go.Proofs.YtalfkfddpamnjaaW.PrintMore Go.Proofs.YtalfkfddpamnjaaSq
attribute [local go_sem] max2_int min2_int max_two min_two max_three min_three max_four min_four   -- for this text's walks alone
attribute [local go_sem] Go.Proofs.YtalfkfddpamnjaaGp.str_geq Go.Proofs.YtalfkfddpamnjaaGp.str_gtr Go.Proofs.YtalfkfddpamnjaaGp.str_leq
set_option linter.unusedVariables false
set_option linter.unusedSimpArgs false

def spec_LongestKey.l0 : Nat → ByteArray → Bool → ByteArray → List ByteArray → Int → Int → Option (ByteArray × Bool)
 | 0, _, _, _, _, _, _ => none
 | k + 1, x1, x7, x8, x16, x17, x18 => if x18 < x17 then (if 0 ≤ x18 then (if x18 < (x16.length : Int) then ((spec_trBegins.f x1 (rdOf ByteArray.empty x16 x18)).bind fun t261 => (if t261 = true then (if ((rdOf ByteArray.empty x16 x18).size : Int) > (x8.size : Int) then (spec_LongestKey.l0 k x1 x7 (rdOf ByteArray.empty x16 x18) x16 x17 (wrap64 (x18 + 1))) else (spec_LongestKey.l0 k x1 x7 x8 x16 x17 (wrap64 (x18 + 1)))) else (spec_LongestKey.l0 k x1 x7 x8 x16 x17 (wrap64 (x18 + 1))))) else (none)) else (none)) else (if x7 = true then (if x8.toList = ([] : List UInt8) then (some ((⟨#[]⟩ : ByteArray), false)) else (some (x8, true))) else (some ((⟨#[]⟩ : ByteArray), false)))
def spec_LongestKey.f (k : Nat) (a0_0 : Int) (l0_1 : List Int) (a0_2 : Int) (l0_3 : List Int) (a0_4 : ByteArray) (a1 : ByteArray) : Option (ByteArray × Bool) := (spec_trKeys.f k a0_0 l0_1 a0_2 l0_3 a0_4).bind fun bt256 => (spec_LongestKey.l0 k a1 bt256.2 (⟨#[]⟩ : ByteArray) bt256.1 (bt256.1.length : Int) 0)
theorem spec_LongestKey.mono_l : ∀ k, (∀ y0 y1 y2 y3 y4 y5, LeO (spec_LongestKey.l0 k y0 y1 y2 y3 y4 y5) (spec_LongestKey.l0 (k + 1) y0 y1 y2 y3 y4 y5))
 | 0 => fun _ _ _ _ _ _ r h => by simp [spec_LongestKey.l0] at h
 | k + 1 => by
  have ih0 := spec_LongestKey.mono_l k
  ·intro y0 y1 y2 y3 y4 y5
   unfold spec_LongestKey.l0
   repeat' first | (with_reducible first | exact ih0 _ _ _ _ _ _ | exact spec_trKeys.mono _ _ _ _ _ _ | exact LeO.refl _ | exact LeO.none _ | refine LeO.ite ?_ ?_ | refine LeO.bind ?_ (fun _ => ?_)) | exact LeO.none _ | refine LeO.ite ?_ ?_ | refine LeO.bind ?_ (fun _ => ?_)
theorem spec_LongestKey.mono : ∀ a0 a1 a2 a3 a4 a5 k, LeO (spec_LongestKey.f k a0 a1 a2 a3 a4 a5) (spec_LongestKey.f (k + 1) a0 a1 a2 a3 a4 a5) := by
 intro a0 a1 a2 a3 a4 a5 k; have ih0 := spec_LongestKey.mono_l k
 unfold spec_LongestKey.f
 repeat' first | (with_reducible first | exact ih0 _ _ _ _ _ _ | exact spec_trKeys.mono _ _ _ _ _ _ | exact LeO.refl _ | exact LeO.none _ | refine LeO.ite ?_ ?_ | refine LeO.bind ?_ (fun _ => ?_)) | exact LeO.none _ | refine LeO.ite ?_ ?_ | refine LeO.bind ?_ (fun _ => ?_)
set_option maxHeartbeats 8000000 in
set_option maxRecDepth 100000 in
theorem spec_LongestKey.calls (k : Nat) (a0_0 : Int) (A0_1 : Option Addr) (c0_1 : Nat) (l0_1 : List Int) (a0_2 : Int) (A0_3 : Option Addr) (c0_3 : Nat) (l0_3 : List Int) (a0_4 : ByteArray) (a1 : ByteArray) (r1 : ByteArray) (r2 : Bool) (w : World) (hr0_1 : Kd.C (Kd.int .i64) w A0_1 l0_1.length l0_1) (hc0_1 : l0_1.length ≤ c0_1) (hr0_3 : Kd.C (Kd.int .i64) w A0_3 l0_3.length l0_3) (hc0_3 : l0_3.length ≤ c0_3) (h : spec_LongestKey.f k a0_0 l0_1 a0_2 l0_3 a0_4 a1 = some (r1, r2)) :
  Calls Try.prog 13 #[.agg #[.int .i64 a0_0, .slice A0_1 l0_1.length c0_1, .int .i64 a0_2, .slice A0_3 l0_3.length c0_3, .string a0_4], .string a1] w fun e w' => e = .returned (.tuple #[.string r1, .bool r2]) ∧ Below w.heap.size w w' := by
 have hu32 := Try.underlying32; have HR0_1 := Aside0.mk hr0_1; have HC0_1 := Aside0.mk hc0_1; clear hr0_1 hc0_1; have HR0_3 := Aside0.mk hr0_3; have HC0_3 := Aside0.mk hc0_3; clear hr0_3 hc0_3; have HB := Aside0.mk (Below.refl w.heap.size w); have H : ((spec_trKeys.f k a0_0 l0_1 a0_2 l0_3 a0_4).bind fun bt256 => (spec_LongestKey.l0 k a1 bt256.2 (⟨#[]⟩ : ByteArray) bt256.1 (bt256.1.length : Int) 0)) = some (r1, r2) := h; clear h; replace H := Option.bind_eq_some_iff.mp H; obtain ⟨⟨t256, t259⟩, A30, H⟩ := H; replace H : (spec_LongestKey.l0 k a1 t259 (⟨#[]⟩ : ByteArray) t256 (t256.length : Int) 0) = some (r1, r2) := H; have A3 := Aside0.mk A30; clear A30; have H' := Aside0.mk H; clear H
 go_enter Try.func13, Try.ntmps13
 go_wp2_with (first | ((with_reducible refine gate_dst (N := 2) rfl ?_); (try (refine gate_guard (by rfl) ?_; dsimp only)); refine bE 2 #[.int .i64 a0_0, .slice A0_1 l0_1.length c0_1, .int .i64 a0_2, .slice A0_3 l0_3.length c0_3, .string a0_4] 32 ?_; intro gb255 hg w4 hbox hb; have n0_ := Bb HB hb; have n1_ := Aside0.mk (hbox); have n2_ := Gl HB hg; have n3_ := Gl HB hg; clear HB; revert n0_ n1_ n2_ n3_; intro HB BK255 GW255 GE255; clear hb hbox hg; obtain ⟨hcz5_0, hcz5_1, hcz5_2, hcz5_3, hcz5_4, hfz5_0, hfz5_1, hfz5_2, hfz5_3, hfz5_4⟩ := cf5 (w := w4) BK255) | ((with_reducible refine gate_callee (f := 40) rfl ?_); refine gL (some 13) Try.func40 #[.agg #[.int .i64 a0_0, .slice A0_1 l0_1.length c0_1, .int .i64 a0_2, .slice A0_3 l0_3.length c0_3, .string a0_4]] ?_; (with_reducible refine (spec_trKeys.calls k a0_0 _ _ l0_1 a0_2 _ _ l0_3 a0_4 t256 t259 _ ?side1 ?side2 ?side3 ?side4 A3.out).mono ?_); (case side1 => exact Cz (Kd.C_below HR0_1.out HB.out)); (case side2 => exact HC0_1.out); (case side3 => exact Cz (Kd.C_below HR0_3.out HB.out)); (case side4 => exact HC0_3.out); rintro e w6 ⟨v257, rfl, ho0, hb⟩; refine ⟨_, rfl, ?_⟩; have n0_ := Rm ho0 HB; have n1_ := Kb BK255 hb; have n2_ := Bc HB hb; clear BK255 HB; revert n0_ n1_ n2_; intro HO258 BK255 HB; (try clear hb); (try clear hb2); (try clear hk); (try clear hi); (try clear ho0); obtain ⟨Ao7, co7, eo7⟩ := Kd.R_slice HO258.out; subst eo7))
 (try simp only [Act.put, List.setIfInBounds_toArray, List.set_cons_zero, List.set_cons_succ])
 go_loopg [8, 18] k (fun kq v8 v18 w' => ∃ (x8_1 : ByteArray) (x18_1 : Int), v8 = .string x8_1 ∧ v18 = .int .i64 x18_1 ∧ Aside0 (spec_LongestKey.l0 kq a1 t259 x8_1 t256 (t256.length : Int) x18_1 = some (r1, r2)) ∧ Aside0 (kq ≤ k) ∧ Aside0 (Kd.R Kd.string 9 w' w.heap.size (fun _ => True) (.slice Ao7 t256.length co7) t256) ∧ Aside0 (w'.heap[gb255]? = some (.cells #[.int .i64 a0_0, (.slice A0_1 l0_1.length c0_1), .int .i64 a0_2, (.slice A0_3 l0_3.length c0_3), .string a0_4] 32 (0, 0))) ∧ Aside0 (Below w.heap.size w w'))
 case atStart => exact ⟨((⟨#[]⟩ : ByteArray)), (0), (by first | rfl | (simp; done) | (simp [*]; done)), (by first | rfl | (simp; done) | (simp [*]; done)), H', ⟨Nat.le_refl _⟩, ⟨Rz HO258.out⟩, ⟨Kz BK255.out⟩, ⟨Bq⟩⟩
 case round =>
  clear H'
  try clear c1
  try clear p2
  try clear c4
  try clear hcz5_0
  try clear hcz5_1
  try clear hcz5_2
  try clear hcz5_3
  try clear hcz5_4
  try clear hfz5_0
  try clear hfz5_1
  try clear hfz5_2
  try clear hfz5_3
  try clear hfz5_4
  obtain ⟨x8_1, x18_1, rfl, rfl, HA, HK1, HO_16, BK255, HB⟩ := hrel; cases gk with
  | zero => exact absurd HA.out (by simp [spec_LongestKey.l0])
  | succ k1 =>
   have H := HA.out; clear HA
   simp only [spec_LongestKey.l0] at H
   by_cases c8 : x18_1 < (t256.length : Int)
   ·rw [if_pos c8] at H
    have c8b0 : decide (x18_1 < (t256.length : Int)) = true := decide_eq_true c8; clear c8
    by_cases c9 : 0 ≤ x18_1
    ·rw [if_pos c9] at H
     have c9b0 : decide (0 ≤ x18_1) = true := decide_eq_true c9; clear c9
     by_cases c10 : x18_1 < (t256.length : Int)
     ·rw [if_pos c10] at H
      have c10b0 : decide (x18_1 < (t256.length : Int)) = true := decide_eq_true c10; clear c10; replace H := Option.bind_eq_some_iff.mp H; obtain ⟨t261, A110, H⟩ := H; replace H : (if t261 = true then (if ((rdOf ByteArray.empty t256 x18_1).size : Int) > (x8_1.size : Int) then (spec_LongestKey.l0 k1 a1 t259 (rdOf ByteArray.empty t256 x18_1) t256 (t256.length : Int) (wrap64 (x18_1 + 1))) else (spec_LongestKey.l0 k1 a1 t259 x8_1 t256 (t256.length : Int) (wrap64 (x18_1 + 1)))) else (spec_LongestKey.l0 k1 a1 t259 x8_1 t256 (t256.length : Int) (wrap64 (x18_1 + 1)))) = some (r1, r2) := H; have A11 := Aside0.mk A110; clear A110
      by_cases c12 : t261 = true
      ·subst c12
       have H1 : (if ((rdOf ByteArray.empty t256 x18_1).size : Int) > (x8_1.size : Int) then (spec_LongestKey.l0 k1 a1 t259 (rdOf ByteArray.empty t256 x18_1) t256 (t256.length : Int) (wrap64 (x18_1 + 1))) else (spec_LongestKey.l0 k1 a1 t259 x8_1 t256 (t256.length : Int) (wrap64 (x18_1 + 1)))) = some (r1, r2) := by rw [if_pos rfl] at H; exact H
       clear H; have H := H1; clear H1
       by_cases c13 : ((rdOf ByteArray.empty t256 x18_1).size : Int) > (x8_1.size : Int)
       ·rw [if_pos c13] at H
        have c13b0 : decide ((x8_1.size : Int) < ((rdOf ByteArray.empty t256 x18_1).size : Int)) = true := decide_eq_true c13; have c13b1 : decide (x8_1.size < (rdOf ByteArray.empty t256 x18_1).size) = true := decide_eq_true (Int.ofNat_lt.mp c13); clear c13; have H' := Aside0.mk H; clear H; have p260 : 0 ≤ (x18_1 : Int) := dT; have q260 : x18_1 < (t256.length : Int) := dT; obtain ⟨ad260, e260, hx260_0⟩ := Kd.at_string (Kd.R_reads' HO_16.out).2.2 x18_1 p260 q260; cases e260; replace p260 := eq_true p260; replace q260 := eq_true q260
        go_wp2_with (first | ((with_reducible refine gate_callee (f := 41) rfl ?_); refine gL (some 24) Try.func41 #[.string a1, .string (rdOf ByteArray.empty t256 x18_1)] ?_; (with_reducible refine (spec_trBegins.calls a1 (rdOf ByteArray.empty t256 x18_1) true _ A11.out).mono ?_); rintro e w' ⟨rfl, ⟨nd, rfl⟩⟩; refine ⟨_, rfl, ?_⟩))
        go_roundg k1
        case measure => have := HK1.out; omega
        case rel => exact ⟨(rdOf ByteArray.empty t256 x18_1), (wrap64 (x18_1 + 1)), (by first | rfl | (simp; done) | (simp [*]; done)), (by first | rfl | (simp; done) | (simp [*]; done)), H', ⟨by have := HK1.out; omega⟩, ⟨Rz HO_16.out⟩, ⟨Kz BK255.out⟩, ⟨Bq⟩⟩
       ·rw [if_neg c13] at H
        have c13b0 : decide ((x8_1.size : Int) < ((rdOf ByteArray.empty t256 x18_1).size : Int)) = false := decide_eq_false c13; have c13b1 : decide (x8_1.size < (rdOf ByteArray.empty t256 x18_1).size) = false := decide_eq_false (fun h => c13 (Int.ofNat_lt.mpr h)); clear c13; have H' := Aside0.mk H; clear H; have p260 : 0 ≤ (x18_1 : Int) := dT; have q260 : x18_1 < (t256.length : Int) := dT; obtain ⟨ad260, e260, hx260_0⟩ := Kd.at_string (Kd.R_reads' HO_16.out).2.2 x18_1 p260 q260; cases e260; replace p260 := eq_true p260; replace q260 := eq_true q260
        go_wp2_with (first | ((with_reducible refine gate_callee (f := 41) rfl ?_); refine gL (some 24) Try.func41 #[.string a1, .string (rdOf ByteArray.empty t256 x18_1)] ?_; (with_reducible refine (spec_trBegins.calls a1 (rdOf ByteArray.empty t256 x18_1) true _ A11.out).mono ?_); rintro e w' ⟨rfl, ⟨nd, rfl⟩⟩; refine ⟨_, rfl, ?_⟩))
        go_roundg k1
        case measure => have := HK1.out; omega
        case rel => exact ⟨(x8_1), (wrap64 (x18_1 + 1)), (by first | rfl | (simp; done) | (simp [*]; done)), (by first | rfl | (simp; done) | (simp [*]; done)), H', ⟨by have := HK1.out; omega⟩, ⟨Rz HO_16.out⟩, ⟨Kz BK255.out⟩, ⟨Bq⟩⟩
      ·replace c12 := Bool.eq_false_iff.mpr c12
       subst c12
       have H1 : (spec_LongestKey.l0 k1 a1 t259 x8_1 t256 (t256.length : Int) (wrap64 (x18_1 + 1))) = some (r1, r2) := by rw [if_neg (show ¬ (false = true) by decide)] at H; exact H
       clear H; have H := H1; clear H1; have H' := Aside0.mk H; clear H; have p260 : 0 ≤ (x18_1 : Int) := dT; have q260 : x18_1 < (t256.length : Int) := dT; obtain ⟨ad260, e260, hx260_0⟩ := Kd.at_string (Kd.R_reads' HO_16.out).2.2 x18_1 p260 q260; cases e260; replace p260 := eq_true p260; replace q260 := eq_true q260
       go_wp2_with (first | ((with_reducible refine gate_callee (f := 41) rfl ?_); refine gL (some 24) Try.func41 #[.string a1, .string (rdOf ByteArray.empty t256 x18_1)] ?_; (with_reducible refine (spec_trBegins.calls a1 (rdOf ByteArray.empty t256 x18_1) false _ A11.out).mono ?_); rintro e w' ⟨rfl, ⟨nd, rfl⟩⟩; refine ⟨_, rfl, ?_⟩))
       go_roundg k1
       case measure => have := HK1.out; omega
       case rel => exact ⟨(x8_1), (wrap64 (x18_1 + 1)), (by first | rfl | (simp; done) | (simp [*]; done)), (by first | rfl | (simp; done) | (simp [*]; done)), H', ⟨by have := HK1.out; omega⟩, ⟨Rz HO_16.out⟩, ⟨Kz BK255.out⟩, ⟨Bq⟩⟩
     ·rw [if_neg c10] at H
      exact absurd H (by simp)
    ·rw [if_neg c9] at H
     exact absurd H (by simp)
   ·rw [if_neg c8] at H
    have c8b0 : decide (x18_1 < (t256.length : Int)) = false := decide_eq_false c8; clear c8
    by_cases c14 : t259 = true
    ·subst c14
     have H1 : (if x8_1.toList = ([] : List UInt8) then (some ((⟨#[]⟩ : ByteArray), false)) else (some (x8_1, true))) = some (r1, r2) := by rw [if_pos rfl] at H; exact H
     clear H; have H := H1; clear H1
     by_cases c15 : x8_1.toList = ([] : List UInt8)
     ·rw [if_pos c15] at H
      have c15b0 : (x8_1.toList == ([] : List UInt8)) = true := beq_iff_eq.mpr c15; have c15b1 : (x8_1.toList != ([] : List UInt8)) = false := bne_eq_false_iff_eq.mpr c15; clear c15
      simp only [Option.some.injEq, Prod.mk.injEq] at H
      obtain ⟨rfl, rfl⟩ := H
      go_wp2
      go_ret2
      exact ⟨by first | rfl | (simp [errW_none, errW_some] <;> rfl) | (simp [*, errW_none, errW_some] <;> rfl), Bq⟩
     ·rw [if_neg c15] at H
      have c15b0 : (x8_1.toList == ([] : List UInt8)) = false := beq_eq_false_iff_ne.mpr c15; have c15b1 : (x8_1.toList != ([] : List UInt8)) = true := bne_iff_ne.mpr c15
      simp only [Option.some.injEq, Prod.mk.injEq] at H
      obtain ⟨rfl, rfl⟩ := H
      go_wp2
      go_ret2
      exact ⟨by first | rfl | (simp [errW_none, errW_some] <;> rfl) | (simp [*, errW_none, errW_some] <;> rfl), Bq⟩
    ·replace c14 := Bool.eq_false_iff.mpr c14
     subst c14
     have H1 : (some ((⟨#[]⟩ : ByteArray), false)) = some (r1, r2) := by rw [if_neg (show ¬ (false = true) by decide)] at H; exact H
     clear H; have H := H1; clear H1
     simp only [Option.some.injEq, Prod.mk.injEq] at H
     obtain ⟨rfl, rfl⟩ := H
     go_wp2
     go_ret2
     exact ⟨by first | rfl | (simp [errW_none, errW_some] <;> rfl) | (simp [*, errW_none, errW_some] <;> rfl), Bq⟩

def impl_LongestKey.l0 : Nat → ByteArray → ByteArray → List ByteArray → Int → Int → Option (ByteArray × Bool)
 | 0, _, _, _, _, _ => none
 | k + 1, x1, x8, x15, x16, x17 => if x17 < x16 then (if 0 ≤ x17 then (if x17 < (x15.length : Int) then ((strings_HasPrefix.f x1 (rdOf ByteArray.empty x15 x17)).bind fun t440 => (if t440 = true then (if ((rdOf ByteArray.empty x15 x17).size : Int) > (x8.size : Int) then (impl_LongestKey.l0 k x1 (rdOf ByteArray.empty x15 x17) x15 x16 (wrap64 (x17 + 1))) else (impl_LongestKey.l0 k x1 x8 x15 x16 (wrap64 (x17 + 1)))) else (impl_LongestKey.l0 k x1 x8 x15 x16 (wrap64 (x17 + 1))))) else (none)) else (none)) else (some (x8, (x8.toList != ([] : List UInt8))))
def impl_LongestKey.f (k : Nat) (a0_0 : Int) (l0_1 : List Int) (a0_2 : Int) (l0_3 : List Int) (a0_4 : ByteArray) (a1 : ByteArray) : Option (ByteArray × Bool) := (impl_Trie_keys.f k a0_0 l0_1 a0_2 l0_3 a0_4).bind fun bt435 => (impl_LongestKey.l0 k a1 (⟨#[]⟩ : ByteArray) bt435.1 (bt435.1.length : Int) 0)
theorem impl_LongestKey.mono_l : ∀ k, (∀ y0 y1 y2 y3 y4, LeO (impl_LongestKey.l0 k y0 y1 y2 y3 y4) (impl_LongestKey.l0 (k + 1) y0 y1 y2 y3 y4))
 | 0 => fun _ _ _ _ _ r h => by simp [impl_LongestKey.l0] at h
 | k + 1 => by
  have ih0 := impl_LongestKey.mono_l k
  ·intro y0 y1 y2 y3 y4
   unfold impl_LongestKey.l0
   repeat' first | (with_reducible first | exact ih0 _ _ _ _ _ | exact impl_Trie_keys.mono _ _ _ _ _ _ | exact LeO.refl _ | exact LeO.none _ | refine LeO.ite ?_ ?_ | refine LeO.bind ?_ (fun _ => ?_)) | exact LeO.none _ | refine LeO.ite ?_ ?_ | refine LeO.bind ?_ (fun _ => ?_)
theorem impl_LongestKey.mono : ∀ a0 a1 a2 a3 a4 a5 k, LeO (impl_LongestKey.f k a0 a1 a2 a3 a4 a5) (impl_LongestKey.f (k + 1) a0 a1 a2 a3 a4 a5) := by
 intro a0 a1 a2 a3 a4 a5 k; have ih0 := impl_LongestKey.mono_l k
 unfold impl_LongestKey.f
 repeat' first | (with_reducible first | exact ih0 _ _ _ _ _ | exact impl_Trie_keys.mono _ _ _ _ _ _ | exact LeO.refl _ | exact LeO.none _ | refine LeO.ite ?_ ?_ | refine LeO.bind ?_ (fun _ => ?_)) | exact LeO.none _ | refine LeO.ite ?_ ?_ | refine LeO.bind ?_ (fun _ => ?_)
set_option maxHeartbeats 8000000 in
set_option maxRecDepth 100000 in
theorem impl_LongestKey.calls (k : Nat) (a0_0 : Int) (A0_1 : Option Addr) (c0_1 : Nat) (l0_1 : List Int) (a0_2 : Int) (A0_3 : Option Addr) (c0_3 : Nat) (l0_3 : List Int) (a0_4 : ByteArray) (a1 : ByteArray) (r1 : ByteArray) (r2 : Bool) (w : World) (hr0_1 : Kd.C (Kd.int .i64) w A0_1 l0_1.length l0_1) (hc0_1 : l0_1.length ≤ c0_1) (hr0_3 : Kd.C (Kd.int .i64) w A0_3 l0_3.length l0_3) (hc0_3 : l0_3.length ≤ c0_3) (h : impl_LongestKey.f k a0_0 l0_1 a0_2 l0_3 a0_4 a1 = some (r1, r2)) :
  Calls Try.prog 15 #[.agg #[.int .i64 a0_0, .slice A0_1 l0_1.length c0_1, .int .i64 a0_2, .slice A0_3 l0_3.length c0_3, .string a0_4], .string a1] w fun e w' => e = .returned (.tuple #[.string r1, .bool r2]) ∧ Below w.heap.size w w' := by
 have hu32 := Try.underlying32; have HR0_1 := Aside0.mk hr0_1; have HC0_1 := Aside0.mk hc0_1; clear hr0_1 hc0_1; have HR0_3 := Aside0.mk hr0_3; have HC0_3 := Aside0.mk hc0_3; clear hr0_3 hc0_3; have HB := Aside0.mk (Below.refl w.heap.size w); have H : ((impl_Trie_keys.f k a0_0 l0_1 a0_2 l0_3 a0_4).bind fun bt435 => (impl_LongestKey.l0 k a1 (⟨#[]⟩ : ByteArray) bt435.1 (bt435.1.length : Int) 0)) = some (r1, r2) := h; clear h; replace H := Option.bind_eq_some_iff.mp H; obtain ⟨⟨t435, t436⟩, A30, H⟩ := H; replace H : (impl_LongestKey.l0 k a1 (⟨#[]⟩ : ByteArray) t435 (t435.length : Int) 0) = some (r1, r2) := H; have A3 := Aside0.mk A30; clear A30; have H' := Aside0.mk H; clear H
 go_enter Try.func15, Try.ntmps15
 go_wp2_with (first | ((with_reducible refine gate_dst (N := 2) rfl ?_); (try (refine gate_guard (by rfl) ?_; dsimp only)); refine bE 2 #[.int .i64 a0_0, .slice A0_1 l0_1.length c0_1, .int .i64 a0_2, .slice A0_3 l0_3.length c0_3, .string a0_4] 32 ?_; intro gb434 hg w4 hbox hb; have n0_ := Bb HB hb; have n1_ := Aside0.mk (hbox); have n2_ := Gl HB hg; have n3_ := Gl HB hg; clear HB; revert n0_ n1_ n2_ n3_; intro HB BK434 GW434 GE434; clear hb hbox hg) | ((with_reducible refine gate_callee (f := 43) rfl ?_); refine gL (some 12) Try.func43 #[.pointer (some ⟨gb434, 0, none⟩)] ?_; (with_reducible refine (impl_Trie_keys.calls k gb434 a0_0 A0_1 c0_1 l0_1 a0_2 A0_3 c0_3 l0_3 a0_4 t435 t436 _ ?side1 ?side2 ?side3 ?side4 ?side5 A3.out).mono ?_); (case side1 => (with_reducible repeat (first | refine blk_drewN ?_ _ | refine blk_drew ?_ | refine blk_alloc ?_ _)); exact BK434.out); (case side2 => exact Cz (Kd.C_below HR0_1.out HB.out)); (case side3 => exact HC0_1.out); (case side4 => exact Cz (Kd.C_below HR0_3.out HB.out)); (case side5 => exact HC0_3.out); rintro e w5 ⟨v437, rfl, ho0, hb⟩; refine ⟨_, rfl, ?_⟩; have n0_ := Rm ho0 HB; have n1_ := Kb BK434 hb; have n2_ := Bc HB hb; clear BK434 HB; revert n0_ n1_ n2_; intro HO438 BK434 HB; (try clear hb); (try clear hb2); (try clear hk); (try clear hi); (try clear ho0); obtain ⟨Ao6, co6, eo6⟩ := Kd.R_slice HO438.out; subst eo6))
 (try simp only [Act.put, List.setIfInBounds_toArray, List.set_cons_zero, List.set_cons_succ])
 go_loopg [8, 17] k (fun kq v8 v17 w' => ∃ (x8_1 : ByteArray) (x17_1 : Int), v8 = .string x8_1 ∧ v17 = .int .i64 x17_1 ∧ Aside0 (impl_LongestKey.l0 kq a1 x8_1 t435 (t435.length : Int) x17_1 = some (r1, r2)) ∧ Aside0 (kq ≤ k) ∧ Aside0 (Kd.R Kd.string 9 w' w.heap.size (fun _ => True) (.slice Ao6 t435.length co6) t435) ∧ Aside0 (w'.heap[gb434]? = some (.cells #[.int .i64 a0_0, (.slice A0_1 l0_1.length c0_1), .int .i64 a0_2, (.slice A0_3 l0_3.length c0_3), .string a0_4] 32 (0, 0))) ∧ Aside0 (Below w.heap.size w w'))
 case atStart => exact ⟨((⟨#[]⟩ : ByteArray)), (0), (by first | rfl | (simp; done) | (simp [*]; done)), (by first | rfl | (simp; done) | (simp [*]; done)), H', ⟨Nat.le_refl _⟩, ⟨Rz HO438.out⟩, ⟨Kz BK434.out⟩, ⟨Bq⟩⟩
 case round =>
  clear H'
  try clear c1
  try clear p2
  try clear c4
  obtain ⟨x8_1, x17_1, rfl, rfl, HA, HK1, HO_15, BK434, HB⟩ := hrel; cases gk with
  | zero => exact absurd HA.out (by simp [impl_LongestKey.l0])
  | succ k1 =>
   have H := HA.out; clear HA
   simp only [impl_LongestKey.l0] at H
   by_cases c7 : x17_1 < (t435.length : Int)
   ·rw [if_pos c7] at H
    have c7b0 : decide (x17_1 < (t435.length : Int)) = true := decide_eq_true c7; clear c7
    by_cases c8 : 0 ≤ x17_1
    ·rw [if_pos c8] at H
     have c8b0 : decide (0 ≤ x17_1) = true := decide_eq_true c8; clear c8
     by_cases c9 : x17_1 < (t435.length : Int)
     ·rw [if_pos c9] at H
      have c9b0 : decide (x17_1 < (t435.length : Int)) = true := decide_eq_true c9; clear c9; replace H := Option.bind_eq_some_iff.mp H; obtain ⟨t440, A100, H⟩ := H; replace H : (if t440 = true then (if ((rdOf ByteArray.empty t435 x17_1).size : Int) > (x8_1.size : Int) then (impl_LongestKey.l0 k1 a1 (rdOf ByteArray.empty t435 x17_1) t435 (t435.length : Int) (wrap64 (x17_1 + 1))) else (impl_LongestKey.l0 k1 a1 x8_1 t435 (t435.length : Int) (wrap64 (x17_1 + 1)))) else (impl_LongestKey.l0 k1 a1 x8_1 t435 (t435.length : Int) (wrap64 (x17_1 + 1)))) = some (r1, r2) := H; have A10 := Aside0.mk A100; clear A100
      by_cases c11 : t440 = true
      ·subst c11
       have H1 : (if ((rdOf ByteArray.empty t435 x17_1).size : Int) > (x8_1.size : Int) then (impl_LongestKey.l0 k1 a1 (rdOf ByteArray.empty t435 x17_1) t435 (t435.length : Int) (wrap64 (x17_1 + 1))) else (impl_LongestKey.l0 k1 a1 x8_1 t435 (t435.length : Int) (wrap64 (x17_1 + 1)))) = some (r1, r2) := by rw [if_pos rfl] at H; exact H
       clear H; have H := H1; clear H1
       by_cases c12 : ((rdOf ByteArray.empty t435 x17_1).size : Int) > (x8_1.size : Int)
       ·rw [if_pos c12] at H
        have c12b0 : decide ((x8_1.size : Int) < ((rdOf ByteArray.empty t435 x17_1).size : Int)) = true := decide_eq_true c12; have c12b1 : decide (x8_1.size < (rdOf ByteArray.empty t435 x17_1).size) = true := decide_eq_true (Int.ofNat_lt.mp c12); clear c12; have H' := Aside0.mk H; clear H; have p439 : 0 ≤ (x17_1 : Int) := dT; have q439 : x17_1 < (t435.length : Int) := dT; obtain ⟨ad439, e439, hx439_0⟩ := Kd.at_string (Kd.R_reads' HO_15.out).2.2 x17_1 p439 q439; cases e439; replace p439 := eq_true p439; replace q439 := eq_true q439
        go_wp2_with (first | ((with_reducible refine gate_callee (f := 44) rfl ?_); refine gL (some 23) Try.func44 #[.string a1, .string (rdOf ByteArray.empty t435 x17_1)] ?_; (with_reducible refine (strings_HasPrefix.calls a1 (rdOf ByteArray.empty t435 x17_1) true _ A10.out).mono ?_); rintro e w' ⟨rfl, ⟨nd, rfl⟩⟩; refine ⟨_, rfl, ?_⟩))
        go_roundg k1
        case measure => have := HK1.out; omega
        case rel => exact ⟨(rdOf ByteArray.empty t435 x17_1), (wrap64 (x17_1 + 1)), (by first | rfl | (simp; done) | (simp [*]; done)), (by first | rfl | (simp; done) | (simp [*]; done)), H', ⟨by have := HK1.out; omega⟩, ⟨Rz HO_15.out⟩, ⟨Kz BK434.out⟩, ⟨Bq⟩⟩
       ·rw [if_neg c12] at H
        have c12b0 : decide ((x8_1.size : Int) < ((rdOf ByteArray.empty t435 x17_1).size : Int)) = false := decide_eq_false c12; have c12b1 : decide (x8_1.size < (rdOf ByteArray.empty t435 x17_1).size) = false := decide_eq_false (fun h => c12 (Int.ofNat_lt.mpr h)); clear c12; have H' := Aside0.mk H; clear H; have p439 : 0 ≤ (x17_1 : Int) := dT; have q439 : x17_1 < (t435.length : Int) := dT; obtain ⟨ad439, e439, hx439_0⟩ := Kd.at_string (Kd.R_reads' HO_15.out).2.2 x17_1 p439 q439; cases e439; replace p439 := eq_true p439; replace q439 := eq_true q439
        go_wp2_with (first | ((with_reducible refine gate_callee (f := 44) rfl ?_); refine gL (some 23) Try.func44 #[.string a1, .string (rdOf ByteArray.empty t435 x17_1)] ?_; (with_reducible refine (strings_HasPrefix.calls a1 (rdOf ByteArray.empty t435 x17_1) true _ A10.out).mono ?_); rintro e w' ⟨rfl, ⟨nd, rfl⟩⟩; refine ⟨_, rfl, ?_⟩))
        go_roundg k1
        case measure => have := HK1.out; omega
        case rel => exact ⟨(x8_1), (wrap64 (x17_1 + 1)), (by first | rfl | (simp; done) | (simp [*]; done)), (by first | rfl | (simp; done) | (simp [*]; done)), H', ⟨by have := HK1.out; omega⟩, ⟨Rz HO_15.out⟩, ⟨Kz BK434.out⟩, ⟨Bq⟩⟩
      ·replace c11 := Bool.eq_false_iff.mpr c11
       subst c11
       have H1 : (impl_LongestKey.l0 k1 a1 x8_1 t435 (t435.length : Int) (wrap64 (x17_1 + 1))) = some (r1, r2) := by rw [if_neg (show ¬ (false = true) by decide)] at H; exact H
       clear H; have H := H1; clear H1; have H' := Aside0.mk H; clear H; have p439 : 0 ≤ (x17_1 : Int) := dT; have q439 : x17_1 < (t435.length : Int) := dT; obtain ⟨ad439, e439, hx439_0⟩ := Kd.at_string (Kd.R_reads' HO_15.out).2.2 x17_1 p439 q439; cases e439; replace p439 := eq_true p439; replace q439 := eq_true q439
       go_wp2_with (first | ((with_reducible refine gate_callee (f := 44) rfl ?_); refine gL (some 23) Try.func44 #[.string a1, .string (rdOf ByteArray.empty t435 x17_1)] ?_; (with_reducible refine (strings_HasPrefix.calls a1 (rdOf ByteArray.empty t435 x17_1) false _ A10.out).mono ?_); rintro e w' ⟨rfl, ⟨nd, rfl⟩⟩; refine ⟨_, rfl, ?_⟩))
       go_roundg k1
       case measure => have := HK1.out; omega
       case rel => exact ⟨(x8_1), (wrap64 (x17_1 + 1)), (by first | rfl | (simp; done) | (simp [*]; done)), (by first | rfl | (simp; done) | (simp [*]; done)), H', ⟨by have := HK1.out; omega⟩, ⟨Rz HO_15.out⟩, ⟨Kz BK434.out⟩, ⟨Bq⟩⟩
     ·rw [if_neg c9] at H
      exact absurd H (by simp)
    ·rw [if_neg c8] at H
     exact absurd H (by simp)
   ·rw [if_neg c7] at H
    have c7b0 : decide (x17_1 < (t435.length : Int)) = false := decide_eq_false c7; clear c7
    simp only [Option.some.injEq, Prod.mk.injEq] at H
    obtain ⟨rfl, rfl⟩ := H
    go_wp2
    go_ret2
    exact ⟨by first | rfl | (simp [errW_none, errW_some] <;> rfl) | (simp [*, errW_none, errW_some] <;> rfl) | (simp [errW_none, errW_some]; exact (fun (l : List UInt8) => (by cases l <;> rfl : l.isEmpty = !(l != []))) _), Bq⟩

def laws_FnExactLongestKey.j0 : Nat → Bool → Int → List Int → Int → List Int → ByteArray → Int → List Int → Int → List Int → ByteArray → Option (Bool)
 | 0, _, _, _, _, _, _, _, _, _, _, _ => none
 | k + 1, x41, x451000, x451001, x451002, x451003, x451004, x473000, x473001, x473002, x473003, x473004 => if x41 = true then (some false) else ((laws_toTrie.f k x451000 x451001 x451002 x451003 x451004).bind fun bt475 => ((laws_eqTrie.f k x473000 x473001 x473002 x473003 x473004 bt475.1 bt475.2.1 bt475.2.2.1 bt475.2.2.2.1 bt475.2.2.2.2).bind fun t484 => (if t484 = true then (some true) else (some false))))
def laws_FnExactLongestKey.f (k : Nat) (a0_0 : Int) (l0_1 : List Int) (a0_2 : Int) (l0_3 : List Int) (a0_4 : ByteArray) (a1 : ByteArray) : Option (Bool) := if (a1.size : Int) > 1048576 then (some true) else ((laws_szTrie.f a0_0 l0_1 a0_2 l0_3 a0_4 1048576).bind fun t451 => (if t451 < 0 then (some true) else ((laws_toTrie.f k a0_0 l0_1 a0_2 l0_3 a0_4).bind fun bt452 => ((spec_LongestKey.f k bt452.1 bt452.2.1 bt452.2.2.1 bt452.2.2.2.1 bt452.2.2.2.2 a1).bind fun bt461 => ((laws_toTrie.f k a0_0 l0_1 a0_2 l0_3 a0_4).bind fun bt463 => ((impl_LongestKey.f k bt463.1 bt463.2.1 bt463.2.2.1 bt463.2.2.2.1 bt463.2.2.2.2 a1).bind fun bt473 => (if bt473.1.toList = bt461.1.toList then (laws_FnExactLongestKey.j0 k (bt473.2 != bt461.2) a0_0 l0_1 a0_2 l0_3 a0_4 bt463.1 bt463.2.1 bt463.2.2.1 bt463.2.2.2.1 bt463.2.2.2.2) else (laws_FnExactLongestKey.j0 k true a0_0 l0_1 a0_2 l0_3 a0_4 bt463.1 bt463.2.1 bt463.2.2.1 bt463.2.2.2.1 bt463.2.2.2.2))))))))
theorem laws_FnExactLongestKey.mono_l : ∀ k, (∀ y0 y1 y2 y3 y4 y5 y6 y7 y8 y9 y10, LeO (laws_FnExactLongestKey.j0 k y0 y1 y2 y3 y4 y5 y6 y7 y8 y9 y10) (laws_FnExactLongestKey.j0 (k + 1) y0 y1 y2 y3 y4 y5 y6 y7 y8 y9 y10))
 | 0 => fun _ _ _ _ _ _ _ _ _ _ _ r h => by simp [laws_FnExactLongestKey.j0] at h
 | k + 1 => by
  have ih0 := laws_FnExactLongestKey.mono_l k
  ·intro y0 y1 y2 y3 y4 y5 y6 y7 y8 y9 y10
   unfold laws_FnExactLongestKey.j0
   repeat' first | (with_reducible first | exact ih0 _ _ _ _ _ _ _ _ _ _ _ | exact impl_LongestKey.mono _ _ _ _ _ _ _ | exact laws_eqTrie.mono _ _ _ _ _ _ _ _ _ _ _ | exact laws_toTrie.mono _ _ _ _ _ _ | exact spec_LongestKey.mono _ _ _ _ _ _ _ | exact LeO.refl _ | exact LeO.none _ | refine LeO.ite ?_ ?_ | refine LeO.bind ?_ (fun _ => ?_)) | exact LeO.none _ | refine LeO.ite ?_ ?_ | refine LeO.bind ?_ (fun _ => ?_)
theorem laws_FnExactLongestKey.mono : ∀ a0 a1 a2 a3 a4 a5 k, LeO (laws_FnExactLongestKey.f k a0 a1 a2 a3 a4 a5) (laws_FnExactLongestKey.f (k + 1) a0 a1 a2 a3 a4 a5) := by
 intro a0 a1 a2 a3 a4 a5 k; have ih0 := laws_FnExactLongestKey.mono_l k
 unfold laws_FnExactLongestKey.f
 repeat' first | (with_reducible first | exact ih0 _ _ _ _ _ _ _ _ _ _ _ | exact impl_LongestKey.mono _ _ _ _ _ _ _ | exact laws_eqTrie.mono _ _ _ _ _ _ _ _ _ _ _ | exact laws_toTrie.mono _ _ _ _ _ _ | exact spec_LongestKey.mono _ _ _ _ _ _ _ | exact LeO.refl _ | exact LeO.none _ | refine LeO.ite ?_ ?_ | refine LeO.bind ?_ (fun _ => ?_)) | exact LeO.none _ | refine LeO.ite ?_ ?_ | refine LeO.bind ?_ (fun _ => ?_)
set_option maxHeartbeats 8000000 in
set_option maxRecDepth 100000 in
theorem laws_FnExactLongestKey.calls (k : Nat) (a0_0 : Int) (A0_1 : Option Addr) (c0_1 : Nat) (l0_1 : List Int) (a0_2 : Int) (A0_3 : Option Addr) (c0_3 : Nat) (l0_3 : List Int) (a0_4 : ByteArray) (a1 : ByteArray) (r : Bool) (w : World) (hr0_1 : Kd.C (Kd.int .i64) w A0_1 l0_1.length l0_1) (hc0_1 : l0_1.length ≤ c0_1) (hr0_3 : Kd.C (Kd.int .i64) w A0_3 l0_3.length l0_3) (hc0_3 : l0_3.length ≤ c0_3) (h : laws_FnExactLongestKey.f k a0_0 l0_1 a0_2 l0_3 a0_4 a1 = some r) :
  Calls Try.prog 3 #[.agg #[.int .i64 a0_0, .slice A0_1 l0_1.length c0_1, .int .i64 a0_2, .slice A0_3 l0_3.length c0_3, .string a0_4], .string a1] w fun e w' => e = .returned (.bool r) ∧ Below w.heap.size w w' := by
 have hu26 := Try.underlying26; have hu32 := Try.underlying32; have HR0_1 := Aside0.mk hr0_1; have HC0_1 := Aside0.mk hc0_1; clear hr0_1 hc0_1; have HR0_3 := Aside0.mk hr0_3; have HC0_3 := Aside0.mk hc0_3; clear hr0_3 hc0_3; have HB := Aside0.mk (Below.refl w.heap.size w); have H : (if (a1.size : Int) > 1048576 then (some true) else ((laws_szTrie.f a0_0 l0_1 a0_2 l0_3 a0_4 1048576).bind fun t451 => (if t451 < 0 then (some true) else ((laws_toTrie.f k a0_0 l0_1 a0_2 l0_3 a0_4).bind fun bt452 => ((spec_LongestKey.f k bt452.1 bt452.2.1 bt452.2.2.1 bt452.2.2.2.1 bt452.2.2.2.2 a1).bind fun bt461 => ((laws_toTrie.f k a0_0 l0_1 a0_2 l0_3 a0_4).bind fun bt463 => ((impl_LongestKey.f k bt463.1 bt463.2.1 bt463.2.2.1 bt463.2.2.2.1 bt463.2.2.2.2 a1).bind fun bt473 => (if bt473.1.toList = bt461.1.toList then (laws_FnExactLongestKey.j0 k (bt473.2 != bt461.2) a0_0 l0_1 a0_2 l0_3 a0_4 bt463.1 bt463.2.1 bt463.2.2.1 bt463.2.2.2.1 bt463.2.2.2.2) else (laws_FnExactLongestKey.j0 k true a0_0 l0_1 a0_2 l0_3 a0_4 bt463.1 bt463.2.1 bt463.2.2.1 bt463.2.2.2.1 bt463.2.2.2.2))))))))) = some r := h; clear h
 by_cases c3 : (a1.size : Int) > 1048576
 ·rw [if_pos c3] at H
  have c3b0 : decide (1048576 < (a1.size : Int)) = true := decide_eq_true c3; have c3b1 : decide (1048576 < a1.size) = true := decide_eq_true (by omega); clear c3; obtain rfl := Option.some.inj H
  go_enter Try.func3, Try.ntmps3
  go_wp2_with (first | ((with_reducible refine gate_dst (N := 2) rfl ?_); refine bE 2 #[.int .i64 a0_0, .slice A0_1 l0_1.length c0_1, .int .i64 a0_2, .slice A0_3 l0_3.length c0_3, .string a0_4] 26 ?_; intro gb450 hg w4 hbox hb; have n0_ := Bb HB hb; have n1_ := Aside0.mk (hbox); have n2_ := Gl HB hg; have n3_ := Gl HB hg; clear HB; revert n0_ n1_ n2_ n3_; intro HB BK450 GW450 GE450; clear hb hbox hg))
  go_ret
  exact ⟨by first | rfl | (simp [errW_none, errW_some] <;> rfl) | (simp [*, errW_none, errW_some] <;> rfl), Bq⟩
 ·rw [if_neg c3] at H
  have c3b0 : decide (1048576 < (a1.size : Int)) = false := decide_eq_false c3; have c3b1 : decide (1048576 < a1.size) = false := decide_eq_false (by omega); clear c3; replace H := Option.bind_eq_some_iff.mp H; obtain ⟨t451, A50, H⟩ := H; replace H : (if t451 < 0 then (some true) else ((laws_toTrie.f k a0_0 l0_1 a0_2 l0_3 a0_4).bind fun bt452 => ((spec_LongestKey.f k bt452.1 bt452.2.1 bt452.2.2.1 bt452.2.2.2.1 bt452.2.2.2.2 a1).bind fun bt461 => ((laws_toTrie.f k a0_0 l0_1 a0_2 l0_3 a0_4).bind fun bt463 => ((impl_LongestKey.f k bt463.1 bt463.2.1 bt463.2.2.1 bt463.2.2.2.1 bt463.2.2.2.2 a1).bind fun bt473 => (if bt473.1.toList = bt461.1.toList then (laws_FnExactLongestKey.j0 k (bt473.2 != bt461.2) a0_0 l0_1 a0_2 l0_3 a0_4 bt463.1 bt463.2.1 bt463.2.2.1 bt463.2.2.2.1 bt463.2.2.2.2) else (laws_FnExactLongestKey.j0 k true a0_0 l0_1 a0_2 l0_3 a0_4 bt463.1 bt463.2.1 bt463.2.2.1 bt463.2.2.2.1 bt463.2.2.2.2))))))) = some r := H; have A5 := Aside0.mk A50; clear A50
  by_cases c6 : t451 < 0
  ·rw [if_pos c6] at H
   have c6b0 : decide (t451 < 0) = true := decide_eq_true c6; clear c6; obtain rfl := Option.some.inj H
   go_enter Try.func3, Try.ntmps3
   go_wp2_with (first | ((with_reducible refine gate_dst (N := 2) rfl ?_); refine bE 2 #[.int .i64 a0_0, .slice A0_1 l0_1.length c0_1, .int .i64 a0_2, .slice A0_3 l0_3.length c0_3, .string a0_4] 26 ?_; intro gb450 hg w7 hbox hb; have n0_ := Bb HB hb; have n1_ := Aside0.mk (hbox); have n2_ := Gl HB hg; have n3_ := Gl HB hg; clear HB; revert n0_ n1_ n2_ n3_; intro HB BK450 GW450 GE450; clear hb hbox hg; obtain ⟨hcz8_0, hcz8_1, hcz8_2, hcz8_3, hcz8_4, hfz8_0, hfz8_1, hfz8_2, hfz8_3, hfz8_4⟩ := cf5 (w := w7) BK450) | ((with_reducible refine gate_callee (f := 12) rfl ?_); refine gL (some 16) Try.func12 #[.agg #[.int .i64 a0_0, .slice A0_1 l0_1.length c0_1, .int .i64 a0_2, .slice A0_3 l0_3.length c0_3, .string a0_4], .int .i64 1048576] ?_; (with_reducible refine (laws_szTrie.calls a0_0 _ _ l0_1 a0_2 _ _ l0_3 a0_4 1048576 t451 _ ?side1 ?side2 ?side3 ?side4 A5.out).mono ?_); (case side1 => exact Cz (Kd.C_below HR0_1.out HB.out)); (case side2 => exact HC0_1.out); (case side3 => exact Cz (Kd.C_below HR0_3.out HB.out)); (case side4 => exact HC0_3.out); rintro e w9 ⟨rfl, hb⟩; refine ⟨_, rfl, ?_⟩; have n0_ := Kb BK450 hb; have n1_ := Bc HB hb; clear BK450 HB; revert n0_ n1_; intro BK450 HB; (try clear hb); (try clear hb2); (try clear hk); (try clear hi)))
   go_ret
   exact ⟨by first | rfl | (simp [errW_none, errW_some] <;> rfl) | (simp [*, errW_none, errW_some] <;> rfl), Bq⟩
  ·rw [if_neg c6] at H
   have c6b0 : decide (t451 < 0) = false := decide_eq_false c6; clear c6; replace H := Option.bind_eq_some_iff.mp H; obtain ⟨⟨t452, t453, t456, t457, t460⟩, A100, H⟩ := H; replace H : ((spec_LongestKey.f k t452 t453 t456 t457 t460 a1).bind fun bt461 => ((laws_toTrie.f k a0_0 l0_1 a0_2 l0_3 a0_4).bind fun bt463 => ((impl_LongestKey.f k bt463.1 bt463.2.1 bt463.2.2.1 bt463.2.2.2.1 bt463.2.2.2.2 a1).bind fun bt473 => (if bt473.1.toList = bt461.1.toList then (laws_FnExactLongestKey.j0 k (bt473.2 != bt461.2) a0_0 l0_1 a0_2 l0_3 a0_4 bt463.1 bt463.2.1 bt463.2.2.1 bt463.2.2.2.1 bt463.2.2.2.2) else (laws_FnExactLongestKey.j0 k true a0_0 l0_1 a0_2 l0_3 a0_4 bt463.1 bt463.2.1 bt463.2.2.1 bt463.2.2.2.1 bt463.2.2.2.2))))) = some r := H; have A10 := Aside0.mk A100; clear A100; replace H := Option.bind_eq_some_iff.mp H; obtain ⟨⟨t461, t462⟩, A110, H⟩ := H; replace H : ((laws_toTrie.f k a0_0 l0_1 a0_2 l0_3 a0_4).bind fun bt463 => ((impl_LongestKey.f k bt463.1 bt463.2.1 bt463.2.2.1 bt463.2.2.2.1 bt463.2.2.2.2 a1).bind fun bt473 => (if bt473.1.toList = t461.toList then (laws_FnExactLongestKey.j0 k (bt473.2 != t462) a0_0 l0_1 a0_2 l0_3 a0_4 bt463.1 bt463.2.1 bt463.2.2.1 bt463.2.2.2.1 bt463.2.2.2.2) else (laws_FnExactLongestKey.j0 k true a0_0 l0_1 a0_2 l0_3 a0_4 bt463.1 bt463.2.1 bt463.2.2.1 bt463.2.2.2.1 bt463.2.2.2.2)))) = some r := H; have A11 := Aside0.mk A110; clear A110; replace H := Option.bind_eq_some_iff.mp H; obtain ⟨⟨t463, t464, t467, t468, t471⟩, A120, H⟩ := H; replace H : ((impl_LongestKey.f k t463 t464 t467 t468 t471 a1).bind fun bt473 => (if bt473.1.toList = t461.toList then (laws_FnExactLongestKey.j0 k (bt473.2 != t462) a0_0 l0_1 a0_2 l0_3 a0_4 t463 t464 t467 t468 t471) else (laws_FnExactLongestKey.j0 k true a0_0 l0_1 a0_2 l0_3 a0_4 t463 t464 t467 t468 t471))) = some r := H; have A12 := Aside0.mk A120; clear A120; replace H := Option.bind_eq_some_iff.mp H; obtain ⟨⟨t473, t474⟩, A130, H⟩ := H; replace H : (if t473.toList = t461.toList then (laws_FnExactLongestKey.j0 k (t474 != t462) a0_0 l0_1 a0_2 l0_3 a0_4 t463 t464 t467 t468 t471) else (laws_FnExactLongestKey.j0 k true a0_0 l0_1 a0_2 l0_3 a0_4 t463 t464 t467 t468 t471)) = some r := H; have A13 := Aside0.mk A130; clear A130; have HC14 := Aside0.mk H; clear H
   go_enter Try.func3, Try.ntmps3
   go_upto_region 10 with (first | ((with_reducible refine gate_dst (N := 2) rfl ?_); refine bE 2 #[.int .i64 a0_0, .slice A0_1 l0_1.length c0_1, .int .i64 a0_2, .slice A0_3 l0_3.length c0_3, .string a0_4] 26 ?_; intro gb450 hg w15 hbox hb; have n0_ := Bb HB hb; have n1_ := Aside0.mk (hbox); have n2_ := Gl HB hg; have n3_ := Gl HB hg; clear HB; revert n0_ n1_ n2_ n3_; intro HB BK450 GW450 GE450; clear hb hbox hg; obtain ⟨hcz16_0, hcz16_1, hcz16_2, hcz16_3, hcz16_4, hfz16_0, hfz16_1, hfz16_2, hfz16_3, hfz16_4⟩ := cf5 (w := w15) BK450) | ((with_reducible refine gate_callee (f := 12) rfl ?_); refine gL (some 16) Try.func12 #[.agg #[.int .i64 a0_0, .slice A0_1 l0_1.length c0_1, .int .i64 a0_2, .slice A0_3 l0_3.length c0_3, .string a0_4], .int .i64 1048576] ?_; (with_reducible refine (laws_szTrie.calls a0_0 _ _ l0_1 a0_2 _ _ l0_3 a0_4 1048576 t451 _ ?side1 ?side2 ?side3 ?side4 A5.out).mono ?_); (case side1 => exact Cz (Kd.C_below HR0_1.out HB.out)); (case side2 => exact HC0_1.out); (case side3 => exact Cz (Kd.C_below HR0_3.out HB.out)); (case side4 => exact HC0_3.out); rintro e w17 ⟨rfl, hb⟩; refine ⟨_, rfl, ?_⟩; have n0_ := Kb BK450 hb; have n1_ := Bc HB hb; clear BK450 HB; revert n0_ n1_; intro BK450 HB; (try clear hb); (try clear hb2); (try clear hk); (try clear hi); obtain ⟨hcz18_0, hcz18_1, hcz18_2, hcz18_3, hcz18_4, hfz18_0, hfz18_1, hfz18_2, hfz18_3, hfz18_4⟩ := cf5 (w := w17) BK450) | ((with_reducible refine gate_callee (f := 14) rfl ?_); refine gL (some 21) Try.func14 #[.agg #[.int .i64 a0_0, .slice A0_1 l0_1.length c0_1, .int .i64 a0_2, .slice A0_3 l0_3.length c0_3, .string a0_4]] ?_; (with_reducible refine (laws_toTrie.calls k a0_0 _ _ l0_1 a0_2 _ _ l0_3 a0_4 t452 t453 t456 t457 t460 _ ?side1 ?side2 ?side3 ?side4 A10.out).mono ?_); (case side1 => exact Cz (Kd.C_below HR0_1.out HB.out)); (case side2 => exact HC0_1.out); (case side3 => exact Cz (Kd.C_below HR0_3.out HB.out)); (case side4 => exact HC0_3.out); rintro e w19 ⟨v454, v458, rfl, ho0, ho1, hb⟩; refine ⟨_, rfl, ?_⟩; have n0_ := Rm ho0 HB; have n1_ := Rm ho1 HB; have n2_ := Kb BK450 hb; have n3_ := Bc HB hb; clear BK450 HB; revert n0_ n1_ n2_ n3_; intro HO455 HO459 BK450 HB; (try clear hb); (try clear hb2); (try clear hk); (try clear hi); (try clear ho0); (try clear ho1); obtain ⟨Ao20, co20, eo20⟩ := Kd.R_slice HO455.out; subst eo20; obtain ⟨Ao21, co21, eo21⟩ := Kd.R_slice HO459.out; subst eo21) | ((with_reducible refine gate_callee (f := 13) rfl ?_); refine gL (some 23) Try.func13 #[.agg #[.int .i64 t452, .slice Ao20 t453.length co20, .int .i64 t456, .slice Ao21 t457.length co21, .string t460], .string a1] ?_; (with_reducible refine (spec_LongestKey.calls k t452 _ _ t453 t456 _ _ t457 t460 a1 t461 t462 _ ?side1 ?side2 ?side3 ?side4 A11.out).mono ?_); (case side1 => exact Cz ((Kd.R_reads' HO455.out).2.2)); (case side2 => exact (Kd.R_reads' HO455.out).2.1); (case side3 => exact Cz ((Kd.R_reads' HO459.out).2.2)); (case side4 => exact (Kd.R_reads' HO459.out).2.1); rintro e w22 ⟨rfl, hb⟩; refine ⟨_, rfl, ?_⟩; have n0_ := Rb HO455 hb; have n1_ := Rb HO459 hb; have n2_ := Kb BK450 hb; have n3_ := Bc HB hb; clear HO455 HO459 BK450 HB; revert n0_ n1_ n2_ n3_; intro HO455 HO459 BK450 HB; (try clear hb); (try clear hb2); (try clear hk); (try clear hi); obtain ⟨hcz23_0, hcz23_1, hcz23_2, hcz23_3, hcz23_4, hfz23_0, hfz23_1, hfz23_2, hfz23_3, hfz23_4⟩ := cf5 (w := w22) BK450) | ((with_reducible refine gate_callee (f := 14) rfl ?_); refine gL (some 27) Try.func14 #[.agg #[.int .i64 a0_0, .slice A0_1 l0_1.length c0_1, .int .i64 a0_2, .slice A0_3 l0_3.length c0_3, .string a0_4]] ?_; (with_reducible refine (laws_toTrie.calls k a0_0 _ _ l0_1 a0_2 _ _ l0_3 a0_4 t463 t464 t467 t468 t471 _ ?side1 ?side2 ?side3 ?side4 A12.out).mono ?_); (case side1 => exact Cz (Kd.C_below HR0_1.out HB.out)); (case side2 => exact HC0_1.out); (case side3 => exact Cz (Kd.C_below HR0_3.out HB.out)); (case side4 => exact HC0_3.out); rintro e w24 ⟨v465, v469, rfl, ho0, ho1, hb⟩; refine ⟨_, rfl, ?_⟩; have n0_ := Aside0.mk (Kd.R_mono (Kd.R_told (Kd.R_told (Kd.R_old (Rz HO455.out) hb) (Kd.R_base ho0)) (Kd.R_base ho1)) (fun _ h_ => h_.1)); have n1_ := Aside0.mk (Kd.R_mono (Kd.R_told (Kd.R_told (Kd.R_old (Rz HO459.out) hb) (Kd.R_base ho0)) (Kd.R_base ho1)) (fun _ h_ => h_.1)); have n2_ := Rm (Kd.R_new' (Kd.R_new' ho0 (Kd.R_lt (Rz HO455.out))) (Kd.R_lt (Rz HO459.out))) HB; have n3_ := Rm (Kd.R_new' (Kd.R_new' ho1 (Kd.R_lt (Rz HO455.out))) (Kd.R_lt (Rz HO459.out))) HB; have n4_ := Kb BK450 hb; have n5_ := Bc HB hb; clear HO455 HO459 BK450 HB; revert n0_ n1_ n2_ n3_ n4_ n5_; intro HO455 HO459 HO466 HO470 BK450 HB; (try clear hb); (try clear hb2); (try clear hk); (try clear hi); (try clear ho0); (try clear ho1)) | ((with_reducible refine gate_dst (N := 8) rfl ?_); refine bE 8 #[.int .i64 0, .slice none 0 0, .int .i64 0, .slice none 0 0, .string (⟨#[]⟩ : ByteArray)] 32 ?_; intro gb472 hg w25 hbox hb; have n0_ := Rb HO455 hb; have n1_ := Rb HO459 hb; have n2_ := Rb HO466 hb; have n3_ := Rb HO470 hb; have n4_ := Kb BK450 hb; have n5_ := Bc HB hb; have n6_ := Aside0.mk (hbox); have n7_ := Gm HB hg; have n8_ := Gm HB hg; have n9_ := Nl BK450 hg; have n10_ := Ng BK450 hg; clear HO455 HO459 HO466 HO470 BK450 HB; revert n0_ n1_ n2_ n3_ n4_ n5_ n6_ n7_ n8_ n9_ n10_; intro HO455 HO459 HO466 HO470 BK450 HB BK472 GW472 GE472 NB450_472 NB472_450; clear hb hbox hg; have hnb26 := NB472_450.out; have hnc26 := NB450_472.out; obtain ⟨hcz27_0, hcz27_1, hcz27_2, hcz27_3, hcz27_4, hfz27_0, hfz27_1, hfz27_2, hfz27_3, hfz27_4⟩ := cf5 (w := w25) BK472; obtain ⟨Ao28, co28, eo28⟩ := Kd.R_slice HO466.out; subst eo28; obtain ⟨Ao29, co29, eo29⟩ := Kd.R_slice HO470.out; subst eo29) | ((with_reducible refine gate_callee (f := 15) rfl ?_); refine gL (some 31) Try.func15 #[.agg #[.int .i64 t463, .slice Ao28 t464.length co28, .int .i64 t467, .slice Ao29 t468.length co29, .string t471], .string a1] ?_; (with_reducible refine (impl_LongestKey.calls k t463 _ _ t464 t467 _ _ t468 t471 a1 t473 t474 _ ?side1 ?side2 ?side3 ?side4 A13.out).mono ?_); (case side1 => refine (Kd.R_reads' (e := 3) (base := w.heap.size) (ok := fun k_ => ((some k_ ≠ (.slice Ao29 t468.length co29 : Value).ownBlock ∧ some k_ ≠ (.slice Ao20 t453.length co20 : Value).ownBlock) ∧ some k_ ≠ (.slice Ao21 t457.length co21 : Value).ownBlock)) (n := t464.length) (c := co28) ?_).2.2; exact (Rz (Kd.R_mono (Kd.R_far (p := ⟨gb472, 4, none⟩) (Kd.R_far (p := ⟨gb472, 3, none⟩) (Kd.R_far (p := ⟨gb472, 2, none⟩) (Kd.R_far (p := ⟨gb472, 1, none⟩) (Kd.R_far (p := ⟨gb472, 0, none⟩) (Kd.R_types HO466.out BK472.out (by decide)) (fun _ hk => hk.2) (.int .i64 t463)) (fun _ hk => hk.2) (.slice Ao28 t464.length co28)) (fun _ hk => hk.2) (.int .i64 t467)) (fun _ hk => hk.2) (.slice Ao29 t468.length co29)) (fun _ hk => hk.2) (.string t471)) (fun _ h_ => h_.1)))); (case side2 => exact (Kd.R_reads' HO466.out).2.1); (case side3 => refine (Kd.R_reads' (e := 3) (base := w.heap.size) (ok := fun k_ => ((some k_ ≠ (.slice Ao28 t464.length co28 : Value).ownBlock ∧ some k_ ≠ (.slice Ao20 t453.length co20 : Value).ownBlock) ∧ some k_ ≠ (.slice Ao21 t457.length co21 : Value).ownBlock)) (n := t468.length) (c := co29) ?_).2.2; exact (Rz (Kd.R_mono (Kd.R_far (p := ⟨gb472, 4, none⟩) (Kd.R_far (p := ⟨gb472, 3, none⟩) (Kd.R_far (p := ⟨gb472, 2, none⟩) (Kd.R_far (p := ⟨gb472, 1, none⟩) (Kd.R_far (p := ⟨gb472, 0, none⟩) (Kd.R_types HO470.out BK472.out (by decide)) (fun _ hk => hk.2) (.int .i64 t463)) (fun _ hk => hk.2) (.slice Ao28 t464.length co28)) (fun _ hk => hk.2) (.int .i64 t467)) (fun _ hk => hk.2) (.slice Ao29 t468.length co29)) (fun _ hk => hk.2) (.string t471)) (fun _ h_ => h_.1)))); (case side4 => exact (Kd.R_reads' HO470.out).2.1); rintro e w30 ⟨rfl, hb⟩; refine ⟨_, rfl, ?_⟩; have n0_ := Aside0.mk (Kd.R_below (Rz (Kd.R_mono (Kd.R_far (p := ⟨gb472, 4, none⟩) (Kd.R_far (p := ⟨gb472, 3, none⟩) (Kd.R_far (p := ⟨gb472, 2, none⟩) (Kd.R_far (p := ⟨gb472, 1, none⟩) (Kd.R_far (p := ⟨gb472, 0, none⟩) (Kd.R_types HO455.out BK472.out (by decide)) (fun _ hk => hk.2) (.int .i64 t463)) (fun _ hk => hk.2) (.slice Ao28 t464.length co28)) (fun _ hk => hk.2) (.int .i64 t467)) (fun _ hk => hk.2) (.slice Ao29 t468.length co29)) (fun _ hk => hk.2) (.string t471)) (fun _ h_ => h_.1))) hb); have n1_ := Aside0.mk (Kd.R_below (Rz (Kd.R_mono (Kd.R_far (p := ⟨gb472, 4, none⟩) (Kd.R_far (p := ⟨gb472, 3, none⟩) (Kd.R_far (p := ⟨gb472, 2, none⟩) (Kd.R_far (p := ⟨gb472, 1, none⟩) (Kd.R_far (p := ⟨gb472, 0, none⟩) (Kd.R_types HO459.out BK472.out (by decide)) (fun _ hk => hk.2) (.int .i64 t463)) (fun _ hk => hk.2) (.slice Ao28 t464.length co28)) (fun _ hk => hk.2) (.int .i64 t467)) (fun _ hk => hk.2) (.slice Ao29 t468.length co29)) (fun _ hk => hk.2) (.string t471)) (fun _ h_ => h_.1))) hb); have n2_ := Aside0.mk (Kd.R_below (Rz (Kd.R_mono (Kd.R_far (p := ⟨gb472, 4, none⟩) (Kd.R_far (p := ⟨gb472, 3, none⟩) (Kd.R_far (p := ⟨gb472, 2, none⟩) (Kd.R_far (p := ⟨gb472, 1, none⟩) (Kd.R_far (p := ⟨gb472, 0, none⟩) (Kd.R_types HO466.out BK472.out (by decide)) (fun _ hk => hk.2) (.int .i64 t463)) (fun _ hk => hk.2) (.slice Ao28 t464.length co28)) (fun _ hk => hk.2) (.int .i64 t467)) (fun _ hk => hk.2) (.slice Ao29 t468.length co29)) (fun _ hk => hk.2) (.string t471)) (fun _ h_ => h_.1))) hb); have n3_ := Aside0.mk (Kd.R_below (Rz (Kd.R_mono (Kd.R_far (p := ⟨gb472, 4, none⟩) (Kd.R_far (p := ⟨gb472, 3, none⟩) (Kd.R_far (p := ⟨gb472, 2, none⟩) (Kd.R_far (p := ⟨gb472, 1, none⟩) (Kd.R_far (p := ⟨gb472, 0, none⟩) (Kd.R_types HO470.out BK472.out (by decide)) (fun _ hk => hk.2) (.int .i64 t463)) (fun _ hk => hk.2) (.slice Ao28 t464.length co28)) (fun _ hk => hk.2) (.int .i64 t467)) (fun _ hk => hk.2) (.slice Ao29 t468.length co29)) (fun _ hk => hk.2) (.string t471)) (fun _ h_ => h_.1))) hb); have n4_ := Aside0.mk (blk_below (g := gb450) (o := .cells #[.int .i64 a0_0, .slice A0_1 l0_1.length c0_1, .int .i64 a0_2, .slice A0_3 l0_3.length c0_3, .string a0_4] 26 (0, 0)) (by (with_reducible repeat (first | refine blk_drewN ?_ _ | refine blk_drew ?_ | refine blk_alloc ?_ _)); refine blk_far ?_ NB450_472.out _; (with_reducible repeat (first | refine blk_drewN ?_ _ | refine blk_drew ?_ | refine blk_alloc ?_ _)); refine blk_far ?_ NB450_472.out _; (with_reducible repeat (first | refine blk_drewN ?_ _ | refine blk_drew ?_ | refine blk_alloc ?_ _)); refine blk_far ?_ NB450_472.out _; (with_reducible repeat (first | refine blk_drewN ?_ _ | refine blk_drew ?_ | refine blk_alloc ?_ _)); refine blk_far ?_ NB450_472.out _; (with_reducible repeat (first | refine blk_drewN ?_ _ | refine blk_drew ?_ | refine blk_alloc ?_ _)); refine blk_far ?_ NB450_472.out _; (with_reducible repeat (first | refine blk_drewN ?_ _ | refine blk_drew ?_ | refine blk_alloc ?_ _)); exact BK450.out) hb); have n5_ := Aside0.mk (blk_below (g := gb472) (o := .cells #[.int .i64 t463, .slice Ao28 t464.length co28, .int .i64 t467, .slice Ao29 t468.length co29, .string t471] 32 (0, 0)) (by (with_reducible repeat (first | refine blk_drewN ?_ _ | refine blk_drew ?_ | refine blk_alloc ?_ _)); refine blk_put (cs := #[.int .i64 t463, .slice Ao28 t464.length co28, .int .i64 t467, .slice Ao29 t468.length co29, .string (⟨#[]⟩ : ByteArray)]) ?_ 4 _ rfl; (with_reducible repeat (first | refine blk_drewN ?_ _ | refine blk_drew ?_ | refine blk_alloc ?_ _)); refine blk_put (cs := #[.int .i64 t463, .slice Ao28 t464.length co28, .int .i64 t467, .slice none 0 0, .string (⟨#[]⟩ : ByteArray)]) ?_ 3 _ rfl; (with_reducible repeat (first | refine blk_drewN ?_ _ | refine blk_drew ?_ | refine blk_alloc ?_ _)); refine blk_put (cs := #[.int .i64 t463, .slice Ao28 t464.length co28, .int .i64 0, .slice none 0 0, .string (⟨#[]⟩ : ByteArray)]) ?_ 2 _ rfl; (with_reducible repeat (first | refine blk_drewN ?_ _ | refine blk_drew ?_ | refine blk_alloc ?_ _)); refine blk_put (cs := #[.int .i64 t463, .slice none 0 0, .int .i64 0, .slice none 0 0, .string (⟨#[]⟩ : ByteArray)]) ?_ 1 _ rfl; (with_reducible repeat (first | refine blk_drewN ?_ _ | refine blk_drew ?_ | refine blk_alloc ?_ _)); refine blk_put (cs := #[.int .i64 0, .slice none 0 0, .int .i64 0, .slice none 0 0, .string (⟨#[]⟩ : ByteArray)]) ?_ 0 _ rfl; (with_reducible repeat (first | refine blk_drewN ?_ _ | refine blk_drew ?_ | refine blk_alloc ?_ _)); exact BK472.out) hb); have n6_ := Bc HB hb; clear HO455 HO459 HO466 HO470 BK450 BK472 HB; revert n0_ n1_ n2_ n3_ n4_ n5_ n6_; intro HO455 HO459 HO466 HO470 BK450 BK472 HB; (try clear hb); (try clear hb2); (try clear hk); (try clear hi)))
   (try simp only [Act.put, List.setIfInBounds_toArray, List.set_cons_zero, List.set_cons_succ])
   go_cut [41] (fun v41 wc => ∃ (kq : Nat) (x41_13 : Bool), v41 = .bool x41_13 ∧ Aside0 (laws_FnExactLongestKey.j0 kq x41_13 a0_0 l0_1 a0_2 l0_3 a0_4 t463 t464 t467 t468 t471 = some r) ∧ Aside0 (kq ≤ k) ∧ Aside0 (Kd.R (Kd.int .i64) 3 wc w.heap.size (fun k_ => some k_ ≠ ((.slice Ao29 t468.length co29) : Value).ownBlock) (.slice Ao28 t464.length co28) t464) ∧ Aside0 (Kd.R (Kd.int .i64) 3 wc w.heap.size (fun k_ => some k_ ≠ ((.slice Ao28 t464.length co28) : Value).ownBlock) (.slice Ao29 t468.length co29) t468) ∧ Aside0 (wc.heap[gb450]? = some (.cells #[.int .i64 a0_0, (.slice A0_1 l0_1.length c0_1), .int .i64 a0_2, (.slice A0_3 l0_3.length c0_3), .string a0_4] 26 (0, 0))) ∧ Aside0 (wc.heap[gb472]? = some (.cells #[.int .i64 t463, (.slice Ao28 t464.length co28), .int .i64 t467, (.slice Ao29 t468.length co29), .string t471] 32 (0, 0))) ∧ Aside0 (Below w.heap.size w wc))
   case first =>
    have H := HC14.out; clear HC14
    by_cases c31 : t473.toList = t461.toList
    ·rw [if_pos c31] at H
     have c31b0 : (t473.toList == t461.toList) = true := beq_iff_eq.mpr c31; have c31b1 : (t473.toList != t461.toList) = false := bne_eq_false_iff_eq.mpr c31; clear c31
     (first | rw [c31b0] | (simp only [i64_w, i32_w]; rw [c31b0]) | skip)
     have H' := Aside0.mk H; clear H
     go_wp2
     go_meet
     case rel => exact ⟨_, ((t474 != t462)), (by first | rfl | (simp; done) | (simp [*]; done)), H', ⟨by first | omega | exact Nat.le_refl _⟩, ⟨Rz (Kd.R_mono HO466.out (fun _ hk => hk.1.1))⟩, ⟨Rz (Kd.R_mono HO470.out (fun _ hk => hk.1.1))⟩, ⟨Kz BK450.out⟩, ⟨Kz BK472.out⟩, ⟨Bq⟩⟩
    ·rw [if_neg c31] at H
     have c31b0 : (t473.toList == t461.toList) = false := beq_eq_false_iff_ne.mpr c31; have c31b1 : (t473.toList != t461.toList) = true := bne_iff_ne.mpr c31
     (first | rw [c31b0] | (simp only [i64_w, i32_w]; rw [c31b0]) | skip)
     have H' := Aside0.mk H; clear H
     go_wp2
     go_meet
     case rel => exact ⟨_, (true), (by first | rfl | (simp; done) | (simp [*]; done)), H', ⟨by first | omega | exact Nat.le_refl _⟩, ⟨Rz (Kd.R_mono HO466.out (fun _ hk => hk.1.1))⟩, ⟨Rz (Kd.R_mono HO470.out (fun _ hk => hk.1.1))⟩, ⟨Kz BK450.out⟩, ⟨Kz BK472.out⟩, ⟨Bq⟩⟩
   case rest =>
    clear HC14
    try clear c1
    try clear c2
    try clear p2
    try clear c3
    try clear c3b0
    try clear c3b1
    try clear c6
    try clear c6b0
    try clear c12
    try clear c13
    try clear c14
    try clear c15
    try clear c26
    try clear c31
    try clear c31b0
    try clear c31b1
    try clear hcz16_0
    try clear hcz16_1
    try clear hcz16_2
    try clear hcz16_3
    try clear hcz16_4
    try clear hcz18_0
    try clear hcz18_1
    try clear hcz18_2
    try clear hcz18_3
    try clear hcz18_4
    try clear hcz23_0
    try clear hcz23_1
    try clear hcz23_2
    try clear hcz23_3
    try clear hcz23_4
    try clear hcz27_0
    try clear hcz27_1
    try clear hcz27_2
    try clear hcz27_3
    try clear hcz27_4
    try clear hcz8_0
    try clear hcz8_1
    try clear hcz8_2
    try clear hcz8_3
    try clear hcz8_4
    try clear hfz16_0
    try clear hfz16_1
    try clear hfz16_2
    try clear hfz16_3
    try clear hfz16_4
    try clear hfz18_0
    try clear hfz18_1
    try clear hfz18_2
    try clear hfz18_3
    try clear hfz18_4
    try clear hfz23_0
    try clear hfz23_1
    try clear hfz23_2
    try clear hfz23_3
    try clear hfz23_4
    try clear hfz27_0
    try clear hfz27_1
    try clear hfz27_2
    try clear hfz27_3
    try clear hfz27_4
    try clear hfz8_0
    try clear hfz8_1
    try clear hfz8_2
    try clear hfz8_3
    try clear hfz8_4
    obtain ⟨kq, x41_13, rfl, HA, HJ13, HO_473001, HO_473003, BK450, BK472, HB⟩ := hcut; cases kq with
    | zero => exact absurd HA.out (by simp [laws_FnExactLongestKey.j0])
    | succ kj13 =>
     have H := HA.out; clear HA
     simp only [laws_FnExactLongestKey.j0] at H
     by_cases c32 : x41_13 = true
     ·subst c32
      have H1 : (some false) = some r := by rw [if_pos rfl] at H; exact H
      clear H; have H := H1; clear H1; obtain rfl := Option.some.inj H
      go_wp2
      go_ret
      exact ⟨by first | rfl | (simp [errW_none, errW_some] <;> rfl) | (simp [*, errW_none, errW_some] <;> rfl), Bq⟩
     ·replace c32 := Bool.eq_false_iff.mpr c32
      subst c32
      have H1 : ((laws_toTrie.f kj13 a0_0 l0_1 a0_2 l0_3 a0_4).bind fun bt475 => ((laws_eqTrie.f kj13 t463 t464 t467 t468 t471 bt475.1 bt475.2.1 bt475.2.2.1 bt475.2.2.2.1 bt475.2.2.2.2).bind fun t484 => (if t484 = true then (some true) else (some false)))) = some r := by rw [if_neg (show ¬ (false = true) by decide)] at H; exact H
      clear H; have H := H1; clear H1; replace H := Option.bind_eq_some_iff.mp H; obtain ⟨⟨t475, t476, t479, t480, t483⟩, A330, H⟩ := H; replace H : ((laws_eqTrie.f kj13 t463 t464 t467 t468 t471 t475 t476 t479 t480 t483).bind fun t484 => (if t484 = true then (some true) else (some false))) = some r := H; have A33 := Aside0.mk A330; clear A330; replace H := Option.bind_eq_some_iff.mp H; obtain ⟨t484, A340, H⟩ := H; replace H : (if t484 = true then (some true) else (some false)) = some r := H; have A34 := Aside0.mk A340; clear A340
      by_cases c35 : t484 = true
      ·subst c35
       have H1 : (some true) = some r := by rw [if_pos rfl] at H; exact H
       clear H; have H := H1; clear H1; obtain rfl := Option.some.inj H
       try go_wp2
       have n0_ := Aside0.mk (Kd.R_drew HO_473001.out); have n1_ := Aside0.mk (Kd.R_drew HO_473003.out); have n2_ := Aside0.mk (blk_drew BK450.out); have n3_ := Aside0.mk (blk_drew BK472.out); have n4_ := Aside0.mk (below_drew1 HB.out); clear HO_473001 HO_473003 BK450 BK472 HB; revert n0_ n1_ n2_ n3_ n4_; intro HO_473001 HO_473003 BK450 BK472 HB; refine start_ (n := 5) (S := fun w' => w'.cell? ⟨gb472, 0, none⟩ = some (.int .i64 t463) ∧ w'.cell? ⟨gb472, 1, none⟩ = some (.slice Ao28 t464.length co28) ∧ w'.cell? ⟨gb472, 2, none⟩ = some (.int .i64 t467) ∧ w'.cell? ⟨gb472, 3, none⟩ = some (.slice Ao29 t468.length co29) ∧ w'.cell? ⟨gb472, 4, none⟩ = some (.string t471) ∧ w'.cell? ⟨gb450, 0, none⟩ = some (.int .i64 a0_0) ∧ w'.cell? ⟨gb450, 1, none⟩ = some (.slice A0_1 l0_1.length c0_1) ∧ w'.cell? ⟨gb450, 2, none⟩ = some (.int .i64 a0_2) ∧ w'.cell? ⟨gb450, 3, none⟩ = some (.slice A0_3 l0_3.length c0_3) ∧ w'.cell? ⟨gb450, 4, none⟩ = some (.string a0_4)) (ds := []) (bA 5 0) (by kernel_rfl) rfl rfl ⟨cz BK472 0, cz BK472 1, cz BK472 2, cz BK472 3, cz BK472 4, cz BK450 0, cz BK450 1, cz BK450 2, cz BK450 3, cz BK450 4⟩ (fun hHeld => ?_); generalize wc.drew = w36 at HO_473001 HO_473003 BK450 BK472 HB hHeld ⊢; refine take_ (i := 0) (N := some 42) (v := ?_) (a' := ?_) (bA 5 1) rfl rfl (by kernel_rfl) (fun _ _ _ h => h) (Or.inl ⟨by rfl, ?_⟩) hHeld ?_ ?_
       rotate_left
       ·rintro w' ⟨s0, s1, s2, s3, s4, s5, s6, s7, s8, s9⟩
        go_simp
        with_reducible rfl
       rotate_left
       ·simp only [Act.put, List.setIfInBounds_toArray, List.set_cons_zero, List.set_cons_succ, i64_w, i32_w]
        rfl
       refine take_ (i := 1) (N := some 43) (v := ?_) (a' := ?_) (bA 5 3) rfl rfl (by kernel_rfl) (fun _ _ _ h => h) (Or.inl ⟨by rfl, ?_⟩) hHeld ?_ ?_
       rotate_left
       ·rintro w' ⟨s0, s1, s2, s3, s4, s5, s6, s7, s8, s9⟩
        go_simp
        with_reducible rfl
       rotate_left
       ·simp only [Act.put, List.setIfInBounds_toArray, List.set_cons_zero, List.set_cons_succ, i64_w, i32_w]
        rfl
       refine one_ (i := 2) (N := some 44) (bA 5 7) rfl rfl (by kernel_rfl) (by decide) (fun K hK => ?_); refine gZ Try.func14 #[.agg #[.int .i64 a0_0, .slice A0_1 l0_1.length c0_1, .int .i64 a0_2, .slice A0_3 l0_3.length c0_3, .string a0_4]] ?_
       with_reducible refine (laws_toTrie.calls kj13 a0_0 _ _ l0_1 a0_2 _ _ l0_3 a0_4 t475 t476 t479 t480 t483 _ ?side1 ?side2 ?side3 ?side4 A33.out).mono ?_
       (case side1 => exact Cz (Kd.C_below HR0_1.out HB.out))
       (case side2 => exact HC0_1.out)
       (case side3 => exact Cz (Kd.C_below HR0_3.out HB.out))
       (case side4 => exact HC0_3.out)
       rintro e w37 ⟨v477, v481, rfl, ho0, ho1, hb⟩; refine ⟨_, rfl, ?_⟩; have n0_ := Aside0.mk (Kd.R_mono (Kd.R_told (Kd.R_told (Kd.R_old (Rz HO_473001.out) hb) (Kd.R_base ho0)) (Kd.R_base ho1)) (fun _ h_ => h_.1)); have n1_ := Aside0.mk (Kd.R_mono (Kd.R_told (Kd.R_told (Kd.R_old (Rz HO_473003.out) hb) (Kd.R_base ho0)) (Kd.R_base ho1)) (fun _ h_ => h_.1)); have n2_ := Rm (Kd.R_new' (Kd.R_new' ho0 (Kd.R_lt (Rz HO_473001.out))) (Kd.R_lt (Rz HO_473003.out))) HB; have n3_ := Rm (Kd.R_new' (Kd.R_new' ho1 (Kd.R_lt (Rz HO_473001.out))) (Kd.R_lt (Rz HO_473003.out))) HB; have n4_ := Kb BK450 hb; have n5_ := Kb BK472 hb; have n6_ := Bc HB hb; clear HO_473001 HO_473003 BK450 BK472 HB; revert n0_ n1_ n2_ n3_ n4_ n5_ n6_; intro HO_473001 HO_473003 HO478 HO482 BK450 BK472 HB
       (try clear hb)
       (try clear hb2)
       (try clear hk)
       (try clear hi)
       (try clear ho0)
       (try clear ho1)
       obtain ⟨Ao38, co38, eo38⟩ := Kd.R_slice HO478.out
       (first | subst eo38 | (injection eo38 with f1_ f2_ f3_; have f4_ := f1_.symm; have f5_ := f3_.symm; clear f1_ f2_ f3_; subst f4_; subst f5_))
       obtain ⟨Ao39, co39, eo39⟩ := Kd.R_slice HO482.out
       (first | subst eo39 | (injection eo39 with f1_ f2_ f3_; have f4_ := f1_.symm; have f5_ := f3_.symm; clear f1_ f2_ f3_; subst f4_; subst f5_))
       refine hK.out _ _ ⟨cz BK472 0, cz BK472 1, cz BK472 2, cz BK472 3, cz BK472 4, cz BK450 0, cz BK450 1, cz BK450 2, cz BK450 3, cz BK450 4⟩ (fun hHeld => ?_); clear hK K; refine norm_ (a' := ?_) ?_ ?_
       rotate_left
       ·show Act.put _ (some 44) _ = _
        simp only [Act.put, List.setIfInBounds_toArray, List.set_cons_zero, List.set_cons_succ, i64_w, i32_w]
        rfl
       refine one_ (i := 3) (N := some 45) (bA 5 15) rfl rfl (by kernel_rfl) (by decide) (fun K hK => ?_); refine gZ Try.func16 #[.agg #[.int .i64 t463, .slice Ao28 t464.length co28, .int .i64 t467, .slice Ao29 t468.length co29, .string t471], .agg #[.int .i64 t475, .slice Ao38 t476.length co38, .int .i64 t479, .slice Ao39 t480.length co39, .string t483]] ?_
       with_reducible refine (laws_eqTrie.calls kj13 t463 _ _ t464 t467 _ _ t468 t471 t475 _ _ t476 t479 _ _ t480 t483 true _ ?side1 ?side2 ?side3 ?side4 ?side5 ?side6 ?side7 ?side8 A34.out).mono ?_
       (case side1 => exact Cz ((Kd.R_reads' HO_473001.out).2.2))
       (case side2 => exact (Kd.R_reads' HO_473001.out).2.1)
       (case side3 => exact Cz ((Kd.R_reads' HO_473003.out).2.2))
       (case side4 => exact (Kd.R_reads' HO_473003.out).2.1)
       (case side5 => exact Cz ((Kd.R_reads' HO478.out).2.2))
       (case side6 => exact (Kd.R_reads' HO478.out).2.1)
       (case side7 => exact Cz ((Kd.R_reads' HO482.out).2.2))
       (case side8 => exact (Kd.R_reads' HO482.out).2.1)
       rintro e w40 ⟨rfl, hb⟩; refine ⟨_, rfl, ?_⟩; have n0_ := Rb HO_473001 hb; have n1_ := Rb HO_473003 hb; have n2_ := Rb HO478 hb; have n3_ := Rb HO482 hb; have n4_ := Kb BK450 hb; have n5_ := Kb BK472 hb; have n6_ := Bc HB hb; clear HO_473001 HO_473003 HO478 HO482 BK450 BK472 HB; revert n0_ n1_ n2_ n3_ n4_ n5_ n6_; intro HO_473001 HO_473003 HO478 HO482 BK450 BK472 HB
       (try clear hb)
       (try clear hb2)
       (try clear hk)
       (try clear hi)
       refine hK.out _ _ ⟨cz BK472 0, cz BK472 1, cz BK472 2, cz BK472 3, cz BK472 4, cz BK450 0, cz BK450 1, cz BK450 2, cz BK450 3, cz BK450 4⟩ (fun hHeld => ?_); clear hK K; refine norm_ (a' := ?_) ?_ ?_
       rotate_left
       ·show Act.put _ (some 45) _ = _
        simp only [Act.put, List.setIfInBounds_toArray, List.set_cons_zero, List.set_cons_succ, i64_w, i32_w]
        rfl
       refine pure_ (i := 4) (N := some 46) (v := ?_) (a' := ?_) (bA 5 31) rfl rfl (by kernel_rfl) (fun _ _ _ h => h) (Or.inl ⟨by rfl, ?_⟩) ?_ ?_
       rotate_left
       ·intro w'
        go_simp
        with_reducible rfl
       rotate_left
       ·simp only [Act.put, List.setIfInBounds_toArray, List.set_cons_zero, List.set_cons_succ, i64_w, i32_w]
        rfl
       refine done_ (by kernel_rfl) ?_
       try go_wp2
       go_ret
       exact ⟨by first | rfl | (simp [errW_none, errW_some] <;> rfl) | (simp [*, errW_none, errW_some] <;> rfl), Bq⟩
      ·replace c35 := Bool.eq_false_iff.mpr c35
       subst c35
       have H1 : (some false) = some r := by rw [if_neg (show ¬ (false = true) by decide)] at H; exact H
       clear H; have H := H1; clear H1; obtain rfl := Option.some.inj H
       try go_wp2
       have n0_ := Aside0.mk (Kd.R_drew HO_473001.out); have n1_ := Aside0.mk (Kd.R_drew HO_473003.out); have n2_ := Aside0.mk (blk_drew BK450.out); have n3_ := Aside0.mk (blk_drew BK472.out); have n4_ := Aside0.mk (below_drew1 HB.out); clear HO_473001 HO_473003 BK450 BK472 HB; revert n0_ n1_ n2_ n3_ n4_; intro HO_473001 HO_473003 BK450 BK472 HB; refine start_ (n := 5) (S := fun w' => w'.cell? ⟨gb472, 0, none⟩ = some (.int .i64 t463) ∧ w'.cell? ⟨gb472, 1, none⟩ = some (.slice Ao28 t464.length co28) ∧ w'.cell? ⟨gb472, 2, none⟩ = some (.int .i64 t467) ∧ w'.cell? ⟨gb472, 3, none⟩ = some (.slice Ao29 t468.length co29) ∧ w'.cell? ⟨gb472, 4, none⟩ = some (.string t471) ∧ w'.cell? ⟨gb450, 0, none⟩ = some (.int .i64 a0_0) ∧ w'.cell? ⟨gb450, 1, none⟩ = some (.slice A0_1 l0_1.length c0_1) ∧ w'.cell? ⟨gb450, 2, none⟩ = some (.int .i64 a0_2) ∧ w'.cell? ⟨gb450, 3, none⟩ = some (.slice A0_3 l0_3.length c0_3) ∧ w'.cell? ⟨gb450, 4, none⟩ = some (.string a0_4)) (ds := []) (bA 5 0) (by kernel_rfl) rfl rfl ⟨cz BK472 0, cz BK472 1, cz BK472 2, cz BK472 3, cz BK472 4, cz BK450 0, cz BK450 1, cz BK450 2, cz BK450 3, cz BK450 4⟩ (fun hHeld => ?_); generalize wc.drew = w41 at HO_473001 HO_473003 BK450 BK472 HB hHeld ⊢; refine take_ (i := 0) (N := some 42) (v := ?_) (a' := ?_) (bA 5 1) rfl rfl (by kernel_rfl) (fun _ _ _ h => h) (Or.inl ⟨by rfl, ?_⟩) hHeld ?_ ?_
       rotate_left
       ·rintro w' ⟨s0, s1, s2, s3, s4, s5, s6, s7, s8, s9⟩
        go_simp
        with_reducible rfl
       rotate_left
       ·simp only [Act.put, List.setIfInBounds_toArray, List.set_cons_zero, List.set_cons_succ, i64_w, i32_w]
        rfl
       refine take_ (i := 1) (N := some 43) (v := ?_) (a' := ?_) (bA 5 3) rfl rfl (by kernel_rfl) (fun _ _ _ h => h) (Or.inl ⟨by rfl, ?_⟩) hHeld ?_ ?_
       rotate_left
       ·rintro w' ⟨s0, s1, s2, s3, s4, s5, s6, s7, s8, s9⟩
        go_simp
        with_reducible rfl
       rotate_left
       ·simp only [Act.put, List.setIfInBounds_toArray, List.set_cons_zero, List.set_cons_succ, i64_w, i32_w]
        rfl
       refine one_ (i := 2) (N := some 44) (bA 5 7) rfl rfl (by kernel_rfl) (by decide) (fun K hK => ?_); refine gZ Try.func14 #[.agg #[.int .i64 a0_0, .slice A0_1 l0_1.length c0_1, .int .i64 a0_2, .slice A0_3 l0_3.length c0_3, .string a0_4]] ?_
       with_reducible refine (laws_toTrie.calls kj13 a0_0 _ _ l0_1 a0_2 _ _ l0_3 a0_4 t475 t476 t479 t480 t483 _ ?side1 ?side2 ?side3 ?side4 A33.out).mono ?_
       (case side1 => exact Cz (Kd.C_below HR0_1.out HB.out))
       (case side2 => exact HC0_1.out)
       (case side3 => exact Cz (Kd.C_below HR0_3.out HB.out))
       (case side4 => exact HC0_3.out)
       rintro e w42 ⟨v477, v481, rfl, ho0, ho1, hb⟩; refine ⟨_, rfl, ?_⟩; have n0_ := Aside0.mk (Kd.R_mono (Kd.R_told (Kd.R_told (Kd.R_old (Rz HO_473001.out) hb) (Kd.R_base ho0)) (Kd.R_base ho1)) (fun _ h_ => h_.1)); have n1_ := Aside0.mk (Kd.R_mono (Kd.R_told (Kd.R_told (Kd.R_old (Rz HO_473003.out) hb) (Kd.R_base ho0)) (Kd.R_base ho1)) (fun _ h_ => h_.1)); have n2_ := Rm (Kd.R_new' (Kd.R_new' ho0 (Kd.R_lt (Rz HO_473001.out))) (Kd.R_lt (Rz HO_473003.out))) HB; have n3_ := Rm (Kd.R_new' (Kd.R_new' ho1 (Kd.R_lt (Rz HO_473001.out))) (Kd.R_lt (Rz HO_473003.out))) HB; have n4_ := Kb BK450 hb; have n5_ := Kb BK472 hb; have n6_ := Bc HB hb; clear HO_473001 HO_473003 BK450 BK472 HB; revert n0_ n1_ n2_ n3_ n4_ n5_ n6_; intro HO_473001 HO_473003 HO478 HO482 BK450 BK472 HB
       (try clear hb)
       (try clear hb2)
       (try clear hk)
       (try clear hi)
       (try clear ho0)
       (try clear ho1)
       obtain ⟨Ao43, co43, eo43⟩ := Kd.R_slice HO478.out
       (first | subst eo43 | (injection eo43 with f1_ f2_ f3_; have f4_ := f1_.symm; have f5_ := f3_.symm; clear f1_ f2_ f3_; subst f4_; subst f5_))
       obtain ⟨Ao44, co44, eo44⟩ := Kd.R_slice HO482.out
       (first | subst eo44 | (injection eo44 with f1_ f2_ f3_; have f4_ := f1_.symm; have f5_ := f3_.symm; clear f1_ f2_ f3_; subst f4_; subst f5_))
       refine hK.out _ _ ⟨cz BK472 0, cz BK472 1, cz BK472 2, cz BK472 3, cz BK472 4, cz BK450 0, cz BK450 1, cz BK450 2, cz BK450 3, cz BK450 4⟩ (fun hHeld => ?_); clear hK K; refine norm_ (a' := ?_) ?_ ?_
       rotate_left
       ·show Act.put _ (some 44) _ = _
        simp only [Act.put, List.setIfInBounds_toArray, List.set_cons_zero, List.set_cons_succ, i64_w, i32_w]
        rfl
       refine one_ (i := 3) (N := some 45) (bA 5 15) rfl rfl (by kernel_rfl) (by decide) (fun K hK => ?_); refine gZ Try.func16 #[.agg #[.int .i64 t463, .slice Ao28 t464.length co28, .int .i64 t467, .slice Ao29 t468.length co29, .string t471], .agg #[.int .i64 t475, .slice Ao43 t476.length co43, .int .i64 t479, .slice Ao44 t480.length co44, .string t483]] ?_
       with_reducible refine (laws_eqTrie.calls kj13 t463 _ _ t464 t467 _ _ t468 t471 t475 _ _ t476 t479 _ _ t480 t483 false _ ?side1 ?side2 ?side3 ?side4 ?side5 ?side6 ?side7 ?side8 A34.out).mono ?_
       (case side1 => exact Cz ((Kd.R_reads' HO_473001.out).2.2))
       (case side2 => exact (Kd.R_reads' HO_473001.out).2.1)
       (case side3 => exact Cz ((Kd.R_reads' HO_473003.out).2.2))
       (case side4 => exact (Kd.R_reads' HO_473003.out).2.1)
       (case side5 => exact Cz ((Kd.R_reads' HO478.out).2.2))
       (case side6 => exact (Kd.R_reads' HO478.out).2.1)
       (case side7 => exact Cz ((Kd.R_reads' HO482.out).2.2))
       (case side8 => exact (Kd.R_reads' HO482.out).2.1)
       rintro e w45 ⟨rfl, hb⟩; refine ⟨_, rfl, ?_⟩; have n0_ := Rb HO_473001 hb; have n1_ := Rb HO_473003 hb; have n2_ := Rb HO478 hb; have n3_ := Rb HO482 hb; have n4_ := Kb BK450 hb; have n5_ := Kb BK472 hb; have n6_ := Bc HB hb; clear HO_473001 HO_473003 HO478 HO482 BK450 BK472 HB; revert n0_ n1_ n2_ n3_ n4_ n5_ n6_; intro HO_473001 HO_473003 HO478 HO482 BK450 BK472 HB
       (try clear hb)
       (try clear hb2)
       (try clear hk)
       (try clear hi)
       refine hK.out _ _ ⟨cz BK472 0, cz BK472 1, cz BK472 2, cz BK472 3, cz BK472 4, cz BK450 0, cz BK450 1, cz BK450 2, cz BK450 3, cz BK450 4⟩ (fun hHeld => ?_); clear hK K; refine norm_ (a' := ?_) ?_ ?_
       rotate_left
       ·show Act.put _ (some 45) _ = _
        simp only [Act.put, List.setIfInBounds_toArray, List.set_cons_zero, List.set_cons_succ, i64_w, i32_w]
        rfl
       refine pure_ (i := 4) (N := some 46) (v := ?_) (a' := ?_) (bA 5 31) rfl rfl (by kernel_rfl) (fun _ _ _ h => h) (Or.inl ⟨by rfl, ?_⟩) ?_ ?_
       rotate_left
       ·intro w'
        go_simp
        with_reducible rfl
       rotate_left
       ·simp only [Act.put, List.setIfInBounds_toArray, List.set_cons_zero, List.set_cons_succ, i64_w, i32_w]
        rfl
       refine done_ (by kernel_rfl) ?_
       try go_wp2
       go_ret
       exact ⟨by first | rfl | (simp [errW_none, errW_some] <;> rfl) | (simp [*, errW_none, errW_some] <;> rfl), Bq⟩

def laws_FnExactLongestKey.Pure : Prop := ∀ (a0_0 : Int) (l0_1 : List Int) (a0_2 : Int) (l0_3 : List Int) (a0_4 : ByteArray) (a1 : ByteArray), (Lit.int .i64 a0_0).wf = true → l0_1.length ≤ maxLen → (∀ x ∈ l0_1, (Lit.int .i64 x).wf = true) → (Lit.int .i64 a0_2).wf = true → l0_3.length ≤ maxLen → (∀ x ∈ l0_3, (Lit.int .i64 x).wf = true) → a0_4.size ≤ maxLen → a1.size ≤ maxLen → ∃ k, laws_FnExactLongestKey.f k a0_0 l0_1 a0_2 l0_3 a0_4 a1 = some true
theorem laws_FnExactLongestKey.walk (P : laws_FnExactLongestKey.Pure) (a0_0 : Int) (A0_1 : Option Addr) (c0_1 : Nat) (l0_1 : List Int) (a0_2 : Int) (A0_3 : Option Addr) (c0_3 : Nat) (l0_3 : List Int) (a0_4 : ByteArray) (a1 : ByteArray) (w : World) (hw0_0 : (Lit.int .i64 a0_0).wf = true) (hr0_1 : Kd.C (Kd.int .i64) w A0_1 l0_1.length l0_1) (hc0_1 : l0_1.length ≤ c0_1) (hm0_1 : l0_1.length ≤ maxLen) (hw0_1 : ∀ x ∈ l0_1, (Lit.int .i64 x).wf = true) (hw0_2 : (Lit.int .i64 a0_2).wf = true) (hr0_3 : Kd.C (Kd.int .i64) w A0_3 l0_3.length l0_3) (hc0_3 : l0_3.length ≤ c0_3) (hm0_3 : l0_3.length ≤ maxLen) (hw0_3 : ∀ x ∈ l0_3, (Lit.int .i64 x).wf = true) (hw0_4 : a0_4.size ≤ maxLen) (hw1 : a1.size ≤ maxLen) :
  Calls Try.prog 3 #[.agg #[.int .i64 a0_0, .slice A0_1 l0_1.length c0_1, .int .i64 a0_2, .slice A0_3 l0_3.length c0_3, .string a0_4], .string a1] w fun e w' => e = .returned (.bool true) ∧ Below w.heap.size w w' := by
 obtain ⟨k, h⟩ := P a0_0 l0_1 a0_2 l0_3 a0_4 a1 hw0_0 hm0_1 hw0_1 hw0_2 hm0_3 hw0_3 hw0_4 hw1; refine (laws_FnExactLongestKey.calls k a0_0 A0_1 c0_1 l0_1 a0_2 A0_3 c0_3 l0_3 a0_4 a1 true w hr0_1 hc0_1 hr0_3 hc0_3 h).mono ?_; rintro e w' ⟨rfl, hd⟩; exact ⟨rfl, hd⟩

end Go.Proofs.Ytalfkfddpamnjaa.PA
namespace Go.Proofs.YtalfkfddpamnjaaQ
open Go Go.RowKit Go.Proofs.YtalfkfddpamnjaaW.PrintWords Go.Proofs.YtalfkfddpamnjaaW.PrintMore Go.Proofs.YtalfkfddpamnjaaGp Go.Proofs.Ytalfkfddpamnjaa.PA

def longK (s : ByteArray) : ByteArray → List ByteArray → ByteArray
  | b, [] => b
  | b, x :: t => if x.data.toList.isPrefixOf s.data.toList = true then (if (x.size : Int) > (b.size : Int) then longK s x t else longK s b t) else longK s b t
def longEnd (ok : Bool) (b : ByteArray) : ByteArray × Bool := if ok = true then (if b.toList = ([] : List UInt8) then ((⟨#[]⟩ : ByteArray), false) else (b, true)) else ((⟨#[]⟩ : ByteArray), false)
theorem longEnd_no (b : ByteArray) : longEnd false b = ((⟨#[]⟩ : ByteArray), false) := rfl
theorem longEnd_nil {b : ByteArray} (d : b.toList = ([] : List UInt8)) : longEnd true b = ((⟨#[]⟩ : ByteArray), false) := by unfold longEnd; rw [if_pos rfl, if_pos d]
theorem longEnd_some {b : ByteArray} (d : ¬ b.toList = ([] : List UInt8)) : longEnd true b = (b, true) := by unfold longEnd; rw [if_pos rfl, if_neg d]
theorem spec_LongestKey_l0 (s : ByteArray) (ok : Bool) (xs : List ByteArray) (hl : xs.length ≤ 1000000) : ∀ (t pre : List ByteArray) (b : ByteArray), xs = pre ++ t →
    Ev (fun k => spec_LongestKey.l0 k s ok b xs (xs.length : Int) (pre.length : Int)) (longEnd ok (longK s b t)) := by
  intro t
  induction t with
  | nil =>
    intro pre b h
    refine ev_succ ?_
    simp only [spec_LongestKey.l0]
    refine ev_neg (by rw [h]; exact not_lt_end) ?_
    unfold longK
    cases ok
    · rw [longEnd_no]; exact ev_neg (by simp) (Ev.now _)
    · refine ev_pos rfl ?_
      by_cases d : b.toList = ([] : List UInt8)
      · rw [longEnd_nil d]; exact ev_pos d (Ev.now _)
      · rw [longEnd_some d]; exact ev_neg d (Ev.now _)
  | cons x t ih =>
    intro pre b h
    have hm : ((pre.length : Nat) : Int) < (xs.length : Int) := by rw [h]; exact lt_mid
    have hg : rdOf ByteArray.empty xs (pre.length : Int) = x := by rw [h]; exact rdOf_mid
    have next := fun b' => ih (pre ++ [x]) b' (by rw [h]; simp)
    rw [len_one] at next
    refine ev_succ ?_
    simp only [spec_LongestKey.l0, hg, spec_trBegins_f]
    refine ev_pos hm (ev_pos (by omega) (ev_pos hm (ev_bind _ (Ev.now _) ?_)))
    rw [winc (by omega)]
    unfold longK
    by_cases c : x.data.toList.isPrefixOf s.data.toList = true
    · rw [if_pos c]
      refine ev_pos c ?_
      by_cases d : (x.size : Int) > (b.size : Int)
      · rw [if_pos d]; exact ev_pos d (next x)
      · rw [if_neg d]; exact ev_neg d (next b)
    · rw [if_neg c]; exact ev_neg c (next b)
theorem impl_LongestKey_l0 (s : ByteArray) (xs : List ByteArray) (hl : xs.length ≤ 1000000) : ∀ (t pre : List ByteArray) (b : ByteArray), xs = pre ++ t →
    Ev (fun k => impl_LongestKey.l0 k s b xs (xs.length : Int) (pre.length : Int)) (longK s b t, (longK s b t).toList != ([] : List UInt8)) := by
  intro t
  induction t with
  | nil =>
    intro pre b h
    refine ev_succ ?_
    simp only [impl_LongestKey.l0]
    exact ev_neg (by rw [h]; exact not_lt_end) (Ev.now _)
  | cons x t ih =>
    intro pre b h
    have hm : ((pre.length : Nat) : Int) < (xs.length : Int) := by rw [h]; exact lt_mid
    have hg : rdOf ByteArray.empty xs (pre.length : Int) = x := by rw [h]; exact rdOf_mid
    have next := fun b' => ih (pre ++ [x]) b' (by rw [h]; simp)
    rw [len_one] at next
    refine ev_succ ?_
    simp only [impl_LongestKey.l0, hg, strings_HasPrefix_f]
    refine ev_pos hm (ev_pos (by omega) (ev_pos hm (ev_bind _ (Ev.now _) ?_)))
    rw [winc (by omega)]
    unfold longK
    by_cases c : x.data.toList.isPrefixOf s.data.toList = true
    · rw [if_pos c]
      refine ev_pos c ?_
      by_cases d : (x.size : Int) > (b.size : Int)
      · rw [if_pos d]; exact ev_pos d (next x)
      · rw [if_neg d]; exact ev_neg d (next b)
    · rw [if_neg c]; exact ev_neg c (next b)
end Go.Proofs.YtalfkfddpamnjaaQ
namespace Go.Proofs.Ytalfkfddpamnjaa.Pure
open Go Go.RowKit Go.Proofs.YtalfkfddpamnjaaW.PrintWords Go.Proofs.YtalfkfddpamnjaaW.PrintMore Go.Proofs.YtalfkfddpamnjaaGp Go.Proofs.Ytalfkfddpamnjaa.PA Go.Proofs.YtalfkfddpamnjaaQ

theorem FnExactLongestKey : laws_FnExactLongestKey.Pure := by
  intro nB lB nE lE lab a1 hnB hlB hwB hnE hlE hwE hlab ha1
  refine Ev.rounds (r := true) ?_
  unfold laws_FnExactLongestKey.f
  by_cases big : (a1.size : Int) > 1048576
  · exact ev_pos big (Ev.now _)
  obtain ⟨v, ev, hv⟩ := szTrie_f nB lB nE lE lab hlB hlE hlab
  rw [ev]
  refine ev_neg big (ev_bind _ (Ev.now _) ?_)
  by_cases c : v < 0
  · exact ev_pos c (Ev.now _)
  obtain ⟨hB, hE, hL⟩ := hv c
  have hT := toTrie_f nB lB nE lE lab hB hE
  have hK := kept_f nB lB nE lE lab hB hE
  refine ev_neg c (ev_bind _ hT ?_)
  have e0 : (⟨#[]⟩ : ByteArray).toList = ([] : List UInt8) := by rw [tl]
  have both : ∃ r s, Ev (fun k => spec_LongestKey.f k nB lB nE lE lab a1) r ∧ Ev (fun k => impl_LongestKey.f k nB lB nE lE lab a1) s ∧ s.1.toList = r.1.toList ∧ s.2 = r.2 := by
    rcases trie_both nB lB nE lE lab hB hE with ⟨K, Y⟩ | ⟨KS, Y⟩
    · have hk := areKeysB_len Y.keys
      refine ⟨_, _, ev_bind _ Y.sK (spec_LongestKey_l0 a1 true K (by omega) K [] _ rfl), ev_bind _ Y.iK (impl_LongestKey_l0 a1 K (by omega) K [] _ rfl), ?_⟩
      by_cases d : (longK a1 (⟨#[]⟩ : ByteArray) K).toList = ([] : List UInt8)
      · rw [longEnd_nil d]
        refine ⟨d.trans e0.symm, ?_⟩
        simp only [d]; rfl
      · rw [longEnd_some d]
        exact ⟨rfl, by simpa using d⟩
    · exact ⟨_, _, ev_bind _ Y.sK (spec_LongestKey_l0 a1 false KS Y.len KS [] _ rfl), ev_bind _ Y.iK (impl_LongestKey_l0 a1 [] (by simp) [] [] _ rfl), rfl, by show ((⟨#[]⟩ : ByteArray).toList != ([] : List UInt8)) = false; rw [e0]; rfl⟩
  obtain ⟨r, s, hS, hI, h1, h2⟩ := both
  refine ev_bind _ hS (ev_bind _ hT (ev_bind _ hI (ev_pos h1 (ev_succ ?_))))
  simp only [laws_FnExactLongestKey.j0]
  exact ev_neg (by simp [h2]) hK
end Go.Proofs.Ytalfkfddpamnjaa.Pure
