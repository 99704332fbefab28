import Derived.Test.YtalfkfddpamnjaaCA2
import Derived.Test.YtalfkfddpamnjaaCA4
import Derived.Test.YtalfkfddpamnjaaCA6
import Derived.Test.YtalfkfddpamnjaaCA8
import Derived.Test.YtalfkfddpamnjaaCA3
import Derived.Test.YtalfkfddpamnjaaCA0
import Derived.ProofKit
import Derived.SliceStrings
import Derived.ChangeSlices
-- printed by a program of this session (wip/gp) out of the translation; Lean checks it
namespace Go.Proofs.Ytalfkfddpamnjaa.PA
open Go.RowKit Go.Proofs.YtalfkfddpamnjaaW.PrintWords Go.Proofs.YtalfkfddpamnjaaW.PrintLast Go.Proofs.YtalfkfddpamnjaaW.PrintMore Go.Proofs.YtalfkfddpamnjaaSq
attribute [local go_sem] max2_int min2_int max_two min_two max_three min_three max_four min_four   -- for this text's walks alone
attribute [local go_sem] Go.Proofs.YtalfkfddpamnjaaGp.str_geq Go.Proofs.YtalfkfddpamnjaaGp.str_gtr Go.Proofs.YtalfkfddpamnjaaGp.str_leq
set_option linter.unusedVariables false
set_option linter.unusedSimpArgs false

set_option maxHeartbeats 8000000
set_option maxRecDepth 100000
def spec_trByNode.l0 : Nat → List ByteArray → List ByteArray → List ByteArray → Int → Int → Option (List ByteArray)
 | 0, _, _, _, _, _ => none
 | k + 1, x0, x3, x7, x8, x9 => if x9 < x8 then (if 0 ≤ x9 then (if x9 < (x7.length : Int) then ((spec_l1HasS.f k x0 (rdOf ByteArray.empty x7 x9)).bind fun t489 => (if t489 = true then (if x3.length < 8796093022208 then (spec_trByNode.l0 k x0 (x3 ++ [rdOf ByteArray.empty x7 x9]) x7 x8 (wrap64 (x9 + 1))) else (none)) else (spec_trByNode.l0 k x0 x3 x7 x8 (wrap64 (x9 + 1))))) else (none)) else (none)) else (some x3)
def spec_trByNode.f (k : Nat) (l0 : List ByteArray) : Option (List ByteArray) := (spec_trNodes.f k l0).bind fun t485 => (spec_trByNode.l0 k l0 ([] : List ByteArray) t485 (t485.length : Int) 0)
theorem spec_trByNode.mono_l : ∀ k, (∀ y0 y1 y2 y3 y4, LeO (spec_trByNode.l0 k y0 y1 y2 y3 y4) (spec_trByNode.l0 (k + 1) y0 y1 y2 y3 y4))
 | 0 => fun _ _ _ _ _ r h => by simp [spec_trByNode.l0] at h
 | k + 1 => by
  have ih0 := spec_trByNode.mono_l k
  ·intro y0 y1 y2 y3 y4
   unfold spec_trByNode.l0
   repeat' first | (with_reducible first | exact ih0 _ _ _ _ _ | exact spec_l1HasS.mono _ _ _ | exact spec_trNodes.mono _ _ | exact LeO.refl _ | exact LeO.none _ | refine LeO.ite ?_ ?_ | refine LeO.bind ?_ (fun _ => ?_)) | exact LeO.none _ | refine LeO.ite ?_ ?_ | refine LeO.bind ?_ (fun _ => ?_)
theorem spec_trByNode.mono : ∀ a0 k, LeO (spec_trByNode.f k a0) (spec_trByNode.f (k + 1) a0) := by
 intro a0 k; have ih0 := spec_trByNode.mono_l k
 unfold spec_trByNode.f
 repeat' first | (with_reducible first | exact ih0 _ _ _ _ _ | exact spec_l1HasS.mono _ _ _ | exact spec_trNodes.mono _ _ | exact LeO.refl _ | exact LeO.none _ | refine LeO.ite ?_ ?_ | refine LeO.bind ?_ (fun _ => ?_)) | exact LeO.none _ | refine LeO.ite ?_ ?_ | refine LeO.bind ?_ (fun _ => ?_)
theorem spec_trByNode.calls (k : Nat) (A0 : Option Addr) (c0 : Nat) (l0 : List ByteArray) (r : List ByteArray) (w : World) (hr0 : Kd.C Kd.string w A0 l0.length l0) (hc0 : l0.length ≤ c0) (h : spec_trByNode.f k l0 = some r) :
  Calls Try.prog 47 #[.slice A0 l0.length c0] w fun e w' => ∃ v0_ : Value, e = .returned (v0_) ∧ Kd.R Kd.string 9 w' w.heap.size (fun _ => True) v0_ r ∧ Below w.heap.size w w' := by
 have HR0 := am hr0; have HC0 := am hc0; clear hr0 hc0; have HB := am (Below.refl w.heap.size w); have H : ((spec_trNodes.f k l0).bind fun t485 => (spec_trByNode.l0 k l0 ([] : List ByteArray) t485 (t485.length : Int) 0)) = some r := h; clear h; replace H := Option.bind_eq_some_iff.mp H; obtain ⟨t485, A20, H⟩ := H; (try dsimp -simprocs only at H); have A2 := am A20; clear A20; have H' := am H; clear H
 go_enter Try.func47, Try.ntmps47
 go_wp2_with (first | ((with_reducible refine gate_callee (f := 72) rfl ?_); refine gL (some 7) Try.func72 #[.slice A0 l0.length c0] ?_; (with_reducible refine (spec_trNodes.calls k _ _ l0 t485 _ ?side1 ?side2 A2.out).mono ?_); (case side1 => exact Cz HR0.out); (case side2 => exact HC0.out); rintro e w3 ⟨v486, rfl, ho0, hb⟩; refine ⟨_, rfl, ?_⟩; have n0_ := Rl ho0 HB; have n1_ := Bb HB hb; clear HB; revert n0_ n1_; intro HO487 HB; (try clear hb); (try clear hb2); (try clear hk); (try clear hi); (try clear ho0); obtain ⟨Ao4, co4, eo4⟩ := Kd.R_slice HO487.out; subst eo4))
 (try simp only [aP])
 go_loopg [3, 9] k (fun kq v3 v9 w' => ∃ (x3_1 : List ByteArray) (x9_1 : Int), v9 = .int .i64 x9_1 ∧ Aside0 (spec_trByNode.l0 kq l0 x3_1 t485 (t485.length : Int) x9_1 = some r) ∧ Aside0 (kq ≤ k) ∧ Aside0 (Kd.R Kd.string 9 w' w.heap.size (fun k_ => some k_ ≠ ((.slice Ao4 t485.length co4) : Value).ownBlock) v3 x3_1) ∧ Aside0 (Kd.R Kd.string 9 w' w.heap.size (fun k_ => some k_ ≠ (v3 : Value).ownBlock) (.slice Ao4 t485.length co4) t485) ∧ Aside0 (Below w.heap.size w w'))
 case atStart => exact ⟨(([] : List ByteArray)), (0), wZ, H', ⟨Nat.le_refl _⟩, ⟨nZ⟩, ⟨Rz (Kd.R_mono HO487.out (fun _ hk => (by simp [Value.ownBlock])))⟩, ⟨Bz HB.out⟩⟩
 case round =>
  clear H'
  try clear p2
  try clear c4
  obtain ⟨x3_1, x9_1, rfl, HA, HK1, HO_3, HO_7, HB⟩ := hrel; cases gk with
  | zero => exact absurd HA.out (by simp [spec_trByNode.l0])
  | succ k1 =>
   have H := HA.out; clear HA
   simp only [spec_trByNode.l0] at H
   by_cases c5 : x9_1 < (t485.length : Int)
   ·rw [if_pos c5] at H
    have c5b0 : decide (x9_1 < (t485.length : Int)) = true := decide_eq_true c5; clear c5
    by_cases c6 : 0 ≤ x9_1
    ·rw [if_pos c6] at H
     have c6b0 : decide (0 ≤ x9_1) = true := decide_eq_true c6; clear c6
     by_cases c7 : x9_1 < (t485.length : Int)
     ·rw [if_pos c7] at H
      have c7b0 : decide (x9_1 < (t485.length : Int)) = true := decide_eq_true c7; clear c7; replace H := Option.bind_eq_some_iff.mp H; obtain ⟨t489, A80, H⟩ := H; (try dsimp -simprocs only at H); have A8 := am A80; clear A80
      by_cases c9 : t489 = true
      ·subst c9
       rw [if_pos rfl] at H
       by_cases c10 : x3_1.length < 8796093022208
       ·rw [if_pos c10] at H
        have LMc10 := am c10; clear c10; obtain ⟨y490, hy490⟩ : ∃ y_ : List ByteArray, y_ = (x3_1 ++ [rdOf ByteArray.empty t485 x9_1]) := ⟨_, rfl⟩
        replace H : (spec_trByNode.l0 k1 l0 y490 t485 (t485.length : Int) (wrap64 (x9_1 + 1))) = some r := by first | (rw [hy490]; with_reducible exact H) | (have H2_ := (Option.bind_some _ _).symm.trans H; rw [hy490]; with_reducible exact H2_) | (have H2_ := (Option.bind_some _ _).symm.trans H; with_reducible exact H2_) | with_reducible exact H | (rw [hy490]; exact H) | exact H
        have Ny490 := am hy490; clear hy490; have H' := am H; clear H; obtain ⟨ad488, e488, hx488_0⟩ := Kd.at_string (Kd.R_reads' HO_7.out).2.2 x9_1 dT dT; cases e488; have p488 := eT (0 ≤ (x9_1 : Int)); have q488 := eT (x9_1 < (t485.length : Int))
        go_wp2_with (first | ((with_reducible refine gate_callee (f := 60) rfl ?_); refine gL (some 15) Try.func60 #[.slice A0 l0.length c0, .string (rdOf ByteArray.empty t485 x9_1)] ?_; (with_reducible refine (spec_l1HasS.calls k1 _ _ l0 (rdOf ByteArray.empty t485 x9_1) true _ ?side1 ?side2 A8.out).mono ?_); (case side1 => exact Cz (Kd.C_below HR0.out HB.out)); (case side2 => exact HC0.out); rintro e w' ⟨rfl, ⟨nd, rfl⟩⟩; refine ⟨_, rfl, ?_⟩) | ((with_reducible refine gate_builtin (b := .append) (xs := #[.tmp 16, .tmp 18]) rfl ?_); at_builtin; refine Kd.R_append Kd.string (w0 := w) w.heap.size rfl (.tmp 16) (.tmp 18) 38 9 (.string ⟨#[]⟩) 16 rfl Try.underlying38 info9 rfl (by decide) (by omega) u3 x3_1 (rdOf ByteArray.empty t485 x9_1) [.string (rdOf ByteArray.empty t485 x9_1)] (fun k_ => some k_ ≠ (.slice (some ad488) t485.length co4 : Value).ownBlock) (fun _ => False) rfl rfl ?aP (fun _ hk => hk.elim) ?aF ?aO ?aB ?aS ?aL ?_; (case aP => exact rfl); (case aB => exact (Bz HB.out)); (case aF => exact (fun k_ hk => Kd.fresh' (Kd.R_lt (Rz HO_7.out)) k_ hk)); (case aO => exact (Rz HO_3.out)); (case aS => exact (below_size (Bz HB.out))); (case aL => have := LMc10.out; omega); intro v491 w11 ho hb hg hat; rw [← Ny490.out] at ho; have n0_ := am (Kd.R_after (ok := (fun _ => True)) (Rz (Kd.R_mono HO_7.out (fun _ hk => ⟨trivial, hk⟩))) hg hat); have n1_ := am (hb); have n2_ := am (ho); clear HO_7 HB HO_3; revert n0_ n1_ n2_; intro HO_7 HB HO492; clear ho hb hg hat))
        go_roundg k1
        case measure => have := HK1.out; omega
        case rel => exact ⟨(y490), (wrap64 (x9_1 + 1)), wZ, H', ⟨by have := HK1.out; omega⟩, ⟨Rz HO492.out⟩, ⟨Rz (Kd.R_mono HO_7.out (fun _ hk => hk.2))⟩, ⟨Bz HB.out⟩⟩
       ·rw [if_neg c10] at H
        exact absurd H (by simp)
      ·replace c9 := Bool.eq_false_iff.mpr c9
       subst c9
       rw [if_neg (show ¬ (false = true) by decide)] at H; have H' := am H; clear H; obtain ⟨ad488, e488, hx488_0⟩ := Kd.at_string (Kd.R_reads' HO_7.out).2.2 x9_1 dT dT; cases e488; have p488 := eT (0 ≤ (x9_1 : Int)); have q488 := eT (x9_1 < (t485.length : Int))
       go_wp2_with (first | ((with_reducible refine gate_callee (f := 60) rfl ?_); refine gL (some 15) Try.func60 #[.slice A0 l0.length c0, .string (rdOf ByteArray.empty t485 x9_1)] ?_; (with_reducible refine (spec_l1HasS.calls k1 _ _ l0 (rdOf ByteArray.empty t485 x9_1) false _ ?side1 ?side2 A8.out).mono ?_); (case side1 => exact Cz (Kd.C_below HR0.out HB.out)); (case side2 => exact HC0.out); rintro e w' ⟨rfl, ⟨nd, rfl⟩⟩; refine ⟨_, rfl, ?_⟩))
       go_roundg k1
       case measure => have := HK1.out; omega
       case rel => exact ⟨(x3_1), (wrap64 (x9_1 + 1)), wZ, H', ⟨by have := HK1.out; omega⟩, ⟨Rz HO_3.out⟩, ⟨Rz HO_7.out⟩, ⟨Bz HB.out⟩⟩
     ·rw [if_neg c7] at H
      exact absurd H (by simp)
    ·rw [if_neg c6] at H
     exact absurd H (by simp)
   ·rw [if_neg c5] at H
    have c5b0 : decide (x9_1 < (t485.length : Int)) = false := decide_eq_false c5; clear c5; obtain rfl := Option.some.inj H
    go_wp2
    go_ret
    exact ⟨_, eZ, Rz (Kd.R_mono HO_3.out (fun _ hk => trivial)), Bz HB.out⟩

def spec_TrieKeyAt.f (k : Nat) (a0_0 : Int) (l0_1 : List Int) (a0_2 : Int) (l0_3 : List Int) (a0_4 : ByteArray) (a1 : Int) : Option (ByteArray × Bool) := (spec_trKeys.f k a0_0 l0_1 a0_2 l0_3 a0_4).bind fun bt494 => (if bt494.2 = true then ((spec_l1In.f a1 0 (wrap64 ((bt494.1.length : Int) - 1))).bind fun t498 => (if t498 = true then ((spec_trByNode.f k bt494.1).bind fun t499 => (if 0 ≤ a1 then (if a1 < (t499.length : Int) then (some (rdOf ByteArray.empty t499 a1, true)) else (none)) else (none))) else (some ((⟨#[]⟩ : ByteArray), false)))) else (some ((⟨#[]⟩ : ByteArray), false)))
theorem spec_TrieKeyAt.mono : ∀ a0 a1 a2 a3 a4 a5 k, LeO (spec_TrieKeyAt.f k a0 a1 a2 a3 a4 a5) (spec_TrieKeyAt.f (k + 1) a0 a1 a2 a3 a4 a5) := by
 intro a0 a1 a2 a3 a4 a5 k
 unfold spec_TrieKeyAt.f
 repeat' first | (with_reducible first | exact spec_trByNode.mono _ _ | exact spec_trKeys.mono _ _ _ _ _ _ | exact LeO.refl _ | exact LeO.none _ | refine LeO.ite ?_ ?_ | refine LeO.bind ?_ (fun _ => ?_)) | exact LeO.none _ | refine LeO.ite ?_ ?_ | refine LeO.bind ?_ (fun _ => ?_)
theorem spec_TrieKeyAt.calls (k : Nat) (a0_0 : Int) (A0_1 : Option Addr) (c0_1 : Nat) (l0_1 : List Int) (a0_2 : Int) (A0_3 : Option Addr) (c0_3 : Nat) (l0_3 : List Int) (a0_4 : ByteArray) (a1 : Int) (r1 : ByteArray) (r2 : Bool) (w : World) (hr0_1 : Kd.C (Kd.int .i64) w A0_1 l0_1.length l0_1) (hc0_1 : l0_1.length ≤ c0_1) (hr0_3 : Kd.C (Kd.int .i64) w A0_3 l0_3.length l0_3) (hc0_3 : l0_3.length ≤ c0_3) (h : spec_TrieKeyAt.f k a0_0 l0_1 a0_2 l0_3 a0_4 a1 = some (r1, r2)) :
  Calls Try.prog 17 #[.agg #[.int .i64 a0_0, .slice A0_1 l0_1.length c0_1, .int .i64 a0_2, .slice A0_3 l0_3.length c0_3, .string a0_4], .int .i64 a1] w fun e w' => e = .returned (.tuple #[.string r1, .bool r2]) ∧ Below w.heap.size w w' := by
 have hu32 := Try.underlying32; have HR0_1 := am hr0_1; have HC0_1 := am hc0_1; clear hr0_1 hc0_1; have HR0_3 := am hr0_3; have HC0_3 := am hc0_3; clear hr0_3 hc0_3; have HB := am (Below.refl w.heap.size w); have H : ((spec_trKeys.f k a0_0 l0_1 a0_2 l0_3 a0_4).bind fun bt494 => (if bt494.2 = true then ((spec_l1In.f a1 0 (wrap64 ((bt494.1.length : Int) - 1))).bind fun t498 => (if t498 = true then ((spec_trByNode.f k bt494.1).bind fun t499 => (if 0 ≤ a1 then (if a1 < (t499.length : Int) then (some (rdOf ByteArray.empty t499 a1, true)) else (none)) else (none))) else (some ((⟨#[]⟩ : ByteArray), false)))) else (some ((⟨#[]⟩ : ByteArray), false)))) = some (r1, r2) := h; clear h; replace H := Option.bind_eq_some_iff.mp H; obtain ⟨⟨t494, t497⟩, A30, H⟩ := H; (try dsimp -simprocs only at H); have A3 := am A30; clear A30
 by_cases c4 : t497 = true
 ·subst c4
  rw [if_pos rfl] at H; replace H := Option.bind_eq_some_iff.mp H; obtain ⟨t498, A50, H⟩ := H; (try dsimp -simprocs only at H); have A5 := am A50; clear A50
  by_cases c6 : t498 = true
  ·subst c6
   rw [if_pos rfl] at H; replace H := Option.bind_eq_some_iff.mp H; obtain ⟨t499, A70, H⟩ := H; (try dsimp -simprocs only at H); have A7 := am A70; clear A70
   by_cases c8 : 0 ≤ a1
   ·rw [if_pos c8] at H
    have c8b0 : decide (0 ≤ a1) = true := decide_eq_true c8; clear c8
    by_cases c9 : a1 < (t499.length : Int)
    ·rw [if_pos c9] at H
     have c9b0 : decide (a1 < (t499.length : Int)) = true := decide_eq_true c9; clear c9
     simp only [Option.some.injEq, Prod.mk.injEq] at H
     obtain ⟨rfl, rfl⟩ := H
     go_enter Try.func17, Try.ntmps17
     go_wp2_with (first | ((with_reducible refine gate_dst (N := 2) rfl ?_); (try (refine gate_guard (by rfl) ?_; dsimp only)); refine bE 2 #[.int .i64 a0_0, .slice A0_1 l0_1.length c0_1, .int .i64 a0_2, .slice A0_3 l0_3.length c0_3, .string a0_4] 32 ?_; intro gb493 hg w10 hbox hb; have n0_ := Bb HB hb; have n1_ := am (hbox); have n2_ := Gl HB hg; have n3_ := Gl HB hg; clear HB; revert n0_ n1_ n2_ n3_; intro HB BK493 GW493 GE493; clear hb hbox hg; obtain ⟨hcz11_0, hcz11_1, hcz11_2, hcz11_3, hcz11_4, hfz11_0, hfz11_1, hfz11_2, hfz11_3, hfz11_4⟩ := cf5 (w := w10) BK493) | ((with_reducible refine gate_callee (f := 40) rfl ?_); refine gL (some 10) Try.func40 #[.agg #[.int .i64 a0_0, .slice A0_1 l0_1.length c0_1, .int .i64 a0_2, .slice A0_3 l0_3.length c0_3, .string a0_4]] ?_; (with_reducible refine (spec_trKeys.calls k a0_0 _ _ l0_1 a0_2 _ _ l0_3 a0_4 t494 true _ ?side1 ?side2 ?side3 ?side4 A3.out).mono ?_); (case side1 => exact Cz (Kd.C_below HR0_1.out HB.out)); (case side2 => exact HC0_1.out); (case side3 => exact Cz (Kd.C_below HR0_3.out HB.out)); (case side4 => exact HC0_3.out); rintro e w12 ⟨v495, rfl, ho0, hb⟩; refine ⟨_, rfl, ?_⟩; have n0_ := Rm ho0 HB; have n1_ := Kb BK493 hb; have n2_ := Bc HB hb; clear BK493 HB; revert n0_ n1_ n2_; intro HO496 BK493 HB; (try clear hb); (try clear hb2); (try clear hk); (try clear hi); (try clear ho0); obtain ⟨Ao13, co13, eo13⟩ := Kd.R_slice HO496.out; subst eo13) | (go_at_call 46; (with_reducible refine (spec_l1In.calls a1 0 (wrap64 ((t494.length : Int) - 1)) true _ A5.out).mono ?_); rintro e w' ⟨rfl, ⟨nd, rfl⟩⟩) | ((with_reducible refine gate_callee (f := 47) rfl ?_); refine gL (some 24) Try.func47 #[.slice Ao13 t494.length co13] ?_; (with_reducible refine (spec_trByNode.calls k _ _ t494 t499 _ ?side1 ?side2 A7.out).mono ?_); (case side1 => exact Cz ((Kd.R_reads' HO496.out).2.2)); (case side2 => exact (Kd.R_reads' HO496.out).2.1); rintro e w14 ⟨v500, rfl, ho0, hb⟩; refine ⟨_, rfl, ?_⟩; have n0_ := Re HO496 (Kd.R_base ho0) hb; have n1_ := Rm (Kd.R_new' ho0 (Kd.R_lt (Rz HO496.out))) HB; have n2_ := Kb BK493 hb; have n3_ := Bc HB hb; clear HO496 BK493 HB; revert n0_ n1_ n2_ n3_; intro HO496 HO501 BK493 HB; (try clear hb); (try clear hb2); (try clear hk); (try clear hi); (try clear ho0); obtain ⟨Ao15, co15, eo15⟩ := Kd.R_slice HO501.out; subst eo15; obtain ⟨ad502, e502, hx502_0⟩ := Kd.at_string (Kd.R_reads' HO501.out).2.2 a1 dT dT; cases e502; have p502 := eT (0 ≤ (a1 : Int)); have q502 := eT (a1 < (t499.length : Int))))
     go_ret2
     exact ⟨eZ, Bq⟩
    ·rw [if_neg c9] at H
     exact absurd H (by simp)
   ·rw [if_neg c8] at H
    exact absurd H (by simp)
  ·replace c6 := Bool.eq_false_iff.mpr c6
   subst c6
   rw [if_neg (show ¬ (false = true) by decide)] at H
   simp only [Option.some.injEq, Prod.mk.injEq] at H
   obtain ⟨rfl, rfl⟩ := H
   go_enter Try.func17, Try.ntmps17
   go_wp2_with (first | ((with_reducible refine gate_dst (N := 2) rfl ?_); (try (refine gate_guard (by rfl) ?_; dsimp only)); refine bE 2 #[.int .i64 a0_0, .slice A0_1 l0_1.length c0_1, .int .i64 a0_2, .slice A0_3 l0_3.length c0_3, .string a0_4] 32 ?_; intro gb493 hg w16 hbox hb; have n0_ := Bb HB hb; have n1_ := am (hbox); have n2_ := Gl HB hg; have n3_ := Gl HB hg; clear HB; revert n0_ n1_ n2_ n3_; intro HB BK493 GW493 GE493; clear hb hbox hg; obtain ⟨hcz17_0, hcz17_1, hcz17_2, hcz17_3, hcz17_4, hfz17_0, hfz17_1, hfz17_2, hfz17_3, hfz17_4⟩ := cf5 (w := w16) BK493) | ((with_reducible refine gate_callee (f := 40) rfl ?_); refine gL (some 10) Try.func40 #[.agg #[.int .i64 a0_0, .slice A0_1 l0_1.length c0_1, .int .i64 a0_2, .slice A0_3 l0_3.length c0_3, .string a0_4]] ?_; (with_reducible refine (spec_trKeys.calls k a0_0 _ _ l0_1 a0_2 _ _ l0_3 a0_4 t494 true _ ?side1 ?side2 ?side3 ?side4 A3.out).mono ?_); (case side1 => exact Cz (Kd.C_below HR0_1.out HB.out)); (case side2 => exact HC0_1.out); (case side3 => exact Cz (Kd.C_below HR0_3.out HB.out)); (case side4 => exact HC0_3.out); rintro e w18 ⟨v495, rfl, ho0, hb⟩; refine ⟨_, rfl, ?_⟩; have n0_ := Rm ho0 HB; have n1_ := Kb BK493 hb; have n2_ := Bc HB hb; clear BK493 HB; revert n0_ n1_ n2_; intro HO496 BK493 HB; (try clear hb); (try clear hb2); (try clear hk); (try clear hi); (try clear ho0); obtain ⟨Ao19, co19, eo19⟩ := Kd.R_slice HO496.out; subst eo19) | (go_at_call 46; (with_reducible refine (spec_l1In.calls a1 0 (wrap64 ((t494.length : Int) - 1)) false _ A5.out).mono ?_); rintro e w' ⟨rfl, ⟨nd, rfl⟩⟩))
   go_ret2
   exact ⟨eZ, Bq⟩
 ·replace c4 := Bool.eq_false_iff.mpr c4
  subst c4
  rw [if_neg (show ¬ (false = true) by decide)] at H
  simp only [Option.some.injEq, Prod.mk.injEq] at H
  obtain ⟨rfl, rfl⟩ := H
  go_enter Try.func17, Try.ntmps17
  go_wp2_with (first | ((with_reducible refine gate_dst (N := 2) rfl ?_); (try (refine gate_guard (by rfl) ?_; dsimp only)); refine bE 2 #[.int .i64 a0_0, .slice A0_1 l0_1.length c0_1, .int .i64 a0_2, .slice A0_3 l0_3.length c0_3, .string a0_4] 32 ?_; intro gb493 hg w20 hbox hb; have n0_ := Bb HB hb; have n1_ := am (hbox); have n2_ := Gl HB hg; have n3_ := Gl HB hg; clear HB; revert n0_ n1_ n2_ n3_; intro HB BK493 GW493 GE493; clear hb hbox hg; obtain ⟨hcz21_0, hcz21_1, hcz21_2, hcz21_3, hcz21_4, hfz21_0, hfz21_1, hfz21_2, hfz21_3, hfz21_4⟩ := cf5 (w := w20) BK493) | ((with_reducible refine gate_callee (f := 40) rfl ?_); refine gL (some 10) Try.func40 #[.agg #[.int .i64 a0_0, .slice A0_1 l0_1.length c0_1, .int .i64 a0_2, .slice A0_3 l0_3.length c0_3, .string a0_4]] ?_; (with_reducible refine (spec_trKeys.calls k a0_0 _ _ l0_1 a0_2 _ _ l0_3 a0_4 t494 false _ ?side1 ?side2 ?side3 ?side4 A3.out).mono ?_); (case side1 => exact Cz (Kd.C_below HR0_1.out HB.out)); (case side2 => exact HC0_1.out); (case side3 => exact Cz (Kd.C_below HR0_3.out HB.out)); (case side4 => exact HC0_3.out); rintro e w22 ⟨v495, rfl, ho0, hb⟩; refine ⟨_, rfl, ?_⟩; have n0_ := Rm ho0 HB; have n1_ := Kb BK493 hb; have n2_ := Bc HB hb; clear BK493 HB; revert n0_ n1_ n2_; intro HO496 BK493 HB; (try clear hb); (try clear hb2); (try clear hk); (try clear hi); (try clear ho0)))
  go_ret2
  exact ⟨eZ, Bq⟩

def impl_Bits_count.l0 : Nat → Int → Int → Int → Int → List Int → Option (Int)
 | 0, _, _, _, _, _ => none
 | k + 1, x2, x7, x8, x1000, x1001 => if x8 < x2 then ((impl_Bits_at.f x1000 x1001 x8).bind fun t503 => (if t503 = true then (impl_Bits_count.l0 k x2 (wrap64 (x7 + 1)) (wrap64 (x8 + 1)) x1000 x1001) else (impl_Bits_count.l0 k x2 x7 (wrap64 (x8 + 1)) x1000 x1001))) else (some x7)
def impl_Bits_count.f (k : Nat) (a0_0 : Int) (l0_1 : List Int) (a1 : Int) (a2 : Int) : Option (Int) := impl_Bits_count.l0 k a2 0 a1 a0_0 l0_1
theorem impl_Bits_count.mono_l : ∀ k, (∀ y0 y1 y2 y3 y4, LeO (impl_Bits_count.l0 k y0 y1 y2 y3 y4) (impl_Bits_count.l0 (k + 1) y0 y1 y2 y3 y4))
 | 0 => fun _ _ _ _ _ r h => by simp [impl_Bits_count.l0] at h
 | k + 1 => by
  have ih0 := impl_Bits_count.mono_l k
  ·intro y0 y1 y2 y3 y4
   unfold impl_Bits_count.l0
   repeat' first | (with_reducible first | exact ih0 _ _ _ _ _ | exact LeO.refl _ | exact LeO.none _ | refine LeO.ite ?_ ?_ | refine LeO.bind ?_ (fun _ => ?_)) | exact LeO.none _ | refine LeO.ite ?_ ?_ | refine LeO.bind ?_ (fun _ => ?_)
theorem impl_Bits_count.mono : ∀ a0 a1 a2 a3 k, LeO (impl_Bits_count.f k a0 a1 a2 a3) (impl_Bits_count.f (k + 1) a0 a1 a2 a3) := by
 intro a0 a1 a2 a3 k
 have ih0 := impl_Bits_count.mono_l k
 unfold impl_Bits_count.f
 repeat' first | (with_reducible first | exact ih0 _ _ _ _ _ | exact LeO.refl _ | exact LeO.none _ | refine LeO.ite ?_ ?_ | refine LeO.bind ?_ (fun _ => ?_)) | exact LeO.none _ | refine LeO.ite ?_ ?_ | refine LeO.bind ?_ (fun _ => ?_)
theorem impl_Bits_count.calls (k : Nat) (g0 : Nat) (a0_0 : Int) (A0_1 : Option Addr) (c0_1 : Nat) (l0_1 : List Int) (a1 : Int) (a2 : Int) (r : Int) (w : World) (hb0 : w.heap[g0]? = some (.cells #[.int .i64 a0_0, .slice A0_1 l0_1.length c0_1] 30 (0, 0))) (hr0_1 : Kd.C (Kd.int .i64) w A0_1 l0_1.length l0_1) (hc0_1 : l0_1.length ≤ c0_1) (h : impl_Bits_count.f k a0_0 l0_1 a1 a2 = some r) :
  Calls Try.prog 50 #[.pointer (some ⟨g0, 0, none⟩), .int .i64 a1, .int .i64 a2] w fun e w' => e = .returned (.int .i64 r) ∧ Drawn0 w w' := by
 have HR0_1 := am hr0_1
 have HC0_1 := am hc0_1
 clear hr0_1 hc0_1
 have BK0 := am hb0
 clear hb0
 have H : (impl_Bits_count.l0 k a2 0 a1 a0_0 l0_1) = some r := h
 clear h
 have H' := am H
 clear H
 go_enter Try.func50, Try.ntmps50
 go_wp2
 go_loopg [7, 8] k (fun kq v7 v8 w' => ∃ (x7_1 : Int) (x8_1 : Int), v7 = .int .i64 x7_1 ∧ v8 = .int .i64 x8_1 ∧ Aside0 (impl_Bits_count.l0 kq a2 x7_1 x8_1 a0_0 l0_1 = some r) ∧ Aside0 (kq ≤ k) ∧ Aside0 (w'.heap[g0]? = some (.cells #[.int .i64 a0_0, (.slice A0_1 l0_1.length c0_1)] 30 (0, 0))) ∧ Drawn0 w w')
 case atStart => exact ⟨(0), (a1), wZ, wZ, H', ⟨Nat.le_refl _⟩, ⟨by (with_reducible repeat (first | refine blk_drewN ?_ _ | refine blk_drew ?_ | refine blk_alloc ?_ _)); exact BK0.out⟩, by repeat (first | exact Drawn0.refl _ | apply Drawn0.step)⟩
 case round =>
  clear H'
  try clear p2
  obtain ⟨x7_1, x8_1, rfl, rfl, HA, HK1, BK0, ⟨m1, rfl⟩⟩ := hrel
  cases gk with
  | zero => exact absurd HA.out (by simp [impl_Bits_count.l0])
  | succ k1 =>
   have H := HA.out
   clear HA
   simp only [impl_Bits_count.l0] at H
   by_cases c4 : x8_1 < a2
   ·rw [if_pos c4] at H
    have c4b0 : decide (x8_1 < a2) = true := decide_eq_true c4
    clear c4
    replace H := Option.bind_eq_some_iff.mp H
    obtain ⟨t503, A50, H⟩ := H
    (try dsimp -simprocs only at H)
    have A5 := am A50
    clear A50
    by_cases c6 : t503 = true
    ·subst c6
     have H1 : (impl_Bits_count.l0 k1 a2 (wrap64 (x7_1 + 1)) (wrap64 (x8_1 + 1)) a0_0 l0_1) = some r := by rw [if_pos rfl] at H; exact H
     clear H
     have H := H1
     clear H1
     have H' := am H
     clear H
     go_wp2_with (first | ((with_reducible refine gate_callee (f := 49) rfl ?_); refine goesL_ (some 17) rfl rfl Try.func49 (by kernel_rfl) rfl #[.pointer (some ⟨g0, 0, none⟩), .int .i64 x8_1] rfl (by (try simp only [List.map_toArray, List.map_cons, List.map_nil]); first | done | rfl | (simp only [List.length_drop, List.length_take]; rfl)) ?_; (with_reducible refine (impl_Bits_at.calls g0 a0_0 A0_1 c0_1 l0_1 x8_1 true _ ?side1 ?side2 ?side3 A5.out).mono ?_); (case side1 => exact Kz BK0.out); (case side2 => repeat (first | exact HR0_1.out | (with_reducible refine Kd.C_alloc ?_ _) | (with_reducible refine Kd.C_drewN ?_ _) | (with_reducible refine Kd.C_drew ?_))); (case side3 => exact HC0_1.out); rintro e w' ⟨rfl, ⟨nd, rfl⟩⟩; refine ⟨_, rfl, ?_⟩))
     go_roundg k1
     case measure => have := HK1.out; omega
     case rel => exact ⟨(wrap64 (x7_1 + 1)), (wrap64 (x8_1 + 1)), wZ, wZ, H', ⟨by have := HK1.out; omega⟩, ⟨by (with_reducible repeat (first | refine blk_drewN ?_ _ | refine blk_drew ?_ | refine blk_alloc ?_ _)); exact BK0.out⟩, by repeat (first | exact Drawn0.refl _ | apply Drawn0.step)⟩
    ·replace c6 := Bool.eq_false_iff.mpr c6
     subst c6
     have H1 : (impl_Bits_count.l0 k1 a2 x7_1 (wrap64 (x8_1 + 1)) a0_0 l0_1) = some r := by rw [if_neg (show ¬ (false = true) by decide)] at H; exact H
     clear H
     have H := H1
     clear H1
     have H' := am H
     clear H
     go_wp2_with (first | ((with_reducible refine gate_callee (f := 49) rfl ?_); refine goesL_ (some 17) rfl rfl Try.func49 (by kernel_rfl) rfl #[.pointer (some ⟨g0, 0, none⟩), .int .i64 x8_1] rfl (by (try simp only [List.map_toArray, List.map_cons, List.map_nil]); first | done | rfl | (simp only [List.length_drop, List.length_take]; rfl)) ?_; (with_reducible refine (impl_Bits_at.calls g0 a0_0 A0_1 c0_1 l0_1 x8_1 false _ ?side1 ?side2 ?side3 A5.out).mono ?_); (case side1 => exact Kz BK0.out); (case side2 => repeat (first | exact HR0_1.out | (with_reducible refine Kd.C_alloc ?_ _) | (with_reducible refine Kd.C_drewN ?_ _) | (with_reducible refine Kd.C_drew ?_))); (case side3 => exact HC0_1.out); rintro e w' ⟨rfl, ⟨nd, rfl⟩⟩; refine ⟨_, rfl, ?_⟩))
     go_roundg k1
     case measure => have := HK1.out; omega
     case rel => exact ⟨(x7_1), (wrap64 (x8_1 + 1)), wZ, wZ, H', ⟨by have := HK1.out; omega⟩, ⟨by (with_reducible repeat (first | refine blk_drewN ?_ _ | refine blk_drew ?_ | refine blk_alloc ?_ _)); exact BK0.out⟩, by repeat (first | exact Drawn0.refl _ | apply Drawn0.step)⟩
   ·rw [if_neg c4] at H
    have c4b0 : decide (x8_1 < a2) = false := decide_eq_false c4
    clear c4
    obtain rfl := Option.some.inj H
    go_wp2
    go_ret
    exact ⟨by first | rfl | (simp; done) | (simp [*]; done), by repeat (first | exact Drawn0.refl _ | apply Drawn0.step)⟩

theorem impl_Bits_count.calls_v0_32_2 (k : Nat) (g0 : Nat) (z0_0 : Int) (z0_1 : Value) (z0_4 : ByteArray) (a0_0 : Int) (A0_1 : Option Addr) (c0_1 : Nat) (l0_1 : List Int) (a1 : Int) (a2 : Int) (r : Int) (w : World) (hb0 : w.heap[g0]? = some (.cells #[.int .i64 z0_0, z0_1, .int .i64 a0_0, .slice A0_1 l0_1.length c0_1, .string z0_4] 32 (0, 0))) (hr0_1 : Kd.C (Kd.int .i64) w A0_1 l0_1.length l0_1) (hc0_1 : l0_1.length ≤ c0_1) (h : impl_Bits_count.f k a0_0 l0_1 a1 a2 = some r) :
  Calls Try.prog 50 #[.pointer (some ⟨g0, 2, none⟩), .int .i64 a1, .int .i64 a2] w fun e w' => e = .returned (.int .i64 r) ∧ Drawn0 w w' := by
 have HR0_1 := am hr0_1
 have HC0_1 := am hc0_1
 clear hr0_1 hc0_1
 have BK0 := am hb0
 clear hb0
 have H : (impl_Bits_count.l0 k a2 0 a1 a0_0 l0_1) = some r := h
 clear h
 have H' := am H
 clear H
 go_enter Try.func50, Try.ntmps50
 go_wp2
 go_loopg [7, 8] k (fun kq v7 v8 w' => ∃ (x7_1 : Int) (x8_1 : Int), v7 = .int .i64 x7_1 ∧ v8 = .int .i64 x8_1 ∧ Aside0 (impl_Bits_count.l0 kq a2 x7_1 x8_1 a0_0 l0_1 = some r) ∧ Aside0 (kq ≤ k) ∧ Aside0 (w'.heap[g0]? = some (.cells #[.int .i64 z0_0, z0_1, .int .i64 a0_0, (.slice A0_1 l0_1.length c0_1), .string z0_4] 32 (0, 0))) ∧ Drawn0 w w')
 case atStart => exact ⟨(0), (a1), wZ, wZ, H', ⟨Nat.le_refl _⟩, ⟨by (with_reducible repeat (first | refine blk_drewN ?_ _ | refine blk_drew ?_ | refine blk_alloc ?_ _)); exact BK0.out⟩, by repeat (first | exact Drawn0.refl _ | apply Drawn0.step)⟩
 case round =>
  clear H'
  try clear p2
  obtain ⟨x7_1, x8_1, rfl, rfl, HA, HK1, BK0, ⟨m1, rfl⟩⟩ := hrel
  cases gk with
  | zero => exact absurd HA.out (by simp [impl_Bits_count.l0])
  | succ k1 =>
   have H := HA.out
   clear HA
   simp only [impl_Bits_count.l0] at H
   by_cases c4 : x8_1 < a2
   ·rw [if_pos c4] at H
    have c4b0 : decide (x8_1 < a2) = true := decide_eq_true c4
    clear c4
    replace H := Option.bind_eq_some_iff.mp H
    obtain ⟨t510, A50, H⟩ := H
    (try dsimp -simprocs only at H)
    have A5 := am A50
    clear A50
    by_cases c6 : t510 = true
    ·subst c6
     have H1 : (impl_Bits_count.l0 k1 a2 (wrap64 (x7_1 + 1)) (wrap64 (x8_1 + 1)) a0_0 l0_1) = some r := by rw [if_pos rfl] at H; exact H
     clear H
     have H := H1
     clear H1
     have H' := am H
     clear H
     go_wp2_with (first | ((with_reducible refine gate_callee (f := 49) rfl ?_); refine goesL_ (some 17) rfl rfl Try.func49 (by kernel_rfl) rfl #[.pointer (some ⟨g0, 2, none⟩), .int .i64 x8_1] rfl (by (try simp only [List.map_toArray, List.map_cons, List.map_nil]); first | done | rfl | (simp only [List.length_drop, List.length_take]; rfl)) ?_; (with_reducible refine (impl_Bits_at.calls_v0_32_2 g0 z0_0 z0_1 z0_4 a0_0 A0_1 c0_1 l0_1 x8_1 true _ ?side1 ?side2 ?side3 A5.out).mono ?_); (case side1 => exact Kz BK0.out); (case side2 => repeat (first | exact HR0_1.out | (with_reducible refine Kd.C_alloc ?_ _) | (with_reducible refine Kd.C_drewN ?_ _) | (with_reducible refine Kd.C_drew ?_))); (case side3 => exact HC0_1.out); rintro e w' ⟨rfl, ⟨nd, rfl⟩⟩; refine ⟨_, rfl, ?_⟩))
     go_roundg k1
     case measure => have := HK1.out; omega
     case rel => exact ⟨(wrap64 (x7_1 + 1)), (wrap64 (x8_1 + 1)), wZ, wZ, H', ⟨by have := HK1.out; omega⟩, ⟨by (with_reducible repeat (first | refine blk_drewN ?_ _ | refine blk_drew ?_ | refine blk_alloc ?_ _)); exact BK0.out⟩, by repeat (first | exact Drawn0.refl _ | apply Drawn0.step)⟩
    ·replace c6 := Bool.eq_false_iff.mpr c6
     subst c6
     have H1 : (impl_Bits_count.l0 k1 a2 x7_1 (wrap64 (x8_1 + 1)) a0_0 l0_1) = some r := by rw [if_neg (show ¬ (false = true) by decide)] at H; exact H
     clear H
     have H := H1
     clear H1
     have H' := am H
     clear H
     go_wp2_with (first | ((with_reducible refine gate_callee (f := 49) rfl ?_); refine goesL_ (some 17) rfl rfl Try.func49 (by kernel_rfl) rfl #[.pointer (some ⟨g0, 2, none⟩), .int .i64 x8_1] rfl (by (try simp only [List.map_toArray, List.map_cons, List.map_nil]); first | done | rfl | (simp only [List.length_drop, List.length_take]; rfl)) ?_; (with_reducible refine (impl_Bits_at.calls_v0_32_2 g0 z0_0 z0_1 z0_4 a0_0 A0_1 c0_1 l0_1 x8_1 false _ ?side1 ?side2 ?side3 A5.out).mono ?_); (case side1 => exact Kz BK0.out); (case side2 => repeat (first | exact HR0_1.out | (with_reducible refine Kd.C_alloc ?_ _) | (with_reducible refine Kd.C_drewN ?_ _) | (with_reducible refine Kd.C_drew ?_))); (case side3 => exact HC0_1.out); rintro e w' ⟨rfl, ⟨nd, rfl⟩⟩; refine ⟨_, rfl, ?_⟩))
     go_roundg k1
     case measure => have := HK1.out; omega
     case rel => exact ⟨(x7_1), (wrap64 (x8_1 + 1)), wZ, wZ, H', ⟨by have := HK1.out; omega⟩, ⟨by (with_reducible repeat (first | refine blk_drewN ?_ _ | refine blk_drew ?_ | refine blk_alloc ?_ _)); exact BK0.out⟩, by repeat (first | exact Drawn0.refl _ | apply Drawn0.step)⟩
   ·rw [if_neg c4] at H
    have c4b0 : decide (x8_1 < a2) = false := decide_eq_false c4
    clear c4
    obtain rfl := Option.some.inj H
    go_wp2
    go_ret
    exact ⟨by first | rfl | (simp; done) | (simp [*]; done), by repeat (first | exact Drawn0.refl _ | apply Drawn0.step)⟩

def impl_TrieKeyAt.l0 : Nat → Int → List ByteArray → Int → Int → Int → List Int → Int → List Int → ByteArray → Option (ByteArray × Bool)
 | 0, _, _, _, _, _, _, _, _, _ => none
 | k + 1, x1, x8, x9, x10, x512000, x512001, x512002, x512003, x512004 => if x10 < x9 then (if 0 ≤ x10 then (if x10 < (x8.length : Int) then ((impl_Bits_at.f x512002 x512003 x10).bind fun t516 => (if t516 = true then ((impl_Bits_count.f k x512002 x512003 0 x10).bind fun t517 => (if t517 = x1 then (some (rdOf ByteArray.empty x8 x10, true)) else (impl_TrieKeyAt.l0 k x1 x8 x9 (wrap64 (x10 + 1)) x512000 x512001 x512002 x512003 x512004))) else (impl_TrieKeyAt.l0 k x1 x8 x9 (wrap64 (x10 + 1)) x512000 x512001 x512002 x512003 x512004))) else (none)) else (none)) else (some ((⟨#[]⟩ : ByteArray), false))
def impl_TrieKeyAt.f (k : Nat) (a0_0 : Int) (l0_1 : List Int) (a0_2 : Int) (l0_3 : List Int) (a0_4 : ByteArray) (a1 : Int) : Option (ByteArray × Bool) := (impl_Trie_nodes.f k a0_0 l0_1 a0_2 l0_3 a0_4).bind fun t512 => (impl_TrieKeyAt.l0 k a1 t512 (t512.length : Int) 0 a0_0 l0_1 a0_2 l0_3 a0_4)
theorem impl_TrieKeyAt.mono_l : ∀ k, (∀ y0 y1 y2 y3 y4 y5 y6 y7 y8, LeO (impl_TrieKeyAt.l0 k y0 y1 y2 y3 y4 y5 y6 y7 y8) (impl_TrieKeyAt.l0 (k + 1) y0 y1 y2 y3 y4 y5 y6 y7 y8))
 | 0 => fun _ _ _ _ _ _ _ _ _ r h => by simp [impl_TrieKeyAt.l0] at h
 | k + 1 => by
  have ih0 := impl_TrieKeyAt.mono_l k
  ·intro y0 y1 y2 y3 y4 y5 y6 y7 y8
   unfold impl_TrieKeyAt.l0
   repeat' first | (with_reducible first | exact ih0 _ _ _ _ _ _ _ _ _ | exact impl_Bits_count.mono _ _ _ _ _ | exact impl_Trie_nodes.mono _ _ _ _ _ _ | exact LeO.refl _ | exact LeO.none _ | refine LeO.ite ?_ ?_ | refine LeO.bind ?_ (fun _ => ?_)) | exact LeO.none _ | refine LeO.ite ?_ ?_ | refine LeO.bind ?_ (fun _ => ?_)
theorem impl_TrieKeyAt.mono : ∀ a0 a1 a2 a3 a4 a5 k, LeO (impl_TrieKeyAt.f k a0 a1 a2 a3 a4 a5) (impl_TrieKeyAt.f (k + 1) a0 a1 a2 a3 a4 a5) := by
 intro a0 a1 a2 a3 a4 a5 k; have ih0 := impl_TrieKeyAt.mono_l k
 unfold impl_TrieKeyAt.f
 repeat' first | (with_reducible first | exact ih0 _ _ _ _ _ _ _ _ _ | exact impl_Bits_count.mono _ _ _ _ _ | exact impl_Trie_nodes.mono _ _ _ _ _ _ | exact LeO.refl _ | exact LeO.none _ | refine LeO.ite ?_ ?_ | refine LeO.bind ?_ (fun _ => ?_)) | exact LeO.none _ | refine LeO.ite ?_ ?_ | refine LeO.bind ?_ (fun _ => ?_)
theorem impl_TrieKeyAt.calls (k : Nat) (a0_0 : Int) (A0_1 : Option Addr) (c0_1 : Nat) (l0_1 : List Int) (a0_2 : Int) (A0_3 : Option Addr) (c0_3 : Nat) (l0_3 : List Int) (a0_4 : ByteArray) (a1 : Int) (r1 : ByteArray) (r2 : Bool) (w : World) (hr0_1 : Kd.C (Kd.int .i64) w A0_1 l0_1.length l0_1) (hc0_1 : l0_1.length ≤ c0_1) (hr0_3 : Kd.C (Kd.int .i64) w A0_3 l0_3.length l0_3) (hc0_3 : l0_3.length ≤ c0_3) (h : impl_TrieKeyAt.f k a0_0 l0_1 a0_2 l0_3 a0_4 a1 = some (r1, r2)) :
  Calls Try.prog 18 #[.agg #[.int .i64 a0_0, .slice A0_1 l0_1.length c0_1, .int .i64 a0_2, .slice A0_3 l0_3.length c0_3, .string a0_4], .int .i64 a1] w fun e w' => e = .returned (.tuple #[.string r1, .bool r2]) ∧ Below w.heap.size w w' := by
 have hu32 := Try.underlying32; have HR0_1 := am hr0_1; have HC0_1 := am hc0_1; clear hr0_1 hc0_1; have HR0_3 := am hr0_3; have HC0_3 := am hc0_3; clear hr0_3 hc0_3; have HB := am (Below.refl w.heap.size w); have H : ((impl_Trie_nodes.f k a0_0 l0_1 a0_2 l0_3 a0_4).bind fun t512 => (impl_TrieKeyAt.l0 k a1 t512 (t512.length : Int) 0 a0_0 l0_1 a0_2 l0_3 a0_4)) = some (r1, r2) := h; clear h; replace H := Option.bind_eq_some_iff.mp H; obtain ⟨t512, A30, H⟩ := H; (try dsimp -simprocs only at H); have A3 := am A30; clear A30; have H' := am H; clear H
 go_enter Try.func18, Try.ntmps18
 go_wp2_with (first | ((with_reducible refine gate_dst (N := 2) rfl ?_); refine bE 2 #[.int .i64 a0_0, .slice A0_1 l0_1.length c0_1, .int .i64 a0_2, .slice A0_3 l0_3.length c0_3, .string a0_4] 32 ?_; intro gb511 hg w4 hbox hb; have n0_ := Bb HB hb; have n1_ := am (hbox); have n2_ := Gl HB hg; have n3_ := Gl HB hg; clear HB; revert n0_ n1_ n2_ n3_; intro HB BK511 GW511 GE511; clear hb hbox hg) | ((with_reducible refine gate_callee (f := 48) rfl ?_); refine gL (some 8) Try.func48 #[.pointer (some ⟨gb511, 0, none⟩)] ?_; (with_reducible refine (impl_Trie_nodes.calls k gb511 a0_0 A0_1 c0_1 l0_1 a0_2 A0_3 c0_3 l0_3 a0_4 t512 _ ?side1 ?side2 ?side3 ?side4 ?side5 A3.out).mono ?_); (case side1 => exact Kz BK511.out); (case side2 => exact Cz (Kd.C_below HR0_1.out HB.out)); (case side3 => exact HC0_1.out); (case side4 => exact Cz (Kd.C_below HR0_3.out HB.out)); (case side5 => exact HC0_3.out); rintro e w5 ⟨⟨v513, rfl, ho0, hb⟩, hnil_v513⟩; refine ⟨_, rfl, ?_⟩; have n0_ := Rm ho0 HB; have n1_ := Kb BK511 hb; have n2_ := Bc HB hb; clear BK511 HB; revert n0_ n1_ n2_; intro HO514 BK511 HB; (try clear hb); (try clear hb2); (try clear hk); (try clear hi); (try clear ho0); obtain ⟨Ao6, co6, eo6⟩ := Kd.R_slice HO514.out; subst eo6))
 (try simp only [aP])
 go_loopg [10] k (fun kq v10 w' => ∃ (x10_1 : Int), v10 = .int .i64 x10_1 ∧ Aside0 (impl_TrieKeyAt.l0 kq a1 t512 (t512.length : Int) x10_1 a0_0 l0_1 a0_2 l0_3 a0_4 = some (r1, r2)) ∧ Aside0 (kq ≤ k) ∧ Aside0 (Kd.R Kd.string 9 w' w.heap.size (fun _ => True) (.slice Ao6 t512.length co6) t512) ∧ Aside0 (w'.heap[gb511]? = some (.cells #[.int .i64 a0_0, (.slice A0_1 l0_1.length c0_1), .int .i64 a0_2, (.slice A0_3 l0_3.length c0_3), .string a0_4] 32 (0, 0))) ∧ Aside0 (Below w.heap.size w w'))
 case atStart => exact ⟨(0), wZ, H', ⟨Nat.le_refl _⟩, ⟨Rz HO514.out⟩, ⟨Kz BK511.out⟩, ⟨Bq⟩⟩
 case round =>
  clear H'
  try clear c1
  try clear p2
  try clear c4
  obtain ⟨x10_1, rfl, HA, HK1, HO_8, BK511, HB⟩ := hrel; cases gk with
  | zero => exact absurd HA.out (by simp [impl_TrieKeyAt.l0])
  | succ k1 =>
   have H := HA.out; clear HA
   simp only [impl_TrieKeyAt.l0] at H
   by_cases c7 : x10_1 < (t512.length : Int)
   ·rw [if_pos c7] at H
    have c7b0 : decide (x10_1 < (t512.length : Int)) = true := decide_eq_true c7; clear c7
    by_cases c8 : 0 ≤ x10_1
    ·rw [if_pos c8] at H
     have c8b0 : decide (0 ≤ x10_1) = true := decide_eq_true c8; clear c8
     by_cases c9 : x10_1 < (t512.length : Int)
     ·rw [if_pos c9] at H
      have c9b0 : decide (x10_1 < (t512.length : Int)) = true := decide_eq_true c9; clear c9; replace H := Option.bind_eq_some_iff.mp H; obtain ⟨t516, A100, H⟩ := H; (try dsimp -simprocs only at H); have A10 := am A100; clear A100
      by_cases c11 : t516 = true
      ·subst c11
       rw [if_pos rfl] at H; replace H := Option.bind_eq_some_iff.mp H; obtain ⟨t517, A120, H⟩ := H; (try dsimp -simprocs only at H); have A12 := am A120; clear A120
       by_cases c13 : t517 = a1
       ·rw [if_pos c13] at H
        have c13b0 : (t517 == a1) = true := beq_iff_eq.mpr c13; have c13b1 : (t517 != a1) = false := bne_eq_false_iff_eq.mpr c13; clear c13
        simp only [Option.some.injEq, Prod.mk.injEq] at H
        obtain ⟨rfl, rfl⟩ := H; obtain ⟨ad515, e515, hx515_0⟩ := Kd.at_string (Kd.R_reads' HO_8.out).2.2 x10_1 dT dT; cases e515; have p515 := eT (0 ≤ (x10_1 : Int)); have q515 := eT (x10_1 < (t512.length : Int))
        go_wp2_with (first | ((with_reducible refine gate_callee (f := 49) rfl ?_); refine gL (some 17) Try.func49 #[.pointer (some ⟨gb511, 2, none⟩), .int .i64 x10_1] ?_; (with_reducible refine (impl_Bits_at.calls_v0_32_2 gb511 a0_0 (.slice A0_1 l0_1.length c0_1) a0_4 a0_2 A0_3 c0_3 l0_3 x10_1 true _ ?side1 ?side2 ?side3 A10.out).mono ?_); (case side1 => exact Kz BK511.out); (case side2 => exact Cz (Kd.C_below HR0_3.out HB.out)); (case side3 => exact HC0_3.out); rintro e w' ⟨rfl, ⟨nd, rfl⟩⟩; refine ⟨_, rfl, ?_⟩) | (go_at_call 50; (with_reducible refine (impl_Bits_count.calls_v0_32_2 k1 gb511 a0_0 (.slice A0_1 l0_1.length c0_1) a0_4 a0_2 A0_3 c0_3 l0_3 0 x10_1 t517 _ ?side1 ?side2 ?side3 A12.out).mono ?_); (case side1 => exact Kz BK511.out); (case side2 => exact Cz (Kd.C_below HR0_3.out (Bq))); (case side3 => exact HC0_3.out); rintro e w' ⟨rfl, ⟨nd, rfl⟩⟩))
        go_ret2
        exact ⟨eZ, Bq⟩
       ·rw [if_neg c13] at H
        have c13b0 : (t517 == a1) = false := beq_eq_false_iff_ne.mpr c13; have c13b1 : (t517 != a1) = true := bne_iff_ne.mpr c13; have H' := am H; clear H; obtain ⟨ad515, e515, hx515_0⟩ := Kd.at_string (Kd.R_reads' HO_8.out).2.2 x10_1 dT dT; cases e515; have p515 := eT (0 ≤ (x10_1 : Int)); have q515 := eT (x10_1 < (t512.length : Int))
        go_wp2_with (first | ((with_reducible refine gate_callee (f := 49) rfl ?_); refine gL (some 17) Try.func49 #[.pointer (some ⟨gb511, 2, none⟩), .int .i64 x10_1] ?_; (with_reducible refine (impl_Bits_at.calls_v0_32_2 gb511 a0_0 (.slice A0_1 l0_1.length c0_1) a0_4 a0_2 A0_3 c0_3 l0_3 x10_1 true _ ?side1 ?side2 ?side3 A10.out).mono ?_); (case side1 => exact Kz BK511.out); (case side2 => exact Cz (Kd.C_below HR0_3.out HB.out)); (case side3 => exact HC0_3.out); rintro e w' ⟨rfl, ⟨nd, rfl⟩⟩; refine ⟨_, rfl, ?_⟩) | (go_at_call 50; (with_reducible refine (impl_Bits_count.calls_v0_32_2 k1 gb511 a0_0 (.slice A0_1 l0_1.length c0_1) a0_4 a0_2 A0_3 c0_3 l0_3 0 x10_1 t517 _ ?side1 ?side2 ?side3 A12.out).mono ?_); (case side1 => exact Kz BK511.out); (case side2 => exact Cz (Kd.C_below HR0_3.out (Bq))); (case side3 => exact HC0_3.out); rintro e w' ⟨rfl, ⟨nd, rfl⟩⟩))
        go_roundg k1
        case measure => have := HK1.out; omega
        case rel => exact ⟨(wrap64 (x10_1 + 1)), wZ, H', ⟨by have := HK1.out; omega⟩, ⟨Rz HO_8.out⟩, ⟨Kz BK511.out⟩, ⟨Bq⟩⟩
      ·replace c11 := Bool.eq_false_iff.mpr c11
       subst c11
       rw [if_neg (show ¬ (false = true) by decide)] at H; have H' := am H; clear H; obtain ⟨ad515, e515, hx515_0⟩ := Kd.at_string (Kd.R_reads' HO_8.out).2.2 x10_1 dT dT; cases e515; have p515 := eT (0 ≤ (x10_1 : Int)); have q515 := eT (x10_1 < (t512.length : Int))
       go_wp2_with (first | ((with_reducible refine gate_callee (f := 49) rfl ?_); refine gL (some 17) Try.func49 #[.pointer (some ⟨gb511, 2, none⟩), .int .i64 x10_1] ?_; (with_reducible refine (impl_Bits_at.calls_v0_32_2 gb511 a0_0 (.slice A0_1 l0_1.length c0_1) a0_4 a0_2 A0_3 c0_3 l0_3 x10_1 false _ ?side1 ?side2 ?side3 A10.out).mono ?_); (case side1 => exact Kz BK511.out); (case side2 => exact Cz (Kd.C_below HR0_3.out HB.out)); (case side3 => exact HC0_3.out); rintro e w' ⟨rfl, ⟨nd, rfl⟩⟩; refine ⟨_, rfl, ?_⟩))
       go_roundg k1
       case measure => have := HK1.out; omega
       case rel => exact ⟨(wrap64 (x10_1 + 1)), wZ, H', ⟨by have := HK1.out; omega⟩, ⟨Rz HO_8.out⟩, ⟨Kz BK511.out⟩, ⟨Bq⟩⟩
     ·rw [if_neg c9] at H
      exact absurd H (by simp)
    ·rw [if_neg c8] at H
     exact absurd H (by simp)
   ·rw [if_neg c7] at H
    have c7b0 : decide (x10_1 < (t512.length : Int)) = false := decide_eq_false c7; clear c7
    simp only [Option.some.injEq, Prod.mk.injEq] at H
    obtain ⟨rfl, rfl⟩ := H
    go_wp2
    go_ret2
    exact ⟨eZ, Bq⟩

def laws_FnExactTrieKeyAt.j0 : Nat → Bool → Int → List Int → Int → List Int → ByteArray → Int → List Int → Int → List Int → ByteArray → Option (Bool)
 | 0, _, _, _, _, _, _, _, _, _, _, _ => none
 | k + 1, x38, x519000, x519001, x519002, x519003, x519004, x541000, x541001, x541002, x541003, x541004 => if x38 = true then (some false) else ((laws_toTrie.f k x519000 x519001 x519002 x519003 x519004).bind fun bt543 => ((laws_eqTrie.f k x541000 x541001 x541002 x541003 x541004 bt543.1 bt543.2.1 bt543.2.2.1 bt543.2.2.2.1 bt543.2.2.2.2).bind fun t552 => (if t552 = true then (some true) else (some false))))
def laws_FnExactTrieKeyAt.f (k : Nat) (a0_0 : Int) (l0_1 : List Int) (a0_2 : Int) (l0_3 : List Int) (a0_4 : ByteArray) (a1 : Int) : Option (Bool) := (laws_szTrie.f a0_0 l0_1 a0_2 l0_3 a0_4 1048576).bind fun t519 => (if t519 < 0 then (some true) else ((laws_toTrie.f k a0_0 l0_1 a0_2 l0_3 a0_4).bind fun bt520 => ((spec_TrieKeyAt.f k bt520.1 bt520.2.1 bt520.2.2.1 bt520.2.2.2.1 bt520.2.2.2.2 a1).bind fun bt529 => ((laws_toTrie.f k a0_0 l0_1 a0_2 l0_3 a0_4).bind fun bt531 => ((impl_TrieKeyAt.f k bt531.1 bt531.2.1 bt531.2.2.1 bt531.2.2.2.1 bt531.2.2.2.2 a1).bind fun bt541 => (if bt541.1.toList = bt529.1.toList then (laws_FnExactTrieKeyAt.j0 k (bt541.2 != bt529.2) a0_0 l0_1 a0_2 l0_3 a0_4 bt531.1 bt531.2.1 bt531.2.2.1 bt531.2.2.2.1 bt531.2.2.2.2) else (laws_FnExactTrieKeyAt.j0 k true a0_0 l0_1 a0_2 l0_3 a0_4 bt531.1 bt531.2.1 bt531.2.2.1 bt531.2.2.2.1 bt531.2.2.2.2)))))))
theorem laws_FnExactTrieKeyAt.mono_l : ∀ k, (∀ y0 y1 y2 y3 y4 y5 y6 y7 y8 y9 y10, LeO (laws_FnExactTrieKeyAt.j0 k y0 y1 y2 y3 y4 y5 y6 y7 y8 y9 y10) (laws_FnExactTrieKeyAt.j0 (k + 1) y0 y1 y2 y3 y4 y5 y6 y7 y8 y9 y10))
 | 0 => fun _ _ _ _ _ _ _ _ _ _ _ r h => by simp [laws_FnExactTrieKeyAt.j0] at h
 | k + 1 => by
  have ih0 := laws_FnExactTrieKeyAt.mono_l k
  ·intro y0 y1 y2 y3 y4 y5 y6 y7 y8 y9 y10
   unfold laws_FnExactTrieKeyAt.j0
   repeat' first | (with_reducible first | exact ih0 _ _ _ _ _ _ _ _ _ _ _ | exact impl_TrieKeyAt.mono _ _ _ _ _ _ _ | exact laws_eqTrie.mono _ _ _ _ _ _ _ _ _ _ _ | exact laws_toTrie.mono _ _ _ _ _ _ | exact spec_TrieKeyAt.mono _ _ _ _ _ _ _ | exact LeO.refl _ | exact LeO.none _ | refine LeO.ite ?_ ?_ | refine LeO.bind ?_ (fun _ => ?_)) | exact LeO.none _ | refine LeO.ite ?_ ?_ | refine LeO.bind ?_ (fun _ => ?_)
theorem laws_FnExactTrieKeyAt.mono : ∀ a0 a1 a2 a3 a4 a5 k, LeO (laws_FnExactTrieKeyAt.f k a0 a1 a2 a3 a4 a5) (laws_FnExactTrieKeyAt.f (k + 1) a0 a1 a2 a3 a4 a5) := by
 intro a0 a1 a2 a3 a4 a5 k; have ih0 := laws_FnExactTrieKeyAt.mono_l k
 unfold laws_FnExactTrieKeyAt.f
 repeat' first | (with_reducible first | exact ih0 _ _ _ _ _ _ _ _ _ _ _ | exact impl_TrieKeyAt.mono _ _ _ _ _ _ _ | exact laws_eqTrie.mono _ _ _ _ _ _ _ _ _ _ _ | exact laws_toTrie.mono _ _ _ _ _ _ | exact spec_TrieKeyAt.mono _ _ _ _ _ _ _ | exact LeO.refl _ | exact LeO.none _ | refine LeO.ite ?_ ?_ | refine LeO.bind ?_ (fun _ => ?_)) | exact LeO.none _ | refine LeO.ite ?_ ?_ | refine LeO.bind ?_ (fun _ => ?_)
theorem laws_FnExactTrieKeyAt.calls (k : Nat) (a0_0 : Int) (A0_1 : Option Addr) (c0_1 : Nat) (l0_1 : List Int) (a0_2 : Int) (A0_3 : Option Addr) (c0_3 : Nat) (l0_3 : List Int) (a0_4 : ByteArray) (a1 : Int) (r : Bool) (w : World) (hr0_1 : Kd.C (Kd.int .i64) w A0_1 l0_1.length l0_1) (hc0_1 : l0_1.length ≤ c0_1) (hr0_3 : Kd.C (Kd.int .i64) w A0_3 l0_3.length l0_3) (hc0_3 : l0_3.length ≤ c0_3) (h : laws_FnExactTrieKeyAt.f k a0_0 l0_1 a0_2 l0_3 a0_4 a1 = some r) :
  Calls Try.prog 4 #[.agg #[.int .i64 a0_0, .slice A0_1 l0_1.length c0_1, .int .i64 a0_2, .slice A0_3 l0_3.length c0_3, .string a0_4], .int .i64 a1] w fun e w' => e = .returned (.bool r) ∧ Below w.heap.size w w' := by
 have hu26 := Try.underlying26; have hu32 := Try.underlying32; have HR0_1 := am hr0_1; have HC0_1 := am hc0_1; clear hr0_1 hc0_1; have HR0_3 := am hr0_3; have HC0_3 := am hc0_3; clear hr0_3 hc0_3; have HB := am (Below.refl w.heap.size w); have H : ((laws_szTrie.f a0_0 l0_1 a0_2 l0_3 a0_4 1048576).bind fun t519 => (if t519 < 0 then (some true) else ((laws_toTrie.f k a0_0 l0_1 a0_2 l0_3 a0_4).bind fun bt520 => ((spec_TrieKeyAt.f k bt520.1 bt520.2.1 bt520.2.2.1 bt520.2.2.2.1 bt520.2.2.2.2 a1).bind fun bt529 => ((laws_toTrie.f k a0_0 l0_1 a0_2 l0_3 a0_4).bind fun bt531 => ((impl_TrieKeyAt.f k bt531.1 bt531.2.1 bt531.2.2.1 bt531.2.2.2.1 bt531.2.2.2.2 a1).bind fun bt541 => (if bt541.1.toList = bt529.1.toList then (laws_FnExactTrieKeyAt.j0 k (bt541.2 != bt529.2) a0_0 l0_1 a0_2 l0_3 a0_4 bt531.1 bt531.2.1 bt531.2.2.1 bt531.2.2.2.1 bt531.2.2.2.2) else (laws_FnExactTrieKeyAt.j0 k true a0_0 l0_1 a0_2 l0_3 a0_4 bt531.1 bt531.2.1 bt531.2.2.1 bt531.2.2.2.1 bt531.2.2.2.2)))))))) = some r := h; clear h; replace H := Option.bind_eq_some_iff.mp H; obtain ⟨t519, A30, H⟩ := H; (try dsimp -simprocs only at H); have A3 := am A30; clear A30
 by_cases c4 : t519 < 0
 ·rw [if_pos c4] at H
  have c4b0 : decide (t519 < 0) = true := decide_eq_true c4; clear c4; obtain rfl := Option.some.inj H
  go_enter Try.func4, Try.ntmps4
  go_wp2_with (first | ((with_reducible refine gate_dst (N := 2) rfl ?_); refine bE 2 #[.int .i64 a0_0, .slice A0_1 l0_1.length c0_1, .int .i64 a0_2, .slice A0_3 l0_3.length c0_3, .string a0_4] 26 ?_; intro gb518 hg w5 hbox hb; have n0_ := Bb HB hb; have n1_ := am (hbox); have n2_ := Gl HB hg; have n3_ := Gl HB hg; clear HB; revert n0_ n1_ n2_ n3_; intro HB BK518 GW518 GE518; clear hb hbox hg; obtain ⟨hcz6_0, hcz6_1, hcz6_2, hcz6_3, hcz6_4, hfz6_0, hfz6_1, hfz6_2, hfz6_3, hfz6_4⟩ := cf5 (w := w5) BK518) | ((with_reducible refine gate_callee (f := 12) rfl ?_); refine gL (some 13) Try.func12 #[.agg #[.int .i64 a0_0, .slice A0_1 l0_1.length c0_1, .int .i64 a0_2, .slice A0_3 l0_3.length c0_3, .string a0_4], .int .i64 1048576] ?_; (with_reducible refine (laws_szTrie.calls a0_0 _ _ l0_1 a0_2 _ _ l0_3 a0_4 1048576 t519 _ ?side1 ?side2 ?side3 ?side4 A3.out).mono ?_); (case side1 => exact Cz (Kd.C_below HR0_1.out HB.out)); (case side2 => exact HC0_1.out); (case side3 => exact Cz (Kd.C_below HR0_3.out HB.out)); (case side4 => exact HC0_3.out); rintro e w7 ⟨rfl, hb⟩; refine ⟨_, rfl, ?_⟩; have n0_ := Kb BK518 hb; have n1_ := Bc HB hb; clear BK518 HB; revert n0_ n1_; intro BK518 HB; (try clear hb); (try clear hb2); (try clear hk); (try clear hi)))
  go_ret
  exact ⟨eZ, Bq⟩
 ·rw [if_neg c4] at H
  have c4b0 : decide (t519 < 0) = false := decide_eq_false c4; clear c4; replace H := Option.bind_eq_some_iff.mp H; obtain ⟨⟨t520, t521, t524, t525, t528⟩, A80, H⟩ := H; (try dsimp -simprocs only at H); have A8 := am A80; clear A80; replace H := Option.bind_eq_some_iff.mp H; obtain ⟨⟨t529, t530⟩, A90, H⟩ := H; (try dsimp -simprocs only at H); have A9 := am A90; clear A90; replace H := Option.bind_eq_some_iff.mp H; obtain ⟨⟨t531, t532, t535, t536, t539⟩, A100, H⟩ := H; (try dsimp -simprocs only at H); have A10 := am A100; clear A100; replace H := Option.bind_eq_some_iff.mp H; obtain ⟨⟨t541, t542⟩, A110, H⟩ := H; (try dsimp -simprocs only at H); have A11 := am A110; clear A110; have HC12 := am H; clear H
  go_enter Try.func4, Try.ntmps4
  go_upto_region 8 with (first | ((with_reducible refine gate_dst (N := 2) rfl ?_); refine bE 2 #[.int .i64 a0_0, .slice A0_1 l0_1.length c0_1, .int .i64 a0_2, .slice A0_3 l0_3.length c0_3, .string a0_4] 26 ?_; intro gb518 hg w13 hbox hb; have n0_ := Bb HB hb; have n1_ := am (hbox); have n2_ := Gl HB hg; have n3_ := Gl HB hg; clear HB; revert n0_ n1_ n2_ n3_; intro HB BK518 GW518 GE518; clear hb hbox hg; obtain ⟨hcz14_0, hcz14_1, hcz14_2, hcz14_3, hcz14_4, hfz14_0, hfz14_1, hfz14_2, hfz14_3, hfz14_4⟩ := cf5 (w := w13) BK518) | ((with_reducible refine gate_callee (f := 12) rfl ?_); refine gL (some 13) Try.func12 #[.agg #[.int .i64 a0_0, .slice A0_1 l0_1.length c0_1, .int .i64 a0_2, .slice A0_3 l0_3.length c0_3, .string a0_4], .int .i64 1048576] ?_; (with_reducible refine (laws_szTrie.calls a0_0 _ _ l0_1 a0_2 _ _ l0_3 a0_4 1048576 t519 _ ?side1 ?side2 ?side3 ?side4 A3.out).mono ?_); (case side1 => exact Cz (Kd.C_below HR0_1.out HB.out)); (case side2 => exact HC0_1.out); (case side3 => exact Cz (Kd.C_below HR0_3.out HB.out)); (case side4 => exact HC0_3.out); rintro e w15 ⟨rfl, hb⟩; refine ⟨_, rfl, ?_⟩; have n0_ := Kb BK518 hb; have n1_ := Bc HB hb; clear BK518 HB; revert n0_ n1_; intro BK518 HB; (try clear hb); (try clear hb2); (try clear hk); (try clear hi); obtain ⟨hcz16_0, hcz16_1, hcz16_2, hcz16_3, hcz16_4, hfz16_0, hfz16_1, hfz16_2, hfz16_3, hfz16_4⟩ := cf5 (w := w15) BK518) | ((with_reducible refine gate_callee (f := 14) rfl ?_); refine gL (some 18) Try.func14 #[.agg #[.int .i64 a0_0, .slice A0_1 l0_1.length c0_1, .int .i64 a0_2, .slice A0_3 l0_3.length c0_3, .string a0_4]] ?_; (with_reducible refine (laws_toTrie.calls k a0_0 _ _ l0_1 a0_2 _ _ l0_3 a0_4 t520 t521 t524 t525 t528 _ ?side1 ?side2 ?side3 ?side4 A8.out).mono ?_); (case side1 => exact Cz (Kd.C_below HR0_1.out HB.out)); (case side2 => exact HC0_1.out); (case side3 => exact Cz (Kd.C_below HR0_3.out HB.out)); (case side4 => exact HC0_3.out); rintro e w17 ⟨v522, v526, rfl, ho0, ho1, hb⟩; refine ⟨_, rfl, ?_⟩; have n0_ := Rm ho0 HB; have n1_ := Rm ho1 HB; have n2_ := Kb BK518 hb; have n3_ := Bc HB hb; clear BK518 HB; revert n0_ n1_ n2_ n3_; intro HO523 HO527 BK518 HB; (try clear hb); (try clear hb2); (try clear hk); (try clear hi); (try clear ho0); (try clear ho1); obtain ⟨Ao18, co18, eo18⟩ := Kd.R_slice HO523.out; subst eo18; obtain ⟨Ao19, co19, eo19⟩ := Kd.R_slice HO527.out; subst eo19) | ((with_reducible refine gate_callee (f := 17) rfl ?_); refine gL (some 20) Try.func17 #[.agg #[.int .i64 t520, .slice Ao18 t521.length co18, .int .i64 t524, .slice Ao19 t525.length co19, .string t528], .int .i64 a1] ?_; (with_reducible refine (spec_TrieKeyAt.calls k t520 _ _ t521 t524 _ _ t525 t528 a1 t529 t530 _ ?side1 ?side2 ?side3 ?side4 A9.out).mono ?_); (case side1 => exact Cz ((Kd.R_reads' HO523.out).2.2)); (case side2 => exact (Kd.R_reads' HO523.out).2.1); (case side3 => exact Cz ((Kd.R_reads' HO527.out).2.2)); (case side4 => exact (Kd.R_reads' HO527.out).2.1); rintro e w20 ⟨rfl, hb⟩; refine ⟨_, rfl, ?_⟩; have n0_ := Rb HO523 hb; have n1_ := Rb HO527 hb; have n2_ := Kb BK518 hb; have n3_ := Bc HB hb; clear HO523 HO527 BK518 HB; revert n0_ n1_ n2_ n3_; intro HO523 HO527 BK518 HB; (try clear hb); (try clear hb2); (try clear hk); (try clear hi); obtain ⟨hcz21_0, hcz21_1, hcz21_2, hcz21_3, hcz21_4, hfz21_0, hfz21_1, hfz21_2, hfz21_3, hfz21_4⟩ := cf5 (w := w20) BK518) | ((with_reducible refine gate_callee (f := 14) rfl ?_); refine gL (some 24) Try.func14 #[.agg #[.int .i64 a0_0, .slice A0_1 l0_1.length c0_1, .int .i64 a0_2, .slice A0_3 l0_3.length c0_3, .string a0_4]] ?_; (with_reducible refine (laws_toTrie.calls k a0_0 _ _ l0_1 a0_2 _ _ l0_3 a0_4 t531 t532 t535 t536 t539 _ ?side1 ?side2 ?side3 ?side4 A10.out).mono ?_); (case side1 => exact Cz (Kd.C_below HR0_1.out HB.out)); (case side2 => exact HC0_1.out); (case side3 => exact Cz (Kd.C_below HR0_3.out HB.out)); (case side4 => exact HC0_3.out); rintro e w22 ⟨v533, v537, rfl, ho0, ho1, hb⟩; refine ⟨_, rfl, ?_⟩; have n0_ := am (Kd.R_mono (Kd.R_told (Kd.R_told (Kd.R_old (Rz HO523.out) hb) (Kd.R_base ho0)) (Kd.R_base ho1)) (fun _ h_ => h_.1)); have n1_ := am (Kd.R_mono (Kd.R_told (Kd.R_told (Kd.R_old (Rz HO527.out) hb) (Kd.R_base ho0)) (Kd.R_base ho1)) (fun _ h_ => h_.1)); have n2_ := Rm (Kd.R_new' (Kd.R_new' ho0 (Kd.R_lt (Rz HO523.out))) (Kd.R_lt (Rz HO527.out))) HB; have n3_ := Rm (Kd.R_new' (Kd.R_new' ho1 (Kd.R_lt (Rz HO523.out))) (Kd.R_lt (Rz HO527.out))) HB; have n4_ := Kb BK518 hb; have n5_ := Bc HB hb; clear HO523 HO527 BK518 HB; revert n0_ n1_ n2_ n3_ n4_ n5_; intro HO523 HO527 HO534 HO538 BK518 HB; (try clear hb); (try clear hb2); (try clear hk); (try clear hi); (try clear ho0); (try clear ho1)) | ((with_reducible refine gate_dst (N := 8) rfl ?_); refine bE 8 #[.int .i64 0, .slice none 0 0, .int .i64 0, .slice none 0 0, .string (⟨#[]⟩ : ByteArray)] 32 ?_; intro gb540 hg w23 hbox hb; have n0_ := Rb HO523 hb; have n1_ := Rb HO527 hb; have n2_ := Rb HO534 hb; have n3_ := Rb HO538 hb; have n4_ := Kb BK518 hb; have n5_ := Bc HB hb; have n6_ := am (hbox); have n7_ := Gm HB hg; have n8_ := Gm HB hg; have n9_ := Nl BK518 hg; have n10_ := Ng BK518 hg; clear HO523 HO527 HO534 HO538 BK518 HB; revert n0_ n1_ n2_ n3_ n4_ n5_ n6_ n7_ n8_ n9_ n10_; intro HO523 HO527 HO534 HO538 BK518 HB BK540 GW540 GE540 NB518_540 NB540_518; clear hb hbox hg; have hnb24 := NB540_518.out; have hnc24 := NB518_540.out; obtain ⟨hcz25_0, hcz25_1, hcz25_2, hcz25_3, hcz25_4, hfz25_0, hfz25_1, hfz25_2, hfz25_3, hfz25_4⟩ := cf5 (w := w23) BK540; obtain ⟨Ao26, co26, eo26⟩ := Kd.R_slice HO534.out; subst eo26; obtain ⟨Ao27, co27, eo27⟩ := Kd.R_slice HO538.out; subst eo27) | ((with_reducible refine gate_callee (f := 18) rfl ?_); refine gL (some 28) Try.func18 #[.agg #[.int .i64 t531, .slice Ao26 t532.length co26, .int .i64 t535, .slice Ao27 t536.length co27, .string t539], .int .i64 a1] ?_; (with_reducible refine (impl_TrieKeyAt.calls k t531 _ _ t532 t535 _ _ t536 t539 a1 t541 t542 _ ?side1 ?side2 ?side3 ?side4 A11.out).mono ?_); (case side1 => refine (Kd.R_reads' (e := 3) (base := w.heap.size) (ok := fun k_ => ((some k_ ≠ (.slice Ao27 t536.length co27 : Value).ownBlock ∧ some k_ ≠ (.slice Ao18 t521.length co18 : Value).ownBlock) ∧ some k_ ≠ (.slice Ao19 t525.length co19 : Value).ownBlock)) (n := t532.length) (c := co26) ?_).2.2; exact (Rz (Kd.R_mono (Kd.R_far (p := ⟨gb540, 4, none⟩) (Kd.R_far (p := ⟨gb540, 3, none⟩) (Kd.R_far (p := ⟨gb540, 2, none⟩) (Kd.R_far (p := ⟨gb540, 1, none⟩) (Kd.R_far (p := ⟨gb540, 0, none⟩) (Kd.R_types HO534.out BK540.out (by decide)) (fun _ hk => hk.2) (.int .i64 t531)) (fun _ hk => hk.2) (.slice Ao26 t532.length co26)) (fun _ hk => hk.2) (.int .i64 t535)) (fun _ hk => hk.2) (.slice Ao27 t536.length co27)) (fun _ hk => hk.2) (.string t539)) (fun _ h_ => h_.1)))); (case side2 => exact (Kd.R_reads' HO534.out).2.1); (case side3 => refine (Kd.R_reads' (e := 3) (base := w.heap.size) (ok := fun k_ => ((some k_ ≠ (.slice Ao26 t532.length co26 : Value).ownBlock ∧ some k_ ≠ (.slice Ao18 t521.length co18 : Value).ownBlock) ∧ some k_ ≠ (.slice Ao19 t525.length co19 : Value).ownBlock)) (n := t536.length) (c := co27) ?_).2.2; exact (Rz (Kd.R_mono (Kd.R_far (p := ⟨gb540, 4, none⟩) (Kd.R_far (p := ⟨gb540, 3, none⟩) (Kd.R_far (p := ⟨gb540, 2, none⟩) (Kd.R_far (p := ⟨gb540, 1, none⟩) (Kd.R_far (p := ⟨gb540, 0, none⟩) (Kd.R_types HO538.out BK540.out (by decide)) (fun _ hk => hk.2) (.int .i64 t531)) (fun _ hk => hk.2) (.slice Ao26 t532.length co26)) (fun _ hk => hk.2) (.int .i64 t535)) (fun _ hk => hk.2) (.slice Ao27 t536.length co27)) (fun _ hk => hk.2) (.string t539)) (fun _ h_ => h_.1)))); (case side4 => exact (Kd.R_reads' HO538.out).2.1); rintro e w28 ⟨rfl, hb⟩; refine ⟨_, rfl, ?_⟩; have n0_ := am (Kd.R_below (Rz (Kd.R_mono (Kd.R_far (p := ⟨gb540, 4, none⟩) (Kd.R_far (p := ⟨gb540, 3, none⟩) (Kd.R_far (p := ⟨gb540, 2, none⟩) (Kd.R_far (p := ⟨gb540, 1, none⟩) (Kd.R_far (p := ⟨gb540, 0, none⟩) (Kd.R_types HO523.out BK540.out (by decide)) (fun _ hk => hk.2) (.int .i64 t531)) (fun _ hk => hk.2) (.slice Ao26 t532.length co26)) (fun _ hk => hk.2) (.int .i64 t535)) (fun _ hk => hk.2) (.slice Ao27 t536.length co27)) (fun _ hk => hk.2) (.string t539)) (fun _ h_ => h_.1))) hb); have n1_ := am (Kd.R_below (Rz (Kd.R_mono (Kd.R_far (p := ⟨gb540, 4, none⟩) (Kd.R_far (p := ⟨gb540, 3, none⟩) (Kd.R_far (p := ⟨gb540, 2, none⟩) (Kd.R_far (p := ⟨gb540, 1, none⟩) (Kd.R_far (p := ⟨gb540, 0, none⟩) (Kd.R_types HO527.out BK540.out (by decide)) (fun _ hk => hk.2) (.int .i64 t531)) (fun _ hk => hk.2) (.slice Ao26 t532.length co26)) (fun _ hk => hk.2) (.int .i64 t535)) (fun _ hk => hk.2) (.slice Ao27 t536.length co27)) (fun _ hk => hk.2) (.string t539)) (fun _ h_ => h_.1))) hb); have n2_ := am (Kd.R_below (Rz (Kd.R_mono (Kd.R_far (p := ⟨gb540, 4, none⟩) (Kd.R_far (p := ⟨gb540, 3, none⟩) (Kd.R_far (p := ⟨gb540, 2, none⟩) (Kd.R_far (p := ⟨gb540, 1, none⟩) (Kd.R_far (p := ⟨gb540, 0, none⟩) (Kd.R_types HO534.out BK540.out (by decide)) (fun _ hk => hk.2) (.int .i64 t531)) (fun _ hk => hk.2) (.slice Ao26 t532.length co26)) (fun _ hk => hk.2) (.int .i64 t535)) (fun _ hk => hk.2) (.slice Ao27 t536.length co27)) (fun _ hk => hk.2) (.string t539)) (fun _ h_ => h_.1))) hb); have n3_ := am (Kd.R_below (Rz (Kd.R_mono (Kd.R_far (p := ⟨gb540, 4, none⟩) (Kd.R_far (p := ⟨gb540, 3, none⟩) (Kd.R_far (p := ⟨gb540, 2, none⟩) (Kd.R_far (p := ⟨gb540, 1, none⟩) (Kd.R_far (p := ⟨gb540, 0, none⟩) (Kd.R_types HO538.out BK540.out (by decide)) (fun _ hk => hk.2) (.int .i64 t531)) (fun _ hk => hk.2) (.slice Ao26 t532.length co26)) (fun _ hk => hk.2) (.int .i64 t535)) (fun _ hk => hk.2) (.slice Ao27 t536.length co27)) (fun _ hk => hk.2) (.string t539)) (fun _ h_ => h_.1))) hb); have n4_ := am (blk_below (g := gb518) (o := .cells #[.int .i64 a0_0, .slice A0_1 l0_1.length c0_1, .int .i64 a0_2, .slice A0_3 l0_3.length c0_3, .string a0_4] 26 (0, 0)) (by (with_reducible repeat (first | refine blk_drewN ?_ _ | refine blk_drew ?_ | refine blk_alloc ?_ _)); refine blk_far ?_ NB518_540.out _; (with_reducible repeat (first | refine blk_drewN ?_ _ | refine blk_drew ?_ | refine blk_alloc ?_ _)); refine blk_far ?_ NB518_540.out _; (with_reducible repeat (first | refine blk_drewN ?_ _ | refine blk_drew ?_ | refine blk_alloc ?_ _)); refine blk_far ?_ NB518_540.out _; (with_reducible repeat (first | refine blk_drewN ?_ _ | refine blk_drew ?_ | refine blk_alloc ?_ _)); refine blk_far ?_ NB518_540.out _; (with_reducible repeat (first | refine blk_drewN ?_ _ | refine blk_drew ?_ | refine blk_alloc ?_ _)); refine blk_far ?_ NB518_540.out _; exact Kz BK518.out) hb); have n5_ := am (blk_below (g := gb540) (o := .cells #[.int .i64 t531, .slice Ao26 t532.length co26, .int .i64 t535, .slice Ao27 t536.length co27, .string t539] 32 (0, 0)) (by (with_reducible repeat (first | refine blk_drewN ?_ _ | refine blk_drew ?_ | refine blk_alloc ?_ _)); refine blk_put (cs := #[.int .i64 t531, .slice Ao26 t532.length co26, .int .i64 t535, .slice Ao27 t536.length co27, .string (⟨#[]⟩ : ByteArray)]) ?_ 4 _ rfl; (with_reducible repeat (first | refine blk_drewN ?_ _ | refine blk_drew ?_ | refine blk_alloc ?_ _)); refine blk_put (cs := #[.int .i64 t531, .slice Ao26 t532.length co26, .int .i64 t535, .slice none 0 0, .string (⟨#[]⟩ : ByteArray)]) ?_ 3 _ rfl; (with_reducible repeat (first | refine blk_drewN ?_ _ | refine blk_drew ?_ | refine blk_alloc ?_ _)); refine blk_put (cs := #[.int .i64 t531, .slice Ao26 t532.length co26, .int .i64 0, .slice none 0 0, .string (⟨#[]⟩ : ByteArray)]) ?_ 2 _ rfl; (with_reducible repeat (first | refine blk_drewN ?_ _ | refine blk_drew ?_ | refine blk_alloc ?_ _)); refine blk_put (cs := #[.int .i64 t531, .slice none 0 0, .int .i64 0, .slice none 0 0, .string (⟨#[]⟩ : ByteArray)]) ?_ 1 _ rfl; (with_reducible repeat (first | refine blk_drewN ?_ _ | refine blk_drew ?_ | refine blk_alloc ?_ _)); refine blk_put (cs := #[.int .i64 0, .slice none 0 0, .int .i64 0, .slice none 0 0, .string (⟨#[]⟩ : ByteArray)]) ?_ 0 _ rfl; exact Kz BK540.out) hb); have n6_ := Bc HB hb; clear HO523 HO527 HO534 HO538 BK518 BK540 HB; revert n0_ n1_ n2_ n3_ n4_ n5_ n6_; intro HO523 HO527 HO534 HO538 BK518 BK540 HB; (try clear hb); (try clear hb2); (try clear hk); (try clear hi)))
  (try simp only [aP])
  go_cut [38] (fun v38 wc => ∃ (kq : Nat) (x38_11 : Bool), v38 = .bool x38_11 ∧ Aside0 (laws_FnExactTrieKeyAt.j0 kq x38_11 a0_0 l0_1 a0_2 l0_3 a0_4 t531 t532 t535 t536 t539 = some r) ∧ Aside0 (kq ≤ k) ∧ Aside0 (Kd.R (Kd.int .i64) 3 wc w.heap.size (fun k_ => some k_ ≠ ((.slice Ao27 t536.length co27) : Value).ownBlock) (.slice Ao26 t532.length co26) t532) ∧ Aside0 (Kd.R (Kd.int .i64) 3 wc w.heap.size (fun k_ => some k_ ≠ ((.slice Ao26 t532.length co26) : Value).ownBlock) (.slice Ao27 t536.length co27) t536) ∧ Aside0 (wc.heap[gb518]? = some (.cells #[.int .i64 a0_0, (.slice A0_1 l0_1.length c0_1), .int .i64 a0_2, (.slice A0_3 l0_3.length c0_3), .string a0_4] 26 (0, 0))) ∧ Aside0 (wc.heap[gb540]? = some (.cells #[.int .i64 t531, (.slice Ao26 t532.length co26), .int .i64 t535, (.slice Ao27 t536.length co27), .string t539] 32 (0, 0))) ∧ Aside0 (Below w.heap.size w wc))
  case first =>
   have H := HC12.out; clear HC12
   by_cases c29 : t541.toList = t529.toList
   ·rw [if_pos c29] at H
    have c29b0 : (t541.toList == t529.toList) = true := beq_iff_eq.mpr c29; have c29b1 : (t541.toList != t529.toList) = false := bne_eq_false_iff_eq.mpr c29; clear c29
    (first | rw [c29b0] | (simp only [i64_w, i32_w]; rw [c29b0]) | skip)
    have H' := am H; clear H
    go_wp2
    go_meet
    case rel => exact ⟨_, ((t542 != t530)), wZ, H', ⟨by first | omega | exact Nat.le_refl _⟩, ⟨Rz (Kd.R_mono HO534.out (fun _ hk => hk.1.1))⟩, ⟨Rz (Kd.R_mono HO538.out (fun _ hk => hk.1.1))⟩, ⟨Kz BK518.out⟩, ⟨Kz BK540.out⟩, ⟨Bq⟩⟩
   ·rw [if_neg c29] at H
    have c29b0 : (t541.toList == t529.toList) = false := beq_eq_false_iff_ne.mpr c29; have c29b1 : (t541.toList != t529.toList) = true := bne_iff_ne.mpr c29
    (first | rw [c29b0] | (simp only [i64_w, i32_w]; rw [c29b0]) | skip)
    have H' := am H; clear H
    go_wp2
    go_meet
    case rel => exact ⟨_, (true), wZ, H', ⟨by first | omega | exact Nat.le_refl _⟩, ⟨Rz (Kd.R_mono HO534.out (fun _ hk => hk.1.1))⟩, ⟨Rz (Kd.R_mono HO538.out (fun _ hk => hk.1.1))⟩, ⟨Kz BK518.out⟩, ⟨Kz BK540.out⟩, ⟨Bq⟩⟩
  case rest =>
   clear HC12
   try clear c1
   try clear c2
   try clear p2
   try clear c4
   try clear c4b0
   try clear c12
   try clear c14
   try clear c17
   try clear c18
   try clear c24
   try clear c29
   try clear c29b0
   try clear c29b1
   try clear hcz14_0
   try clear hcz14_1
   try clear hcz14_2
   try clear hcz14_3
   try clear hcz14_4
   try clear hcz16_0
   try clear hcz16_1
   try clear hcz16_2
   try clear hcz16_3
   try clear hcz16_4
   try clear hcz21_0
   try clear hcz21_1
   try clear hcz21_2
   try clear hcz21_3
   try clear hcz21_4
   try clear hcz25_0
   try clear hcz25_1
   try clear hcz25_2
   try clear hcz25_3
   try clear hcz25_4
   try clear hcz6_0
   try clear hcz6_1
   try clear hcz6_2
   try clear hcz6_3
   try clear hcz6_4
   try clear hfz14_0
   try clear hfz14_1
   try clear hfz14_2
   try clear hfz14_3
   try clear hfz14_4
   try clear hfz16_0
   try clear hfz16_1
   try clear hfz16_2
   try clear hfz16_3
   try clear hfz16_4
   try clear hfz21_0
   try clear hfz21_1
   try clear hfz21_2
   try clear hfz21_3
   try clear hfz21_4
   try clear hfz25_0
   try clear hfz25_1
   try clear hfz25_2
   try clear hfz25_3
   try clear hfz25_4
   try clear hfz6_0
   try clear hfz6_1
   try clear hfz6_2
   try clear hfz6_3
   try clear hfz6_4
   obtain ⟨kq, x38_11, rfl, HA, HJ11, HO_541001, HO_541003, BK518, BK540, HB⟩ := hcut; cases kq with
   | zero => exact absurd HA.out (by simp [laws_FnExactTrieKeyAt.j0])
   | succ kj11 =>
    have H := HA.out; clear HA
    simp only [laws_FnExactTrieKeyAt.j0] at H
    by_cases c30 : x38_11 = true
    ·subst c30
     rw [if_pos rfl] at H; obtain rfl := Option.some.inj H
     go_wp2
     go_ret
     exact ⟨eZ, Bq⟩
    ·replace c30 := Bool.eq_false_iff.mpr c30
     subst c30
     rw [if_neg (show ¬ (false = true) by decide)] at H; replace H := Option.bind_eq_some_iff.mp H; obtain ⟨⟨t543, t544, t547, t548, t551⟩, A310, H⟩ := H; (try dsimp -simprocs only at H); have A31 := am A310; clear A310; replace H := Option.bind_eq_some_iff.mp H; obtain ⟨t552, A320, H⟩ := H; (try dsimp -simprocs only at H); have A32 := am A320; clear A320
     by_cases c33 : t552 = true
     ·subst c33
      rw [if_pos rfl] at H; obtain rfl := Option.some.inj H
      try go_wp2
      have n0_ := am (Kd.R_drew HO_541001.out); have n1_ := am (Kd.R_drew HO_541003.out); have n2_ := am (blk_drew BK518.out); have n3_ := am (blk_drew BK540.out); have n4_ := am (below_drew1 HB.out); clear HO_541001 HO_541003 BK518 BK540 HB; revert n0_ n1_ n2_ n3_ n4_; intro HO_541001 HO_541003 BK518 BK540 HB; refine start_ (n := 5) (S := fun w' => w'.cell? ⟨gb540, 0, none⟩ = some (.int .i64 t531) ∧ w'.cell? ⟨gb540, 1, none⟩ = some (.slice Ao26 t532.length co26) ∧ w'.cell? ⟨gb540, 2, none⟩ = some (.int .i64 t535) ∧ w'.cell? ⟨gb540, 3, none⟩ = some (.slice Ao27 t536.length co27) ∧ w'.cell? ⟨gb540, 4, none⟩ = some (.string t539) ∧ w'.cell? ⟨gb518, 0, none⟩ = some (.int .i64 a0_0) ∧ w'.cell? ⟨gb518, 1, none⟩ = some (.slice A0_1 l0_1.length c0_1) ∧ w'.cell? ⟨gb518, 2, none⟩ = some (.int .i64 a0_2) ∧ w'.cell? ⟨gb518, 3, none⟩ = some (.slice A0_3 l0_3.length c0_3) ∧ w'.cell? ⟨gb518, 4, none⟩ = some (.string a0_4)) (ds := []) (bA 5 0) (by kernel_rfl) rfl rfl ⟨cz BK540 0, cz BK540 1, cz BK540 2, cz BK540 3, cz BK540 4, cz BK518 0, cz BK518 1, cz BK518 2, cz BK518 3, cz BK518 4⟩ (fun hHeld => ?_); generalize wc.drew = w34 at HO_541001 HO_541003 BK518 BK540 HB hHeld ⊢; refine take_ (i := 0) (N := some 39) (v := ?_) (a' := ?_) (bA 5 1) rfl rfl (by kernel_rfl) (fun _ _ _ h => h) (Or.inl ⟨by rfl, ?_⟩) hHeld ?_ ?_
      rotate_left
      ·rintro w' ⟨s0, s1, s2, s3, s4, s5, s6, s7, s8, s9⟩
       go_simp
       with_reducible rfl
      rotate_left
      ·simp only [aP, i64_w, i32_w]
       rfl
      refine take_ (i := 1) (N := some 40) (v := ?_) (a' := ?_) (bA 5 3) rfl rfl (by kernel_rfl) (fun _ _ _ h => h) (Or.inl ⟨by rfl, ?_⟩) hHeld ?_ ?_
      rotate_left
      ·rintro w' ⟨s0, s1, s2, s3, s4, s5, s6, s7, s8, s9⟩
       go_simp
       with_reducible rfl
      rotate_left
      ·simp only [aP, i64_w, i32_w]
       rfl
      refine one_ (i := 2) (N := some 41) (bA 5 7) rfl rfl (by kernel_rfl) (by decide) (fun K hK => ?_); refine gZ Try.func14 #[.agg #[.int .i64 a0_0, .slice A0_1 l0_1.length c0_1, .int .i64 a0_2, .slice A0_3 l0_3.length c0_3, .string a0_4]] ?_
      with_reducible refine (laws_toTrie.calls kj11 a0_0 _ _ l0_1 a0_2 _ _ l0_3 a0_4 t543 t544 t547 t548 t551 _ ?side1 ?side2 ?side3 ?side4 A31.out).mono ?_
      (case side1 => exact Cz (Kd.C_below HR0_1.out HB.out))
      (case side2 => exact HC0_1.out)
      (case side3 => exact Cz (Kd.C_below HR0_3.out HB.out))
      (case side4 => exact HC0_3.out)
      rintro e w35 ⟨v545, v549, rfl, ho0, ho1, hb⟩; refine ⟨_, rfl, ?_⟩; have n0_ := am (Kd.R_mono (Kd.R_told (Kd.R_told (Kd.R_old (Rz HO_541001.out) hb) (Kd.R_base ho0)) (Kd.R_base ho1)) (fun _ h_ => h_.1)); have n1_ := am (Kd.R_mono (Kd.R_told (Kd.R_told (Kd.R_old (Rz HO_541003.out) hb) (Kd.R_base ho0)) (Kd.R_base ho1)) (fun _ h_ => h_.1)); have n2_ := Rm (Kd.R_new' (Kd.R_new' ho0 (Kd.R_lt (Rz HO_541001.out))) (Kd.R_lt (Rz HO_541003.out))) HB; have n3_ := Rm (Kd.R_new' (Kd.R_new' ho1 (Kd.R_lt (Rz HO_541001.out))) (Kd.R_lt (Rz HO_541003.out))) HB; have n4_ := Kb BK518 hb; have n5_ := Kb BK540 hb; have n6_ := Bc HB hb; clear HO_541001 HO_541003 BK518 BK540 HB; revert n0_ n1_ n2_ n3_ n4_ n5_ n6_; intro HO_541001 HO_541003 HO546 HO550 BK518 BK540 HB
      (try clear hb)
      (try clear hb2)
      (try clear hk)
      (try clear hi)
      (try clear ho0)
      (try clear ho1)
      obtain ⟨Ao36, co36, eo36⟩ := Kd.R_slice HO546.out
      (first | subst eo36 | (injection eo36 with f1_ f2_ f3_; have f4_ := f1_.symm; have f5_ := f3_.symm; clear f1_ f2_ f3_; subst f4_; subst f5_))
      obtain ⟨Ao37, co37, eo37⟩ := Kd.R_slice HO550.out
      (first | subst eo37 | (injection eo37 with f1_ f2_ f3_; have f4_ := f1_.symm; have f5_ := f3_.symm; clear f1_ f2_ f3_; subst f4_; subst f5_))
      refine hK.out _ _ ⟨cz BK540 0, cz BK540 1, cz BK540 2, cz BK540 3, cz BK540 4, cz BK518 0, cz BK518 1, cz BK518 2, cz BK518 3, cz BK518 4⟩ (fun hHeld => ?_); clear hK K; refine norm_ (a' := ?_) ?_ ?_; rotate_left; show Act.put _ (some 41) _ = _; simp only [aP, i64_w, i32_w]; rfl; refine one_ (i := 3) (N := some 42) (bA 5 15) rfl rfl (by kernel_rfl) (by decide) (fun K hK => ?_); refine gZ Try.func16 #[.agg #[.int .i64 t531, .slice Ao26 t532.length co26, .int .i64 t535, .slice Ao27 t536.length co27, .string t539], .agg #[.int .i64 t543, .slice Ao36 t544.length co36, .int .i64 t547, .slice Ao37 t548.length co37, .string t551]] ?_
      with_reducible refine (laws_eqTrie.calls kj11 t531 _ _ t532 t535 _ _ t536 t539 t543 _ _ t544 t547 _ _ t548 t551 true _ ?side1 ?side2 ?side3 ?side4 ?side5 ?side6 ?side7 ?side8 A32.out).mono ?_
      (case side1 => exact Cz ((Kd.R_reads' HO_541001.out).2.2))
      (case side2 => exact (Kd.R_reads' HO_541001.out).2.1)
      (case side3 => exact Cz ((Kd.R_reads' HO_541003.out).2.2))
      (case side4 => exact (Kd.R_reads' HO_541003.out).2.1)
      (case side5 => exact Cz ((Kd.R_reads' HO546.out).2.2))
      (case side6 => exact (Kd.R_reads' HO546.out).2.1)
      (case side7 => exact Cz ((Kd.R_reads' HO550.out).2.2))
      (case side8 => exact (Kd.R_reads' HO550.out).2.1)
      rintro e w38 ⟨rfl, hb⟩; refine ⟨_, rfl, ?_⟩; have n0_ := Rb HO_541001 hb; have n1_ := Rb HO_541003 hb; have n2_ := Rb HO546 hb; have n3_ := Rb HO550 hb; have n4_ := Kb BK518 hb; have n5_ := Kb BK540 hb; have n6_ := Bc HB hb; clear HO_541001 HO_541003 HO546 HO550 BK518 BK540 HB; revert n0_ n1_ n2_ n3_ n4_ n5_ n6_; intro HO_541001 HO_541003 HO546 HO550 BK518 BK540 HB
      (try clear hb)
      (try clear hb2)
      (try clear hk)
      (try clear hi)
      refine hK.out _ _ ⟨cz BK540 0, cz BK540 1, cz BK540 2, cz BK540 3, cz BK540 4, cz BK518 0, cz BK518 1, cz BK518 2, cz BK518 3, cz BK518 4⟩ (fun hHeld => ?_); clear hK K; refine norm_ (a' := ?_) ?_ ?_; rotate_left; show Act.put _ (some 42) _ = _; simp only [aP, i64_w, i32_w]; rfl; refine pure_ (i := 4) (N := some 43) (v := ?_) (a' := ?_) (bA 5 31) rfl rfl (by kernel_rfl) (fun _ _ _ h => h) (Or.inl ⟨by rfl, ?_⟩) ?_ ?_
      rotate_left
      ·intro w'
       go_simp
       with_reducible rfl
      rotate_left
      ·simp only [aP, i64_w, i32_w]
       rfl
      refine done_ (by kernel_rfl) ?_
      try go_wp2
      go_ret
      exact ⟨eZ, Bq⟩
     ·replace c33 := Bool.eq_false_iff.mpr c33
      subst c33
      rw [if_neg (show ¬ (false = true) by decide)] at H; obtain rfl := Option.some.inj H
      try go_wp2
      have n0_ := am (Kd.R_drew HO_541001.out); have n1_ := am (Kd.R_drew HO_541003.out); have n2_ := am (blk_drew BK518.out); have n3_ := am (blk_drew BK540.out); have n4_ := am (below_drew1 HB.out); clear HO_541001 HO_541003 BK518 BK540 HB; revert n0_ n1_ n2_ n3_ n4_; intro HO_541001 HO_541003 BK518 BK540 HB; refine start_ (n := 5) (S := fun w' => w'.cell? ⟨gb540, 0, none⟩ = some (.int .i64 t531) ∧ w'.cell? ⟨gb540, 1, none⟩ = some (.slice Ao26 t532.length co26) ∧ w'.cell? ⟨gb540, 2, none⟩ = some (.int .i64 t535) ∧ w'.cell? ⟨gb540, 3, none⟩ = some (.slice Ao27 t536.length co27) ∧ w'.cell? ⟨gb540, 4, none⟩ = some (.string t539) ∧ w'.cell? ⟨gb518, 0, none⟩ = some (.int .i64 a0_0) ∧ w'.cell? ⟨gb518, 1, none⟩ = some (.slice A0_1 l0_1.length c0_1) ∧ w'.cell? ⟨gb518, 2, none⟩ = some (.int .i64 a0_2) ∧ w'.cell? ⟨gb518, 3, none⟩ = some (.slice A0_3 l0_3.length c0_3) ∧ w'.cell? ⟨gb518, 4, none⟩ = some (.string a0_4)) (ds := []) (bA 5 0) (by kernel_rfl) rfl rfl ⟨cz BK540 0, cz BK540 1, cz BK540 2, cz BK540 3, cz BK540 4, cz BK518 0, cz BK518 1, cz BK518 2, cz BK518 3, cz BK518 4⟩ (fun hHeld => ?_); generalize wc.drew = w39 at HO_541001 HO_541003 BK518 BK540 HB hHeld ⊢; refine take_ (i := 0) (N := some 39) (v := ?_) (a' := ?_) (bA 5 1) rfl rfl (by kernel_rfl) (fun _ _ _ h => h) (Or.inl ⟨by rfl, ?_⟩) hHeld ?_ ?_
      rotate_left
      ·rintro w' ⟨s0, s1, s2, s3, s4, s5, s6, s7, s8, s9⟩
       go_simp
       with_reducible rfl
      rotate_left
      ·simp only [aP, i64_w, i32_w]
       rfl
      refine take_ (i := 1) (N := some 40) (v := ?_) (a' := ?_) (bA 5 3) rfl rfl (by kernel_rfl) (fun _ _ _ h => h) (Or.inl ⟨by rfl, ?_⟩) hHeld ?_ ?_
      rotate_left
      ·rintro w' ⟨s0, s1, s2, s3, s4, s5, s6, s7, s8, s9⟩
       go_simp
       with_reducible rfl
      rotate_left
      ·simp only [aP, i64_w, i32_w]
       rfl
      refine one_ (i := 2) (N := some 41) (bA 5 7) rfl rfl (by kernel_rfl) (by decide) (fun K hK => ?_); refine gZ Try.func14 #[.agg #[.int .i64 a0_0, .slice A0_1 l0_1.length c0_1, .int .i64 a0_2, .slice A0_3 l0_3.length c0_3, .string a0_4]] ?_
      with_reducible refine (laws_toTrie.calls kj11 a0_0 _ _ l0_1 a0_2 _ _ l0_3 a0_4 t543 t544 t547 t548 t551 _ ?side1 ?side2 ?side3 ?side4 A31.out).mono ?_
      (case side1 => exact Cz (Kd.C_below HR0_1.out HB.out))
      (case side2 => exact HC0_1.out)
      (case side3 => exact Cz (Kd.C_below HR0_3.out HB.out))
      (case side4 => exact HC0_3.out)
      rintro e w40 ⟨v545, v549, rfl, ho0, ho1, hb⟩; refine ⟨_, rfl, ?_⟩; have n0_ := am (Kd.R_mono (Kd.R_told (Kd.R_told (Kd.R_old (Rz HO_541001.out) hb) (Kd.R_base ho0)) (Kd.R_base ho1)) (fun _ h_ => h_.1)); have n1_ := am (Kd.R_mono (Kd.R_told (Kd.R_told (Kd.R_old (Rz HO_541003.out) hb) (Kd.R_base ho0)) (Kd.R_base ho1)) (fun _ h_ => h_.1)); have n2_ := Rm (Kd.R_new' (Kd.R_new' ho0 (Kd.R_lt (Rz HO_541001.out))) (Kd.R_lt (Rz HO_541003.out))) HB; have n3_ := Rm (Kd.R_new' (Kd.R_new' ho1 (Kd.R_lt (Rz HO_541001.out))) (Kd.R_lt (Rz HO_541003.out))) HB; have n4_ := Kb BK518 hb; have n5_ := Kb BK540 hb; have n6_ := Bc HB hb; clear HO_541001 HO_541003 BK518 BK540 HB; revert n0_ n1_ n2_ n3_ n4_ n5_ n6_; intro HO_541001 HO_541003 HO546 HO550 BK518 BK540 HB
      (try clear hb)
      (try clear hb2)
      (try clear hk)
      (try clear hi)
      (try clear ho0)
      (try clear ho1)
      obtain ⟨Ao41, co41, eo41⟩ := Kd.R_slice HO546.out
      (first | subst eo41 | (injection eo41 with f1_ f2_ f3_; have f4_ := f1_.symm; have f5_ := f3_.symm; clear f1_ f2_ f3_; subst f4_; subst f5_))
      obtain ⟨Ao42, co42, eo42⟩ := Kd.R_slice HO550.out
      (first | subst eo42 | (injection eo42 with f1_ f2_ f3_; have f4_ := f1_.symm; have f5_ := f3_.symm; clear f1_ f2_ f3_; subst f4_; subst f5_))
      refine hK.out _ _ ⟨cz BK540 0, cz BK540 1, cz BK540 2, cz BK540 3, cz BK540 4, cz BK518 0, cz BK518 1, cz BK518 2, cz BK518 3, cz BK518 4⟩ (fun hHeld => ?_); clear hK K; refine norm_ (a' := ?_) ?_ ?_; rotate_left; show Act.put _ (some 41) _ = _; simp only [aP, i64_w, i32_w]; rfl; refine one_ (i := 3) (N := some 42) (bA 5 15) rfl rfl (by kernel_rfl) (by decide) (fun K hK => ?_); refine gZ Try.func16 #[.agg #[.int .i64 t531, .slice Ao26 t532.length co26, .int .i64 t535, .slice Ao27 t536.length co27, .string t539], .agg #[.int .i64 t543, .slice Ao41 t544.length co41, .int .i64 t547, .slice Ao42 t548.length co42, .string t551]] ?_
      with_reducible refine (laws_eqTrie.calls kj11 t531 _ _ t532 t535 _ _ t536 t539 t543 _ _ t544 t547 _ _ t548 t551 false _ ?side1 ?side2 ?side3 ?side4 ?side5 ?side6 ?side7 ?side8 A32.out).mono ?_
      (case side1 => exact Cz ((Kd.R_reads' HO_541001.out).2.2))
      (case side2 => exact (Kd.R_reads' HO_541001.out).2.1)
      (case side3 => exact Cz ((Kd.R_reads' HO_541003.out).2.2))
      (case side4 => exact (Kd.R_reads' HO_541003.out).2.1)
      (case side5 => exact Cz ((Kd.R_reads' HO546.out).2.2))
      (case side6 => exact (Kd.R_reads' HO546.out).2.1)
      (case side7 => exact Cz ((Kd.R_reads' HO550.out).2.2))
      (case side8 => exact (Kd.R_reads' HO550.out).2.1)
      rintro e w43 ⟨rfl, hb⟩; refine ⟨_, rfl, ?_⟩; have n0_ := Rb HO_541001 hb; have n1_ := Rb HO_541003 hb; have n2_ := Rb HO546 hb; have n3_ := Rb HO550 hb; have n4_ := Kb BK518 hb; have n5_ := Kb BK540 hb; have n6_ := Bc HB hb; clear HO_541001 HO_541003 HO546 HO550 BK518 BK540 HB; revert n0_ n1_ n2_ n3_ n4_ n5_ n6_; intro HO_541001 HO_541003 HO546 HO550 BK518 BK540 HB
      (try clear hb)
      (try clear hb2)
      (try clear hk)
      (try clear hi)
      refine hK.out _ _ ⟨cz BK540 0, cz BK540 1, cz BK540 2, cz BK540 3, cz BK540 4, cz BK518 0, cz BK518 1, cz BK518 2, cz BK518 3, cz BK518 4⟩ (fun hHeld => ?_); clear hK K; refine norm_ (a' := ?_) ?_ ?_; rotate_left; show Act.put _ (some 42) _ = _; simp only [aP, i64_w, i32_w]; rfl; refine pure_ (i := 4) (N := some 43) (v := ?_) (a' := ?_) (bA 5 31) rfl rfl (by kernel_rfl) (fun _ _ _ h => h) (Or.inl ⟨by rfl, ?_⟩) ?_ ?_
      rotate_left
      ·intro w'
       go_simp
       with_reducible rfl
      rotate_left
      ·simp only [aP, i64_w, i32_w]
       rfl
      refine done_ (by kernel_rfl) ?_
      try go_wp2
      go_ret
      exact ⟨eZ, Bq⟩

def laws_FnExactTrieKeyAt.Pure : Prop := ∀ (a0_0 : Int) (l0_1 : List Int) (a0_2 : Int) (l0_3 : List Int) (a0_4 : ByteArray) (a1 : Int), (Lit.int .i64 a0_0).wf = true → l0_1.length ≤ maxLen → (∀ x ∈ l0_1, (Lit.int .i64 x).wf = true) → (Lit.int .i64 a0_2).wf = true → l0_3.length ≤ maxLen → (∀ x ∈ l0_3, (Lit.int .i64 x).wf = true) → a0_4.size ≤ maxLen → (Lit.int .i64 a1).wf = true → ∃ k, laws_FnExactTrieKeyAt.f k a0_0 l0_1 a0_2 l0_3 a0_4 a1 = some true
theorem laws_FnExactTrieKeyAt.walk (P : laws_FnExactTrieKeyAt.Pure) (a0_0 : Int) (A0_1 : Option Addr) (c0_1 : Nat) (l0_1 : List Int) (a0_2 : Int) (A0_3 : Option Addr) (c0_3 : Nat) (l0_3 : List Int) (a0_4 : ByteArray) (a1 : Int) (w : World) (hw0_0 : (Lit.int .i64 a0_0).wf = true) (hr0_1 : Kd.C (Kd.int .i64) w A0_1 l0_1.length l0_1) (hc0_1 : l0_1.length ≤ c0_1) (hm0_1 : l0_1.length ≤ maxLen) (hw0_1 : ∀ x ∈ l0_1, (Lit.int .i64 x).wf = true) (hw0_2 : (Lit.int .i64 a0_2).wf = true) (hr0_3 : Kd.C (Kd.int .i64) w A0_3 l0_3.length l0_3) (hc0_3 : l0_3.length ≤ c0_3) (hm0_3 : l0_3.length ≤ maxLen) (hw0_3 : ∀ x ∈ l0_3, (Lit.int .i64 x).wf = true) (hw0_4 : a0_4.size ≤ maxLen) (hw1 : (Lit.int .i64 a1).wf = true) :
  Calls Try.prog 4 #[.agg #[.int .i64 a0_0, .slice A0_1 l0_1.length c0_1, .int .i64 a0_2, .slice A0_3 l0_3.length c0_3, .string a0_4], .int .i64 a1] w fun e w' => e = .returned (.bool true) ∧ Below w.heap.size w w' := by
 obtain ⟨k, h⟩ := P a0_0 l0_1 a0_2 l0_3 a0_4 a1 hw0_0 hm0_1 hw0_1 hw0_2 hm0_3 hw0_3 hw0_4 hw1; refine (laws_FnExactTrieKeyAt.calls k a0_0 A0_1 c0_1 l0_1 a0_2 A0_3 c0_3 l0_3 a0_4 a1 true w hr0_1 hc0_1 hr0_3 hc0_3 h).mono ?_; rintro e w' ⟨rfl, hd⟩; exact ⟨rfl, hd⟩

end Go.Proofs.Ytalfkfddpamnjaa.PA
namespace Go.Proofs.YtalfkfddpamnjaaGp
open Go Go.ChangeShapes Go.WideShapes Go.RowKit Go.Proofs.YtalfkfddpamnjaaW.PrintWords
open Go.WideElems
section
variable {H : Type} {enc : TypeId × Value → H} {P : Program} {w : World} {base : Nat} {held : Bool}

theorem struct_field {spare : Nat → Bool} {t : TypeId} {fuel : Nat} {cs : List Value} {x : DataW H × List MemPlace} {fs : Array Field} (ht : P.underlying t = some (.struct fs)) (h : DataW.trod enc P w base spare held fuel t cs = some x)
    (i : Nat) {f : Field} (hf : fs[i]? = some f) {c : Nat} (hc : P.cellsOf f.type = c) :
    ∃ n y, DataW.trod enc P w base spare held n f.type ((cs.drop f.offset).take c) = some y := by
  obtain ⟨xs, n, _, _, _, hl, hg⟩ := DataW.trod_struct ht h
  have hi : i < xs.length := by rw [hl]; exact (Array.getElem?_eq_some_iff.1 hf).1
  have h1 := hg i f hf
  rw [hc, List.getElem?_eq_getElem hi] at h1
  exact ⟨n, _, h1⟩

theorem leaf_int {spare : Nat → Bool} {t : TypeId} {fuel : Nat} {c : Value} {x : DataW H × List MemPlace} {k : IntKind} (ht : P.underlying t = some (.int k)) (h : DataW.trod enc P w base spare held fuel t [c] = some x) :
    ∃ n, c = .int k n ∧ (Lit.int k n).wf = true := by
  obtain ⟨n, e, _, hw⟩ := DataW.trod_int ht h
  exact ⟨n, by simpa using e, hw⟩

theorem leaf_bool {spare : Nat → Bool} {t : TypeId} {fuel : Nat} {c : Value} {x : DataW H × List MemPlace} (ht : P.underlying t = some .bool) (h : DataW.trod enc P w base spare held fuel t [c] = some x) :
    ∃ b, c = .bool b := by
  obtain ⟨b, e, _⟩ := DataW.trod_bool ht h
  exact ⟨b, by simpa using e⟩

theorem leaf_str {spare : Nat → Bool} {t : TypeId} {fuel : Nat} {c : Value} {x : DataW H × List MemPlace} (ht : P.underlying t = some .string) (h : DataW.trod enc P w base spare held fuel t [c] = some x) :
    ∃ s, c = .string s ∧ s.size ≤ maxLen := by
  obtain ⟨s, e, _, hw⟩ := DataW.trod_string ht h
  exact ⟨s, by simpa using e, hw⟩

theorem leaf_ints {t e : TypeId} {fuel : Nat} {c : Value} {x : DataW H × List MemPlace} {k : IntKind} (ht : P.underlying t = some (.slice e)) (he : P.underlying e = some (.int k)) (hc : P.cellsOf e = 1)
    (h : DataW.trod enc P w base (fun _ => true) held fuel t [c] = some x) :
    ∃ (A : Option Addr) (l : List Int) (cap : Nat), c = .slice A l.length cap ∧ (Kd.int k).C w A l.length l ∧ l.length ≤ cap ∧ l.length ≤ maxLen ∧ ∀ n ∈ l, (Lit.int k n).wf = true := by
  rcases open_ints ht he hc h with ⟨hcs, _⟩ | ⟨a, len, cap, zs, hcs, _, hl, hm, hz, _, hcell, hw⟩
  · obtain rfl : c = .slice none 0 0 := by simpa using hcs
    obtain ⟨l, e, hr, h1, h2, h3⟩ := ReadsInt.ofRowC (k := k) (w := w) (a := none) (len := 0) (cap := 0) (zs := []) (.inl ⟨rfl, rfl, rfl, rfl⟩)
    refine ⟨none, l, 0, by rw [← e], Kd.C_of_reads (d := (0 : Int)) (h1 := fun _ => rfl) hr, h3, h1, h2⟩
  · obtain rfl : c = .slice (some a) len cap := by simpa using hcs
    obtain ⟨l, e, hr, h1, h2, h3⟩ := ReadsInt.ofRowC (k := k) (w := w) (a := some a) (len := len) (cap := cap) (zs := zs) (.inr ⟨a, rfl, hl, hm, by simpa using hz, hcell, hw⟩)
    subst e
    exact ⟨some a, l, cap, rfl, Kd.C_of_reads (d := (0 : Int)) (h1 := fun _ => rfl) hr, h3, h1, h2⟩

theorem leaf_strs {t e : TypeId} {fuel : Nat} {c : Value} {x : DataW H × List MemPlace} (ht : P.underlying t = some (.slice e)) (he : P.underlying e = some .string) (hc : P.cellsOf e = 1)
    (h : DataW.trod enc P w base (fun _ => true) held fuel t [c] = some x) :
    ∃ (A : Option Addr) (l : List ByteArray) (cap : Nat), c = .slice A l.length cap ∧ Kd.string.C w A l.length l ∧ l.length ≤ cap ∧ l.length ≤ maxLen ∧ ∀ s ∈ l, s.size ≤ maxLen := by
  rcases open_strings ht he hc h with ⟨hcs, _⟩ | ⟨a, len, cap, ss, hcs, _, hl, hm, hz, _, hcell, hw⟩
  · obtain rfl : c = .slice none 0 0 := by simpa using hcs
    refine ⟨none, [], 0, rfl, Kd.C_of_reads (d := ByteArray.empty) (h1 := fun _ => rfl) ⟨rfl, by simp, fun hn => absurd hn (by simp)⟩, Nat.le_refl _, Nat.zero_le _, fun s hs => by simp at hs⟩
  · obtain rfl : c = .slice (some a) len cap := by simpa using hcs
    simp only [if_true] at hz
    have e : (ss.take len).length = len := by simp; omega
    refine ⟨some a, ss.take len, cap, by rw [e], Kd.C_of_reads (d := ByteArray.empty) (h1 := fun _ => rfl) ⟨rfl, ?_, fun _ => ⟨a, rfl, fun j hj => ?_⟩⟩, by rw [e]; exact hl, by rw [e]; exact Nat.le_trans hl hm, fun s hs => hw s (List.mem_of_mem_take hs)⟩
    · rw [e]; have := Nat.le_trans hl hm; simpa [maxLen] using this
    · rw [e] at hj
      rw [hcell j (by omega)]
      simp [List.getD, hj]
theorem trod_agg {spare : Nat → Bool} {t : TypeId} {fuel : Nat} {l : List Value} {x : Option (DataW H × List MemPlace)} (h : DataW.trod enc P w base spare held fuel t (Value.agg ⟨l⟩).cells.toList = x) :
    DataW.trod enc P w base spare held fuel t l = x := by simpa [Value.cells] using h
end
theorem arr1 {cs : Array Value} (h : cs.size = 1) : ∃ c0, cs = #[c0] := by
  obtain ⟨l⟩ := cs
  match l, h with
  | [c0], _ => exact ⟨_, rfl⟩
theorem arr2 {cs : Array Value} (h : cs.size = 2) : ∃ c0 c1, cs = #[c0, c1] := by
  obtain ⟨l⟩ := cs
  match l, h with
  | [c0, c1], _ => exact ⟨_, _, rfl⟩
theorem arr3 {cs : Array Value} (h : cs.size = 3) : ∃ c0 c1 c2, cs = #[c0, c1, c2] := by
  obtain ⟨l⟩ := cs
  match l, h with
  | [c0, c1, c2], _ => exact ⟨_, _, _, rfl⟩
theorem arr4 {cs : Array Value} (h : cs.size = 4) : ∃ c0 c1 c2 c3, cs = #[c0, c1, c2, c3] := by
  obtain ⟨l⟩ := cs
  match l, h with
  | [c0, c1, c2, c3], _ => exact ⟨_, _, _, _, rfl⟩
theorem arr5 {cs : Array Value} (h : cs.size = 5) : ∃ c0 c1 c2 c3 c4, cs = #[c0, c1, c2, c3, c4] := by
  obtain ⟨l⟩ := cs
  match l, h with
  | [c0, c1, c2, c3, c4], _ => exact ⟨_, _, _, _, _, rfl⟩
theorem arr6 {cs : Array Value} (h : cs.size = 6) : ∃ c0 c1 c2 c3 c4 c5, cs = #[c0, c1, c2, c3, c4, c5] := by
  obtain ⟨l⟩ := cs
  match l, h with
  | [c0, c1, c2, c3, c4, c5], _ => exact ⟨_, _, _, _, _, _, rfl⟩
theorem arr7 {cs : Array Value} (h : cs.size = 7) : ∃ c0 c1 c2 c3 c4 c5 c6, cs = #[c0, c1, c2, c3, c4, c5, c6] := by
  obtain ⟨l⟩ := cs
  match l, h with
  | [c0, c1, c2, c3, c4, c5, c6], _ => exact ⟨_, _, _, _, _, _, _, rfl⟩
theorem arr8 {cs : Array Value} (h : cs.size = 8) : ∃ c0 c1 c2 c3 c4 c5 c6 c7, cs = #[c0, c1, c2, c3, c4, c5, c6, c7] := by
  obtain ⟨l⟩ := cs
  match l, h with
  | [c0, c1, c2, c3, c4, c5, c6, c7], _ => exact ⟨_, _, _, _, _, _, _, _, rfl⟩
end Go.Proofs.YtalfkfddpamnjaaGp
-- printed by a program of this session (wip/gp) out of the translation; Lean checks it
namespace Go.Proofs.Ytalfkfddpamnjaa.PA
open Go.RowKit Go.Proofs.YtalfkfddpamnjaaW.PrintWords Go.Proofs.YtalfkfddpamnjaaW.PrintLast Go.Proofs.YtalfkfddpamnjaaW.PrintMore Go.Proofs.YtalfkfddpamnjaaSq
attribute [local go_sem] max2_int min2_int max_two min_two max_three min_three max_four min_four   -- for this text's walks alone
attribute [local go_sem] Go.Proofs.YtalfkfddpamnjaaGp.str_geq Go.Proofs.YtalfkfddpamnjaaGp.str_gtr Go.Proofs.YtalfkfddpamnjaaGp.str_leq
set_option linter.unusedVariables false
set_option linter.unusedSimpArgs false

set_option maxHeartbeats 8000000
set_option maxRecDepth 100000
def spec_trOk.f (k : Nat) (a0_0 : Int) (l0_1 : List Int) (a0_2 : Int) (l0_3 : List Int) (a0_4 : ByteArray) : Option (List ByteArray × Bool) := (spec_trKeys.f k a0_0 l0_1 a0_2 l0_3 a0_4).bind fun bt554 => (if bt554.2 = true then ((spec_trNodes.f k bt554.1).bind fun t558 => (some (t558, true))) else (some (([] : List ByteArray), false)))
theorem spec_trOk.mono : ∀ a0 a1 a2 a3 a4 k, LeO (spec_trOk.f k a0 a1 a2 a3 a4) (spec_trOk.f (k + 1) a0 a1 a2 a3 a4) := by
 intro a0 a1 a2 a3 a4 k
 unfold spec_trOk.f
 repeat' first | (with_reducible first | exact spec_trKeys.mono _ _ _ _ _ _ | exact spec_trNodes.mono _ _ | exact LeO.refl _ | exact LeO.none _ | refine LeO.ite ?_ ?_ | refine LeO.bind ?_ (fun _ => ?_)) | exact LeO.none _ | refine LeO.ite ?_ ?_ | refine LeO.bind ?_ (fun _ => ?_)
theorem spec_trOk.calls (k : Nat) (a0_0 : Int) (A0_1 : Option Addr) (c0_1 : Nat) (l0_1 : List Int) (a0_2 : Int) (A0_3 : Option Addr) (c0_3 : Nat) (l0_3 : List Int) (a0_4 : ByteArray) (r1 : List ByteArray) (r2 : Bool) (w : World) (hr0_1 : Kd.C (Kd.int .i64) w A0_1 l0_1.length l0_1) (hc0_1 : l0_1.length ≤ c0_1) (hr0_3 : Kd.C (Kd.int .i64) w A0_3 l0_3.length l0_3) (hc0_3 : l0_3.length ≤ c0_3) (h : spec_trOk.f k a0_0 l0_1 a0_2 l0_3 a0_4 = some (r1, r2)) :
  Calls Try.prog 51 #[.agg #[.int .i64 a0_0, .slice A0_1 l0_1.length c0_1, .int .i64 a0_2, .slice A0_3 l0_3.length c0_3, .string a0_4]] w fun e w' => ∃ v0_ : Value, e = .returned (.tuple #[v0_, .bool r2]) ∧ Kd.R Kd.string 9 w' w.heap.size (fun _ => True) v0_ r1 ∧ Below w.heap.size w w' := by
 have hu32 := Try.underlying32; have HR0_1 := am hr0_1; have HC0_1 := am hc0_1; clear hr0_1 hc0_1; have HR0_3 := am hr0_3; have HC0_3 := am hc0_3; clear hr0_3 hc0_3; have HB := am (Below.refl w.heap.size w); have H : ((spec_trKeys.f k a0_0 l0_1 a0_2 l0_3 a0_4).bind fun bt554 => (if bt554.2 = true then ((spec_trNodes.f k bt554.1).bind fun t558 => (some (t558, true))) else (some (([] : List ByteArray), false)))) = some (r1, r2) := h; clear h; replace H := Option.bind_eq_some_iff.mp H; obtain ⟨⟨t554, t557⟩, A20, H⟩ := H; (try dsimp -simprocs only at H); have A2 := am A20; clear A20
 by_cases c3 : t557 = true
 ·subst c3
  rw [if_pos rfl] at H; replace H := Option.bind_eq_some_iff.mp H; obtain ⟨t558, A40, H⟩ := H; (try dsimp -simprocs only at H); have A4 := am A40; clear A40
  simp only [Option.some.injEq, Prod.mk.injEq] at H
  obtain ⟨rfl, rfl⟩ := H
  go_enter Try.func51, Try.ntmps51
  go_wp2_with (first | ((with_reducible refine gate_dst (N := 1) rfl ?_); refine bE 1 #[.int .i64 a0_0, .slice A0_1 l0_1.length c0_1, .int .i64 a0_2, .slice A0_3 l0_3.length c0_3, .string a0_4] 32 ?_; intro gb553 hg w5 hbox hb; have n0_ := Bb HB hb; have n1_ := am (hbox); have n2_ := Gl HB hg; have n3_ := Gl HB hg; clear HB; revert n0_ n1_ n2_ n3_; intro HB BK553 GW553 GE553; clear hb hbox hg; obtain ⟨hcz6_0, hcz6_1, hcz6_2, hcz6_3, hcz6_4, hfz6_0, hfz6_1, hfz6_2, hfz6_3, hfz6_4⟩ := cf5 (w := w5) BK553) | ((with_reducible refine gate_callee (f := 40) rfl ?_); refine gL (some 8) Try.func40 #[.agg #[.int .i64 a0_0, .slice A0_1 l0_1.length c0_1, .int .i64 a0_2, .slice A0_3 l0_3.length c0_3, .string a0_4]] ?_; (with_reducible refine (spec_trKeys.calls k a0_0 _ _ l0_1 a0_2 _ _ l0_3 a0_4 t554 true _ ?side1 ?side2 ?side3 ?side4 A2.out).mono ?_); (case side1 => exact Cz (Kd.C_below HR0_1.out HB.out)); (case side2 => exact HC0_1.out); (case side3 => exact Cz (Kd.C_below HR0_3.out HB.out)); (case side4 => exact HC0_3.out); rintro e w7 ⟨v555, rfl, ho0, hb⟩; refine ⟨_, rfl, ?_⟩; have n0_ := Rm ho0 HB; have n1_ := Kb BK553 hb; have n2_ := Bc HB hb; clear BK553 HB; revert n0_ n1_ n2_; intro HO556 BK553 HB; (try clear hb); (try clear hb2); (try clear hk); (try clear hi); (try clear ho0); obtain ⟨Ao8, co8, eo8⟩ := Kd.R_slice HO556.out; subst eo8) | ((with_reducible refine gate_callee (f := 72) rfl ?_); refine gL (some 14) Try.func72 #[.slice Ao8 t554.length co8] ?_; (with_reducible refine (spec_trNodes.calls k _ _ t554 t558 _ ?side1 ?side2 A4.out).mono ?_); (case side1 => exact Cz ((Kd.R_reads' HO556.out).2.2)); (case side2 => exact (Kd.R_reads' HO556.out).2.1); rintro e w9 ⟨v559, rfl, ho0, hb⟩; refine ⟨_, rfl, ?_⟩; have n0_ := Re HO556 (Kd.R_base ho0) hb; have n1_ := Rm (Kd.R_new' ho0 (Kd.R_lt (Rz HO556.out))) HB; have n2_ := Kb BK553 hb; have n3_ := Bc HB hb; clear HO556 BK553 HB; revert n0_ n1_ n2_ n3_; intro HO556 HO560 BK553 HB; (try clear hb); (try clear hb2); (try clear hk); (try clear hi); (try clear ho0)))
  go_ret2
  exact ⟨_, eZ, Rz (Kd.R_mono HO560.out (fun _ hk => trivial)), Bq⟩
 ·replace c3 := Bool.eq_false_iff.mpr c3
  subst c3
  rw [if_neg (show ¬ (false = true) by decide)] at H
  simp only [Option.some.injEq, Prod.mk.injEq] at H
  obtain ⟨rfl, rfl⟩ := H
  go_enter Try.func51, Try.ntmps51
  go_wp2_with (first | ((with_reducible refine gate_dst (N := 1) rfl ?_); refine bE 1 #[.int .i64 a0_0, .slice A0_1 l0_1.length c0_1, .int .i64 a0_2, .slice A0_3 l0_3.length c0_3, .string a0_4] 32 ?_; intro gb553 hg w10 hbox hb; have n0_ := Bb HB hb; have n1_ := am (hbox); have n2_ := Gl HB hg; have n3_ := Gl HB hg; clear HB; revert n0_ n1_ n2_ n3_; intro HB BK553 GW553 GE553; clear hb hbox hg; obtain ⟨hcz11_0, hcz11_1, hcz11_2, hcz11_3, hcz11_4, hfz11_0, hfz11_1, hfz11_2, hfz11_3, hfz11_4⟩ := cf5 (w := w10) BK553) | ((with_reducible refine gate_callee (f := 40) rfl ?_); refine gL (some 8) Try.func40 #[.agg #[.int .i64 a0_0, .slice A0_1 l0_1.length c0_1, .int .i64 a0_2, .slice A0_3 l0_3.length c0_3, .string a0_4]] ?_; (with_reducible refine (spec_trKeys.calls k a0_0 _ _ l0_1 a0_2 _ _ l0_3 a0_4 t554 false _ ?side1 ?side2 ?side3 ?side4 A2.out).mono ?_); (case side1 => exact Cz (Kd.C_below HR0_1.out HB.out)); (case side2 => exact HC0_1.out); (case side3 => exact Cz (Kd.C_below HR0_3.out HB.out)); (case side4 => exact HC0_3.out); rintro e w12 ⟨v555, rfl, ho0, hb⟩; refine ⟨_, rfl, ?_⟩; have n0_ := Rm ho0 HB; have n1_ := Kb BK553 hb; have n2_ := Bc HB hb; clear BK553 HB; revert n0_ n1_ n2_; intro HO556 BK553 HB; (try clear hb); (try clear hb2); (try clear hk); (try clear hi); (try clear ho0)))
  go_ret2
  exact ⟨_, eZ, nZ, Bq⟩

end Go.Proofs.Ytalfkfddpamnjaa.PA
-- printed by a program of this session (wip/gp) out of the translation; Lean checks it
namespace Go.Proofs.Ytalfkfddpamnjaa.PA
open Go.RowKit Go.Proofs.YtalfkfddpamnjaaW.PrintWords Go.Proofs.YtalfkfddpamnjaaW.PrintLast Go.Proofs.YtalfkfddpamnjaaW.PrintMore Go.Proofs.YtalfkfddpamnjaaSq
attribute [local go_sem] max2_int min2_int max_two min_two max_three min_three max_four min_four   -- for this text's walks alone
attribute [local go_sem] Go.Proofs.YtalfkfddpamnjaaGp.str_geq Go.Proofs.YtalfkfddpamnjaaGp.str_gtr Go.Proofs.YtalfkfddpamnjaaGp.str_leq
set_option linter.unusedVariables false
set_option linter.unusedSimpArgs false

set_option maxHeartbeats 8000000
set_option maxRecDepth 100000
def impl_Trie_nodeAt.f (k : Nat) (a0_0 : Int) (l0_1 : List Int) (a0_2 : Int) (l0_3 : List Int) (a0_4 : ByteArray) (a1 : Int) : Option (ByteArray × List ByteArray × Bool) := (impl_Trie_nodes.f k a0_0 l0_1 a0_2 l0_3 a0_4).bind fun t574 => ((impl_in.f a1 0 (wrap64 ((t574.length : Int) - 1))).bind fun t577 => (if t577 = true then (if 0 ≤ a1 then (if a1 < (t574.length : Int) then (some (rdOf ByteArray.empty t574 a1, t574, true)) else (none)) else (none)) else (some ((⟨#[]⟩ : ByteArray), ([] : List ByteArray), false))))
theorem impl_Trie_nodeAt.mono : ∀ a0 a1 a2 a3 a4 a5 k, LeO (impl_Trie_nodeAt.f k a0 a1 a2 a3 a4 a5) (impl_Trie_nodeAt.f (k + 1) a0 a1 a2 a3 a4 a5) := by
 intro a0 a1 a2 a3 a4 a5 k
 unfold impl_Trie_nodeAt.f
 repeat' first | (with_reducible first | exact impl_Trie_nodes.mono _ _ _ _ _ _ | exact LeO.refl _ | exact LeO.none _ | refine LeO.ite ?_ ?_ | refine LeO.bind ?_ (fun _ => ?_)) | exact LeO.none _ | refine LeO.ite ?_ ?_ | refine LeO.bind ?_ (fun _ => ?_)
theorem impl_Trie_nodeAt.calls (k : Nat) (g0 : Nat) (a0_0 : Int) (A0_1 : Option Addr) (c0_1 : Nat) (l0_1 : List Int) (a0_2 : Int) (A0_3 : Option Addr) (c0_3 : Nat) (l0_3 : List Int) (a0_4 : ByteArray) (a1 : Int) (r1 : ByteArray) (r2 : List ByteArray) (r3 : Bool) (w : World) (hb0 : w.heap[g0]? = some (.cells #[.int .i64 a0_0, .slice A0_1 l0_1.length c0_1, .int .i64 a0_2, .slice A0_3 l0_3.length c0_3, .string a0_4] 32 (0, 0))) (hr0_1 : Kd.C (Kd.int .i64) w A0_1 l0_1.length l0_1) (hc0_1 : l0_1.length ≤ c0_1) (hr0_3 : Kd.C (Kd.int .i64) w A0_3 l0_3.length l0_3) (hc0_3 : l0_3.length ≤ c0_3) (h : impl_Trie_nodeAt.f k a0_0 l0_1 a0_2 l0_3 a0_4 a1 = some (r1, r2, r3)) :
  Calls Try.prog 52 #[.pointer (some ⟨g0, 0, none⟩), .int .i64 a1] w fun e w' => ∃ v1_ : Value, e = .returned (.tuple #[.string r1, v1_, .bool r3]) ∧ Kd.R Kd.string 9 w' w.heap.size (fun _ => True) v1_ r2 ∧ Below w.heap.size w w' := by
 have HR0_1 := am hr0_1; have HC0_1 := am hc0_1; clear hr0_1 hc0_1; have HR0_3 := am hr0_3; have HC0_3 := am hc0_3; clear hr0_3 hc0_3; have BK0 := am hb0; clear hb0; have HB := am (Below.refl w.heap.size w); have H : ((impl_Trie_nodes.f k a0_0 l0_1 a0_2 l0_3 a0_4).bind fun t574 => ((impl_in.f a1 0 (wrap64 ((t574.length : Int) - 1))).bind fun t577 => (if t577 = true then (if 0 ≤ a1 then (if a1 < (t574.length : Int) then (some (rdOf ByteArray.empty t574 a1, t574, true)) else (none)) else (none)) else (some ((⟨#[]⟩ : ByteArray), ([] : List ByteArray), false))))) = some (r1, r2, r3) := h; clear h; replace H := Option.bind_eq_some_iff.mp H; obtain ⟨t574, A30, H⟩ := H; (try dsimp -simprocs only at H); have A3 := am A30; clear A30; replace H := Option.bind_eq_some_iff.mp H; obtain ⟨t577, A40, H⟩ := H; (try dsimp -simprocs only at H); have A4 := am A40; clear A40
 by_cases c5 : t577 = true
 ·subst c5
  rw [if_pos rfl] at H
  by_cases c6 : 0 ≤ a1
  ·rw [if_pos c6] at H
   have c6b0 : decide (0 ≤ a1) = true := decide_eq_true c6; clear c6
   by_cases c7 : a1 < (t574.length : Int)
   ·rw [if_pos c7] at H
    have c7b0 : decide (a1 < (t574.length : Int)) = true := decide_eq_true c7; clear c7
    simp only [Option.some.injEq, Prod.mk.injEq] at H
    obtain ⟨rfl, rfl, rfl⟩ := H
    go_enter Try.func52, Try.ntmps52
    go_wp2_with (first | ((with_reducible refine gate_callee (f := 48) rfl ?_); refine gL (some 9) Try.func48 #[.pointer (some ⟨g0, 0, none⟩)] ?_; (with_reducible refine (impl_Trie_nodes.calls k g0 a0_0 A0_1 c0_1 l0_1 a0_2 A0_3 c0_3 l0_3 a0_4 t574 _ ?side1 ?side2 ?side3 ?side4 ?side5 A3.out).mono ?_); (case side1 => exact Kz BK0.out); (case side2 => exact Cz HR0_1.out); (case side3 => exact HC0_1.out); (case side4 => exact Cz HR0_3.out); (case side5 => exact HC0_3.out); rintro e w8 ⟨⟨v575, rfl, ho0, hb⟩, hnil_v575⟩; refine ⟨_, rfl, ?_⟩; have n0_ := Rm ho0 HB; have n1_ := Kb BK0 hb; have n2_ := Bc HB hb; clear BK0 HB; revert n0_ n1_ n2_; intro HO576 BK0 HB; (try clear hb); (try clear hb2); (try clear hk); (try clear hi); (try clear ho0); obtain ⟨Ao9, co9, eo9⟩ := Kd.R_slice HO576.out; subst eo9) | ((with_reducible refine gate_callee (f := 75) rfl ?_); refine gL (some 14) Try.func75 #[.int .i64 a1, .int .i64 0, .int .i64 (wrap64 ((t574.length : Int) - 1))] ?_; (with_reducible refine (impl_in.calls a1 0 (wrap64 ((t574.length : Int) - 1)) true _ A4.out).mono ?_); rintro e w' ⟨rfl, ⟨nd, rfl⟩⟩; refine ⟨_, rfl, ?_⟩; obtain ⟨ad578, e578, hx578_0⟩ := Kd.at_string (Kd.R_reads' HO576.out).2.2 a1 dT dT; cases e578; have p578 := eT (0 ≤ (a1 : Int)); have q578 := eT (a1 < (t574.length : Int))))
    go_ret3
    exact ⟨_, eZ, Rz HO576.out, Bq⟩
   ·rw [if_neg c7] at H
    exact absurd H (by simp)
  ·rw [if_neg c6] at H
   exact absurd H (by simp)
 ·replace c5 := Bool.eq_false_iff.mpr c5
  subst c5
  rw [if_neg (show ¬ (false = true) by decide)] at H
  simp only [Option.some.injEq, Prod.mk.injEq] at H
  obtain ⟨rfl, rfl, rfl⟩ := H
  go_enter Try.func52, Try.ntmps52
  go_wp2_with (first | ((with_reducible refine gate_callee (f := 48) rfl ?_); refine gL (some 9) Try.func48 #[.pointer (some ⟨g0, 0, none⟩)] ?_; (with_reducible refine (impl_Trie_nodes.calls k g0 a0_0 A0_1 c0_1 l0_1 a0_2 A0_3 c0_3 l0_3 a0_4 t574 _ ?side1 ?side2 ?side3 ?side4 ?side5 A3.out).mono ?_); (case side1 => exact Kz BK0.out); (case side2 => exact Cz HR0_1.out); (case side3 => exact HC0_1.out); (case side4 => exact Cz HR0_3.out); (case side5 => exact HC0_3.out); rintro e w10 ⟨⟨v575, rfl, ho0, hb⟩, hnil_v575⟩; refine ⟨_, rfl, ?_⟩; have n0_ := Rm ho0 HB; have n1_ := Kb BK0 hb; have n2_ := Bc HB hb; clear BK0 HB; revert n0_ n1_ n2_; intro HO576 BK0 HB; (try clear hb); (try clear hb2); (try clear hk); (try clear hi); (try clear ho0); obtain ⟨Ao11, co11, eo11⟩ := Kd.R_slice HO576.out; subst eo11) | ((with_reducible refine gate_callee (f := 75) rfl ?_); refine gL (some 14) Try.func75 #[.int .i64 a1, .int .i64 0, .int .i64 (wrap64 ((t574.length : Int) - 1))] ?_; (with_reducible refine (impl_in.calls a1 0 (wrap64 ((t574.length : Int) - 1)) false _ A4.out).mono ?_); rintro e w' ⟨rfl, ⟨nd, rfl⟩⟩; refine ⟨_, rfl, ?_⟩))
  go_ret3
  exact ⟨_, eZ, nZ, Bq⟩

end Go.Proofs.Ytalfkfddpamnjaa.PA
