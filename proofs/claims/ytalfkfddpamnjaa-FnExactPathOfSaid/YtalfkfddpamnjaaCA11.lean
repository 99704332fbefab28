import Derived.Test.YtalfkfddpamnjaaCA2
import Derived.Test.YtalfkfddpamnjaaCA8
import Derived.Test.YtalfkfddpamnjaaCA3
import Derived.Test.YtalfkfddpamnjaaCA4
import Derived.Test.YtalfkfddpamnjaaCA6
import Derived.Test.YtalfkfddpamnjaaCA9
import Derived.Test.YtalfkfddpamnjaaCA10
-- printed by a program of this session (wip/gp) out of the translation; Lean checks it
namespace Go.Proofs.Ytalfkfddpamnjaa.PA
open Go.RowKit Go.Proofs.YtalfkfddpamnjaaW.PrintWords Go.Proofs.YtalfkfddpamnjaaW.PrintLast Go.Proofs.YtalfkfddpamnjaaW.PrintMore Go.Proofs.YtalfkfddpamnjaaSq
attribute [local go_sem] max2_int min2_int max_two min_two max_three min_three max_four min_four   -- for this text's walks alone
attribute [local go_sem] Go.Proofs.YtalfkfddpamnjaaGp.str_geq Go.Proofs.YtalfkfddpamnjaaGp.str_gtr Go.Proofs.YtalfkfddpamnjaaGp.str_leq
set_option linter.unusedVariables false
set_option linter.unusedSimpArgs false

def impl_Trie_nodeAt.f (k : Nat) (a0_0 : Int) (l0_1 : List Int) (a0_2 : Int) (l0_3 : List Int) (a0_4 : ByteArray) (a1 : Int) : Option (ByteArray × List ByteArray × Bool) := (impl_Trie_nodes.f k a0_0 l0_1 a0_2 l0_3 a0_4).bind fun t574 => ((impl_in.f a1 0 (wrap64 ((t574.length : Int) - 1))).bind fun t577 => (if t577 = true then (if 0 ≤ a1 then (if a1 < (t574.length : Int) then (some (rdOf ByteArray.empty t574 a1, t574, true)) else (none)) else (none)) else (some ((⟨#[]⟩ : ByteArray), ([] : List ByteArray), false))))
theorem impl_Trie_nodeAt.mono : ∀ a0 a1 a2 a3 a4 a5 k, LeO (impl_Trie_nodeAt.f k a0 a1 a2 a3 a4 a5) (impl_Trie_nodeAt.f (k + 1) a0 a1 a2 a3 a4 a5) := by
 intro a0 a1 a2 a3 a4 a5 k
 unfold impl_Trie_nodeAt.f
 repeat' first | (with_reducible first | exact impl_Trie_nodes.mono _ _ _ _ _ _ | exact LeO.refl _ | exact LeO.none _ | refine LeO.ite ?_ ?_ | refine LeO.bind ?_ (fun _ => ?_)) | exact LeO.none _ | refine LeO.ite ?_ ?_ | refine LeO.bind ?_ (fun _ => ?_)
set_option maxHeartbeats 8000000 in
set_option maxRecDepth 100000 in
theorem impl_Trie_nodeAt.calls (k : Nat) (g0 : Nat) (a0_0 : Int) (A0_1 : Option Addr) (c0_1 : Nat) (l0_1 : List Int) (a0_2 : Int) (A0_3 : Option Addr) (c0_3 : Nat) (l0_3 : List Int) (a0_4 : ByteArray) (a1 : Int) (r1 : ByteArray) (r2 : List ByteArray) (r3 : Bool) (w : World) (hb0 : w.heap[g0]? = some (.cells #[.int .i64 a0_0, .slice A0_1 l0_1.length c0_1, .int .i64 a0_2, .slice A0_3 l0_3.length c0_3, .string a0_4] 32 (0, 0))) (hr0_1 : Kd.C (Kd.int .i64) w A0_1 l0_1.length l0_1) (hc0_1 : l0_1.length ≤ c0_1) (hr0_3 : Kd.C (Kd.int .i64) w A0_3 l0_3.length l0_3) (hc0_3 : l0_3.length ≤ c0_3) (h : impl_Trie_nodeAt.f k a0_0 l0_1 a0_2 l0_3 a0_4 a1 = some (r1, r2, r3)) :
  Calls Try.prog 52 #[.pointer (some ⟨g0, 0, none⟩), .int .i64 a1] w fun e w' => ∃ v1_ : Value, e = .returned (.tuple #[.string r1, v1_, .bool r3]) ∧ Kd.R Kd.string 9 w' w.heap.size (fun _ => True) v1_ r2 ∧ Below w.heap.size w w' := by
 have HR0_1 := Aside0.mk hr0_1; have HC0_1 := Aside0.mk hc0_1; clear hr0_1 hc0_1; have HR0_3 := Aside0.mk hr0_3; have HC0_3 := Aside0.mk hc0_3; clear hr0_3 hc0_3; have BK0 := Aside0.mk hb0; clear hb0; have HB := Aside0.mk (Below.refl w.heap.size w); have H : ((impl_Trie_nodes.f k a0_0 l0_1 a0_2 l0_3 a0_4).bind fun t574 => ((impl_in.f a1 0 (wrap64 ((t574.length : Int) - 1))).bind fun t577 => (if t577 = true then (if 0 ≤ a1 then (if a1 < (t574.length : Int) then (some (rdOf ByteArray.empty t574 a1, t574, true)) else (none)) else (none)) else (some ((⟨#[]⟩ : ByteArray), ([] : List ByteArray), false))))) = some (r1, r2, r3) := h; clear h; replace H := Option.bind_eq_some_iff.mp H; obtain ⟨t574, A30, H⟩ := H; replace H : ((impl_in.f a1 0 (wrap64 ((t574.length : Int) - 1))).bind fun t577 => (if t577 = true then (if 0 ≤ a1 then (if a1 < (t574.length : Int) then (some (rdOf ByteArray.empty t574 a1, t574, true)) else (none)) else (none)) else (some ((⟨#[]⟩ : ByteArray), ([] : List ByteArray), false)))) = some (r1, r2, r3) := H; have A3 := Aside0.mk A30; clear A30; replace H := Option.bind_eq_some_iff.mp H; obtain ⟨t577, A40, H⟩ := H; replace H : (if t577 = true then (if 0 ≤ a1 then (if a1 < (t574.length : Int) then (some (rdOf ByteArray.empty t574 a1, t574, true)) else (none)) else (none)) else (some ((⟨#[]⟩ : ByteArray), ([] : List ByteArray), false))) = some (r1, r2, r3) := H; have A4 := Aside0.mk A40; clear A40
 by_cases c5 : t577 = true
 ·subst c5
  have H1 : (if 0 ≤ a1 then (if a1 < (t574.length : Int) then (some (rdOf ByteArray.empty t574 a1, t574, true)) else (none)) else (none)) = some (r1, r2, r3) := by rw [if_pos rfl] at H; exact H
  clear H; have H := H1; clear H1
  by_cases c6 : 0 ≤ a1
  ·rw [if_pos c6] at H
   have c6b0 : decide (0 ≤ a1) = true := decide_eq_true c6; clear c6
   by_cases c7 : a1 < (t574.length : Int)
   ·rw [if_pos c7] at H
    have c7b0 : decide (a1 < (t574.length : Int)) = true := decide_eq_true c7; clear c7
    simp only [Option.some.injEq, Prod.mk.injEq] at H
    obtain ⟨rfl, rfl, rfl⟩ := H
    go_enter Try.func52, Try.ntmps52
    go_wp2_with (first | ((with_reducible refine gate_callee (f := 48) rfl ?_); refine gL (some 9) Try.func48 #[.pointer (some ⟨g0, 0, none⟩)] ?_; (with_reducible refine (impl_Trie_nodes.calls k g0 a0_0 A0_1 c0_1 l0_1 a0_2 A0_3 c0_3 l0_3 a0_4 t574 _ ?side1 ?side2 ?side3 ?side4 ?side5 A3.out).mono ?_); (case side1 => (with_reducible repeat (first | refine blk_drewN ?_ _ | refine blk_drew ?_ | refine blk_alloc ?_ _)); exact BK0.out); (case side2 => exact Cz HR0_1.out); (case side3 => exact HC0_1.out); (case side4 => exact Cz HR0_3.out); (case side5 => exact HC0_3.out); rintro e w8 ⟨⟨v575, rfl, ho0, hb⟩, hnil_v575⟩; refine ⟨_, rfl, ?_⟩; have n0_ := Rm ho0 HB; have n1_ := Kb BK0 hb; have n2_ := Bc HB hb; clear BK0 HB; revert n0_ n1_ n2_; intro HO576 BK0 HB; (try clear hb); (try clear hb2); (try clear hk); (try clear hi); (try clear ho0); obtain ⟨Ao9, co9, eo9⟩ := Kd.R_slice HO576.out; subst eo9) | ((with_reducible refine gate_callee (f := 75) rfl ?_); refine gL (some 14) Try.func75 #[.int .i64 a1, .int .i64 0, .int .i64 (wrap64 ((t574.length : Int) - 1))] ?_; (with_reducible refine (impl_in.calls a1 0 (wrap64 ((t574.length : Int) - 1)) true _ A4.out).mono ?_); rintro e w' ⟨rfl, ⟨nd, rfl⟩⟩; refine ⟨_, rfl, ?_⟩; have p578 : 0 ≤ (a1 : Int) := dT; have q578 : a1 < (t574.length : Int) := dT; obtain ⟨ad578, e578, hx578_0⟩ := Kd.at_string (Kd.R_reads' HO576.out).2.2 a1 p578 q578; cases e578; replace p578 := eq_true p578; replace q578 := eq_true q578))
    go_ret3
    exact ⟨_, by first | rfl | (simp [errW_none, errW_some] <;> rfl) | (simp [*, errW_none, errW_some] <;> rfl), Rz HO576.out, Bq⟩
   ·rw [if_neg c7] at H
    exact absurd H (by simp)
  ·rw [if_neg c6] at H
   exact absurd H (by simp)
 ·replace c5 := Bool.eq_false_iff.mpr c5
  subst c5
  have H1 : (some ((⟨#[]⟩ : ByteArray), ([] : List ByteArray), false)) = some (r1, r2, r3) := by rw [if_neg (show ¬ (false = true) by decide)] at H; exact H
  clear H; have H := H1; clear H1
  simp only [Option.some.injEq, Prod.mk.injEq] at H
  obtain ⟨rfl, rfl, rfl⟩ := H
  go_enter Try.func52, Try.ntmps52
  go_wp2_with (first | ((with_reducible refine gate_callee (f := 48) rfl ?_); refine gL (some 9) Try.func48 #[.pointer (some ⟨g0, 0, none⟩)] ?_; (with_reducible refine (impl_Trie_nodes.calls k g0 a0_0 A0_1 c0_1 l0_1 a0_2 A0_3 c0_3 l0_3 a0_4 t574 _ ?side1 ?side2 ?side3 ?side4 ?side5 A3.out).mono ?_); (case side1 => (with_reducible repeat (first | refine blk_drewN ?_ _ | refine blk_drew ?_ | refine blk_alloc ?_ _)); exact BK0.out); (case side2 => exact Cz HR0_1.out); (case side3 => exact HC0_1.out); (case side4 => exact Cz HR0_3.out); (case side5 => exact HC0_3.out); rintro e w10 ⟨⟨v575, rfl, ho0, hb⟩, hnil_v575⟩; refine ⟨_, rfl, ?_⟩; have n0_ := Rm ho0 HB; have n1_ := Kb BK0 hb; have n2_ := Bc HB hb; clear BK0 HB; revert n0_ n1_ n2_; intro HO576 BK0 HB; (try clear hb); (try clear hb2); (try clear hk); (try clear hi); (try clear ho0); obtain ⟨Ao11, co11, eo11⟩ := Kd.R_slice HO576.out; subst eo11) | ((with_reducible refine gate_callee (f := 75) rfl ?_); refine gL (some 14) Try.func75 #[.int .i64 a1, .int .i64 0, .int .i64 (wrap64 ((t574.length : Int) - 1))] ?_; (with_reducible refine (impl_in.calls a1 0 (wrap64 ((t574.length : Int) - 1)) false _ A4.out).mono ?_); rintro e w' ⟨rfl, ⟨nd, rfl⟩⟩; refine ⟨_, rfl, ?_⟩))
  go_ret3
  exact ⟨_, by first | rfl | (simp [errW_none, errW_some] <;> rfl) | (simp [*, errW_none, errW_some] <;> rfl), by first | exact Kd.R_nil _ _ _ _ _ | exact Kd.N_nil _ _ _ _ _ | exact Kd.V_nil _ _ _ _ _ | exact Kd.Q_nil _ _ _ _ _ | exact Kd.S_nil _ _ _ _ _, Bq⟩

end Go.Proofs.Ytalfkfddpamnjaa.PA
-- printed by a program of this session (wip/gp) out of the translation; Lean checks it
namespace Go.Proofs.Ytalfkfddpamnjaa.PA
open Go.RowKit Go.Proofs.YtalfkfddpamnjaaW.PrintWords Go.Proofs.YtalfkfddpamnjaaW.PrintLast Go.Proofs.YtalfkfddpamnjaaW.PrintMore Go.Proofs.YtalfkfddpamnjaaSq
attribute [local go_sem] max2_int min2_int max_two min_two max_three min_three max_four min_four   -- for this text's walks alone
attribute [local go_sem] Go.Proofs.YtalfkfddpamnjaaGp.str_geq Go.Proofs.YtalfkfddpamnjaaGp.str_gtr Go.Proofs.YtalfkfddpamnjaaGp.str_leq
set_option linter.unusedVariables false
set_option linter.unusedSimpArgs false

def spec_PathOf.f (k : Nat) (a0_0 : Int) (l0_1 : List Int) (a0_2 : Int) (l0_3 : List Int) (a0_4 : ByteArray) (a1 : Int) : Option (ByteArray × Bool) := (spec_trOk.f k a0_0 l0_1 a0_2 l0_3 a0_4).bind fun bt902 => (if bt902.2 = true then ((spec_l1In.f a1 0 (wrap64 ((bt902.1.length : Int) - 1))).bind fun t906 => (if t906 = true then (if 0 ≤ a1 then (if a1 < (bt902.1.length : Int) then (some (rdOf ByteArray.empty bt902.1 a1, true)) else (none)) else (none)) else (some ((⟨#[]⟩ : ByteArray), false)))) else (some ((⟨#[]⟩ : ByteArray), false)))
theorem spec_PathOf.mono : ∀ a0 a1 a2 a3 a4 a5 k, LeO (spec_PathOf.f k a0 a1 a2 a3 a4 a5) (spec_PathOf.f (k + 1) a0 a1 a2 a3 a4 a5) := by
 intro a0 a1 a2 a3 a4 a5 k
 unfold spec_PathOf.f
 repeat' first | (with_reducible first | exact spec_trOk.mono _ _ _ _ _ _ | exact LeO.refl _ | exact LeO.none _ | refine LeO.ite ?_ ?_ | refine LeO.bind ?_ (fun _ => ?_)) | exact LeO.none _ | refine LeO.ite ?_ ?_ | refine LeO.bind ?_ (fun _ => ?_)
set_option maxHeartbeats 8000000 in
set_option maxRecDepth 100000 in
theorem spec_PathOf.calls (k : Nat) (a0_0 : Int) (A0_1 : Option Addr) (c0_1 : Nat) (l0_1 : List Int) (a0_2 : Int) (A0_3 : Option Addr) (c0_3 : Nat) (l0_3 : List Int) (a0_4 : ByteArray) (a1 : Int) (r1 : ByteArray) (r2 : Bool) (w : World) (hr0_1 : Kd.C (Kd.int .i64) w A0_1 l0_1.length l0_1) (hc0_1 : l0_1.length ≤ c0_1) (hr0_3 : Kd.C (Kd.int .i64) w A0_3 l0_3.length l0_3) (hc0_3 : l0_3.length ≤ c0_3) (h : spec_PathOf.f k a0_0 l0_1 a0_2 l0_3 a0_4 a1 = some (r1, r2)) :
  Calls Try.prog 37 #[.agg #[.int .i64 a0_0, .slice A0_1 l0_1.length c0_1, .int .i64 a0_2, .slice A0_3 l0_3.length c0_3, .string a0_4], .int .i64 a1] w fun e w' => e = .returned (.tuple #[.string r1, .bool r2]) ∧ Below w.heap.size w w' := by
 have hu32 := Try.underlying32; have HR0_1 := Aside0.mk hr0_1; have HC0_1 := Aside0.mk hc0_1; clear hr0_1 hc0_1; have HR0_3 := Aside0.mk hr0_3; have HC0_3 := Aside0.mk hc0_3; clear hr0_3 hc0_3; have HB := Aside0.mk (Below.refl w.heap.size w); have H : ((spec_trOk.f k a0_0 l0_1 a0_2 l0_3 a0_4).bind fun bt902 => (if bt902.2 = true then ((spec_l1In.f a1 0 (wrap64 ((bt902.1.length : Int) - 1))).bind fun t906 => (if t906 = true then (if 0 ≤ a1 then (if a1 < (bt902.1.length : Int) then (some (rdOf ByteArray.empty bt902.1 a1, true)) else (none)) else (none)) else (some ((⟨#[]⟩ : ByteArray), false)))) else (some ((⟨#[]⟩ : ByteArray), false)))) = some (r1, r2) := h; clear h; replace H := Option.bind_eq_some_iff.mp H; obtain ⟨⟨t902, t905⟩, A30, H⟩ := H; replace H : (if t905 = true then ((spec_l1In.f a1 0 (wrap64 ((t902.length : Int) - 1))).bind fun t906 => (if t906 = true then (if 0 ≤ a1 then (if a1 < (t902.length : Int) then (some (rdOf ByteArray.empty t902 a1, true)) else (none)) else (none)) else (some ((⟨#[]⟩ : ByteArray), false)))) else (some ((⟨#[]⟩ : ByteArray), false))) = some (r1, r2) := H; have A3 := Aside0.mk A30; clear A30
 by_cases c4 : t905 = true
 ·subst c4
  have H1 : ((spec_l1In.f a1 0 (wrap64 ((t902.length : Int) - 1))).bind fun t906 => (if t906 = true then (if 0 ≤ a1 then (if a1 < (t902.length : Int) then (some (rdOf ByteArray.empty t902 a1, true)) else (none)) else (none)) else (some ((⟨#[]⟩ : ByteArray), false)))) = some (r1, r2) := by rw [if_pos rfl] at H; exact H
  clear H; have H := H1; clear H1; replace H := Option.bind_eq_some_iff.mp H; obtain ⟨t906, A50, H⟩ := H; replace H : (if t906 = true then (if 0 ≤ a1 then (if a1 < (t902.length : Int) then (some (rdOf ByteArray.empty t902 a1, true)) else (none)) else (none)) else (some ((⟨#[]⟩ : ByteArray), false))) = some (r1, r2) := H; have A5 := Aside0.mk A50; clear A50
  by_cases c6 : t906 = true
  ·subst c6
   have H1 : (if 0 ≤ a1 then (if a1 < (t902.length : Int) then (some (rdOf ByteArray.empty t902 a1, true)) else (none)) else (none)) = some (r1, r2) := by rw [if_pos rfl] at H; exact H
   clear H; have H := H1; clear H1
   by_cases c7 : 0 ≤ a1
   ·rw [if_pos c7] at H
    have c7b0 : decide (0 ≤ a1) = true := decide_eq_true c7; clear c7
    by_cases c8 : a1 < (t902.length : Int)
    ·rw [if_pos c8] at H
     have c8b0 : decide (a1 < (t902.length : Int)) = true := decide_eq_true c8; clear c8
     simp only [Option.some.injEq, Prod.mk.injEq] at H
     obtain ⟨rfl, rfl⟩ := H
     go_enter Try.func37, Try.ntmps37
     go_wp2_with (first | ((with_reducible refine gate_dst (N := 2) rfl ?_); (try (refine gate_guard (by rfl) ?_; dsimp only)); refine bE 2 #[.int .i64 a0_0, .slice A0_1 l0_1.length c0_1, .int .i64 a0_2, .slice A0_3 l0_3.length c0_3, .string a0_4] 32 ?_; intro gb901 hg w9 hbox hb; have n0_ := Bb HB hb; have n1_ := Aside0.mk (hbox); have n2_ := Gl HB hg; have n3_ := Gl HB hg; clear HB; revert n0_ n1_ n2_ n3_; intro HB BK901 GW901 GE901; clear hb hbox hg; obtain ⟨hcz10_0, hcz10_1, hcz10_2, hcz10_3, hcz10_4, hfz10_0, hfz10_1, hfz10_2, hfz10_3, hfz10_4⟩ := cf5 (w := w9) BK901) | ((with_reducible refine gate_callee (f := 51) rfl ?_); refine gL (some 10) Try.func51 #[.agg #[.int .i64 a0_0, .slice A0_1 l0_1.length c0_1, .int .i64 a0_2, .slice A0_3 l0_3.length c0_3, .string a0_4]] ?_; (with_reducible refine (spec_trOk.calls k a0_0 _ _ l0_1 a0_2 _ _ l0_3 a0_4 t902 true _ ?side1 ?side2 ?side3 ?side4 A3.out).mono ?_); (case side1 => exact Cz (Kd.C_below HR0_1.out HB.out)); (case side2 => exact HC0_1.out); (case side3 => exact Cz (Kd.C_below HR0_3.out HB.out)); (case side4 => exact HC0_3.out); rintro e w11 ⟨v903, rfl, ho0, hb⟩; refine ⟨_, rfl, ?_⟩; have n0_ := Rm ho0 HB; have n1_ := Kb BK901 hb; have n2_ := Bc HB hb; clear BK901 HB; revert n0_ n1_ n2_; intro HO904 BK901 HB; (try clear hb); (try clear hb2); (try clear hk); (try clear hi); (try clear ho0); obtain ⟨Ao12, co12, eo12⟩ := Kd.R_slice HO904.out; subst eo12) | (go_at_call 46; (with_reducible refine (spec_l1In.calls a1 0 (wrap64 ((t902.length : Int) - 1)) true _ A5.out).mono ?_); rintro e w' ⟨rfl, ⟨nd, rfl⟩⟩; have p907 : 0 ≤ (a1 : Int) := dT; have q907 : a1 < (t902.length : Int) := dT; obtain ⟨ad907, e907, hx907_0⟩ := Kd.at_string (Kd.R_reads' HO904.out).2.2 a1 p907 q907; cases e907; replace p907 := eq_true p907; replace q907 := eq_true q907))
     go_ret2
     exact ⟨by first | rfl | (simp [errW_none, errW_some] <;> rfl) | (simp [*, errW_none, errW_some] <;> rfl), Bq⟩
    ·rw [if_neg c8] at H
     exact absurd H (by simp)
   ·rw [if_neg c7] at H
    exact absurd H (by simp)
  ·replace c6 := Bool.eq_false_iff.mpr c6
   subst c6
   have H1 : (some ((⟨#[]⟩ : ByteArray), false)) = some (r1, r2) := by rw [if_neg (show ¬ (false = true) by decide)] at H; exact H
   clear H; have H := H1; clear H1
   simp only [Option.some.injEq, Prod.mk.injEq] at H
   obtain ⟨rfl, rfl⟩ := H
   go_enter Try.func37, Try.ntmps37
   go_wp2_with (first | ((with_reducible refine gate_dst (N := 2) rfl ?_); (try (refine gate_guard (by rfl) ?_; dsimp only)); refine bE 2 #[.int .i64 a0_0, .slice A0_1 l0_1.length c0_1, .int .i64 a0_2, .slice A0_3 l0_3.length c0_3, .string a0_4] 32 ?_; intro gb901 hg w13 hbox hb; have n0_ := Bb HB hb; have n1_ := Aside0.mk (hbox); have n2_ := Gl HB hg; have n3_ := Gl HB hg; clear HB; revert n0_ n1_ n2_ n3_; intro HB BK901 GW901 GE901; clear hb hbox hg; obtain ⟨hcz14_0, hcz14_1, hcz14_2, hcz14_3, hcz14_4, hfz14_0, hfz14_1, hfz14_2, hfz14_3, hfz14_4⟩ := cf5 (w := w13) BK901) | ((with_reducible refine gate_callee (f := 51) rfl ?_); refine gL (some 10) Try.func51 #[.agg #[.int .i64 a0_0, .slice A0_1 l0_1.length c0_1, .int .i64 a0_2, .slice A0_3 l0_3.length c0_3, .string a0_4]] ?_; (with_reducible refine (spec_trOk.calls k a0_0 _ _ l0_1 a0_2 _ _ l0_3 a0_4 t902 true _ ?side1 ?side2 ?side3 ?side4 A3.out).mono ?_); (case side1 => exact Cz (Kd.C_below HR0_1.out HB.out)); (case side2 => exact HC0_1.out); (case side3 => exact Cz (Kd.C_below HR0_3.out HB.out)); (case side4 => exact HC0_3.out); rintro e w15 ⟨v903, rfl, ho0, hb⟩; refine ⟨_, rfl, ?_⟩; have n0_ := Rm ho0 HB; have n1_ := Kb BK901 hb; have n2_ := Bc HB hb; clear BK901 HB; revert n0_ n1_ n2_; intro HO904 BK901 HB; (try clear hb); (try clear hb2); (try clear hk); (try clear hi); (try clear ho0); obtain ⟨Ao16, co16, eo16⟩ := Kd.R_slice HO904.out; subst eo16) | (go_at_call 46; (with_reducible refine (spec_l1In.calls a1 0 (wrap64 ((t902.length : Int) - 1)) false _ A5.out).mono ?_); rintro e w' ⟨rfl, ⟨nd, rfl⟩⟩))
   go_ret2
   exact ⟨by first | rfl | (simp [errW_none, errW_some] <;> rfl) | (simp [*, errW_none, errW_some] <;> rfl), Bq⟩
 ·replace c4 := Bool.eq_false_iff.mpr c4
  subst c4
  have H1 : (some ((⟨#[]⟩ : ByteArray), false)) = some (r1, r2) := by rw [if_neg (show ¬ (false = true) by decide)] at H; exact H
  clear H; have H := H1; clear H1
  simp only [Option.some.injEq, Prod.mk.injEq] at H
  obtain ⟨rfl, rfl⟩ := H
  go_enter Try.func37, Try.ntmps37
  go_wp2_with (first | ((with_reducible refine gate_dst (N := 2) rfl ?_); (try (refine gate_guard (by rfl) ?_; dsimp only)); refine bE 2 #[.int .i64 a0_0, .slice A0_1 l0_1.length c0_1, .int .i64 a0_2, .slice A0_3 l0_3.length c0_3, .string a0_4] 32 ?_; intro gb901 hg w17 hbox hb; have n0_ := Bb HB hb; have n1_ := Aside0.mk (hbox); have n2_ := Gl HB hg; have n3_ := Gl HB hg; clear HB; revert n0_ n1_ n2_ n3_; intro HB BK901 GW901 GE901; clear hb hbox hg; obtain ⟨hcz18_0, hcz18_1, hcz18_2, hcz18_3, hcz18_4, hfz18_0, hfz18_1, hfz18_2, hfz18_3, hfz18_4⟩ := cf5 (w := w17) BK901) | ((with_reducible refine gate_callee (f := 51) rfl ?_); refine gL (some 10) Try.func51 #[.agg #[.int .i64 a0_0, .slice A0_1 l0_1.length c0_1, .int .i64 a0_2, .slice A0_3 l0_3.length c0_3, .string a0_4]] ?_; (with_reducible refine (spec_trOk.calls k a0_0 _ _ l0_1 a0_2 _ _ l0_3 a0_4 t902 false _ ?side1 ?side2 ?side3 ?side4 A3.out).mono ?_); (case side1 => exact Cz (Kd.C_below HR0_1.out HB.out)); (case side2 => exact HC0_1.out); (case side3 => exact Cz (Kd.C_below HR0_3.out HB.out)); (case side4 => exact HC0_3.out); rintro e w19 ⟨v903, rfl, ho0, hb⟩; refine ⟨_, rfl, ?_⟩; have n0_ := Rm ho0 HB; have n1_ := Kb BK901 hb; have n2_ := Bc HB hb; clear BK901 HB; revert n0_ n1_ n2_; intro HO904 BK901 HB; (try clear hb); (try clear hb2); (try clear hk); (try clear hi); (try clear ho0)))
  go_ret2
  exact ⟨by first | rfl | (simp [errW_none, errW_some] <;> rfl) | (simp [*, errW_none, errW_some] <;> rfl), Bq⟩

def impl_PathOf.f (k : Nat) (a0_0 : Int) (l0_1 : List Int) (a0_2 : Int) (l0_3 : List Int) (a0_4 : ByteArray) (a1 : Int) : Option (ByteArray × Bool) := (impl_Trie_nodeAt.f k a0_0 l0_1 a0_2 l0_3 a0_4 a1).bind fun bt909 => (some (bt909.1, bt909.2.2))
theorem impl_PathOf.mono : ∀ a0 a1 a2 a3 a4 a5 k, LeO (impl_PathOf.f k a0 a1 a2 a3 a4 a5) (impl_PathOf.f (k + 1) a0 a1 a2 a3 a4 a5) := by
 intro a0 a1 a2 a3 a4 a5 k
 unfold impl_PathOf.f
 repeat' first | (with_reducible first | exact impl_Trie_nodeAt.mono _ _ _ _ _ _ _ | exact LeO.refl _ | exact LeO.none _ | refine LeO.ite ?_ ?_ | refine LeO.bind ?_ (fun _ => ?_)) | exact LeO.none _ | refine LeO.ite ?_ ?_ | refine LeO.bind ?_ (fun _ => ?_)
set_option maxHeartbeats 8000000 in
set_option maxRecDepth 100000 in
theorem impl_PathOf.calls (k : Nat) (a0_0 : Int) (A0_1 : Option Addr) (c0_1 : Nat) (l0_1 : List Int) (a0_2 : Int) (A0_3 : Option Addr) (c0_3 : Nat) (l0_3 : List Int) (a0_4 : ByteArray) (a1 : Int) (r1 : ByteArray) (r2 : Bool) (w : World) (hr0_1 : Kd.C (Kd.int .i64) w A0_1 l0_1.length l0_1) (hc0_1 : l0_1.length ≤ c0_1) (hr0_3 : Kd.C (Kd.int .i64) w A0_3 l0_3.length l0_3) (hc0_3 : l0_3.length ≤ c0_3) (h : impl_PathOf.f k a0_0 l0_1 a0_2 l0_3 a0_4 a1 = some (r1, r2)) :
  Calls Try.prog 38 #[.agg #[.int .i64 a0_0, .slice A0_1 l0_1.length c0_1, .int .i64 a0_2, .slice A0_3 l0_3.length c0_3, .string a0_4], .int .i64 a1] w fun e w' => e = .returned (.tuple #[.string r1, .bool r2]) ∧ Below w.heap.size w w' := by
 have hu32 := Try.underlying32; have HR0_1 := Aside0.mk hr0_1; have HC0_1 := Aside0.mk hc0_1; clear hr0_1 hc0_1; have HR0_3 := Aside0.mk hr0_3; have HC0_3 := Aside0.mk hc0_3; clear hr0_3 hc0_3; have HB := Aside0.mk (Below.refl w.heap.size w); have H : ((impl_Trie_nodeAt.f k a0_0 l0_1 a0_2 l0_3 a0_4 a1).bind fun bt909 => (some (bt909.1, bt909.2.2))) = some (r1, r2) := h; clear h; replace H := Option.bind_eq_some_iff.mp H; obtain ⟨⟨t909, t910, t911⟩, A30, H⟩ := H; replace H : (some (t909, t911)) = some (r1, r2) := H; have A3 := Aside0.mk A30; clear A30
 simp only [Option.some.injEq, Prod.mk.injEq] at H
 obtain ⟨rfl, rfl⟩ := H
 go_enter Try.func38, Try.ntmps38
 go_wp2_with (first | ((with_reducible refine gate_dst (N := 2) rfl ?_); refine bE 2 #[.int .i64 a0_0, .slice A0_1 l0_1.length c0_1, .int .i64 a0_2, .slice A0_3 l0_3.length c0_3, .string a0_4] 32 ?_; intro gb908 hg w4 hbox hb; have n0_ := Bb HB hb; have n1_ := Aside0.mk (hbox); have n2_ := Gl HB hg; have n3_ := Gl HB hg; clear HB; revert n0_ n1_ n2_ n3_; intro HB BK908 GW908 GE908; clear hb hbox hg) | ((with_reducible refine gate_callee (f := 52) rfl ?_); refine gL (some 11) Try.func52 #[.pointer (some ⟨gb908, 0, none⟩), .int .i64 a1] ?_; (with_reducible refine (impl_Trie_nodeAt.calls k gb908 a0_0 A0_1 c0_1 l0_1 a0_2 A0_3 c0_3 l0_3 a0_4 a1 t909 t910 t911 _ ?side1 ?side2 ?side3 ?side4 ?side5 A3.out).mono ?_); (case side1 => (with_reducible repeat (first | refine blk_drewN ?_ _ | refine blk_drew ?_ | refine blk_alloc ?_ _)); exact BK908.out); (case side2 => exact Cz (Kd.C_below HR0_1.out HB.out)); (case side3 => exact HC0_1.out); (case side4 => exact Cz (Kd.C_below HR0_3.out HB.out)); (case side5 => exact HC0_3.out); rintro e w5 ⟨v912, rfl, ho0, hb⟩; refine ⟨_, rfl, ?_⟩; have n0_ := Rm ho0 HB; have n1_ := Kb BK908 hb; have n2_ := Bc HB hb; clear BK908 HB; revert n0_ n1_ n2_; intro HO913 BK908 HB; (try clear hb); (try clear hb2); (try clear hk); (try clear hi); (try clear ho0)))
 go_ret2
 exact ⟨by first | rfl | (simp [errW_none, errW_some] <;> rfl) | (simp [*, errW_none, errW_some] <;> rfl), Bq⟩

def laws_FnExactPathOf.j0 : Nat → Bool → Int → List Int → Int → List Int → ByteArray → Int → List Int → Int → List Int → ByteArray → Option (Bool)
 | 0, _, _, _, _, _, _, _, _, _, _, _ => none
 | k + 1, x38, x915000, x915001, x915002, x915003, x915004, x937000, x937001, x937002, x937003, x937004 => if x38 = true then (some false) else ((laws_toTrie.f k x915000 x915001 x915002 x915003 x915004).bind fun bt939 => ((laws_eqTrie.f k x937000 x937001 x937002 x937003 x937004 bt939.1 bt939.2.1 bt939.2.2.1 bt939.2.2.2.1 bt939.2.2.2.2).bind fun t948 => (if t948 = true then (some true) else (some false))))
def laws_FnExactPathOf.f (k : Nat) (a0_0 : Int) (l0_1 : List Int) (a0_2 : Int) (l0_3 : List Int) (a0_4 : ByteArray) (a1 : Int) : Option (Bool) := (laws_szTrie.f a0_0 l0_1 a0_2 l0_3 a0_4 1048576).bind fun t915 => (if t915 < 0 then (some true) else ((laws_toTrie.f k a0_0 l0_1 a0_2 l0_3 a0_4).bind fun bt916 => ((spec_PathOf.f k bt916.1 bt916.2.1 bt916.2.2.1 bt916.2.2.2.1 bt916.2.2.2.2 a1).bind fun bt925 => ((laws_toTrie.f k a0_0 l0_1 a0_2 l0_3 a0_4).bind fun bt927 => ((impl_PathOf.f k bt927.1 bt927.2.1 bt927.2.2.1 bt927.2.2.2.1 bt927.2.2.2.2 a1).bind fun bt937 => (if bt937.1.toList = bt925.1.toList then (laws_FnExactPathOf.j0 k (bt937.2 != bt925.2) a0_0 l0_1 a0_2 l0_3 a0_4 bt927.1 bt927.2.1 bt927.2.2.1 bt927.2.2.2.1 bt927.2.2.2.2) else (laws_FnExactPathOf.j0 k true a0_0 l0_1 a0_2 l0_3 a0_4 bt927.1 bt927.2.1 bt927.2.2.1 bt927.2.2.2.1 bt927.2.2.2.2)))))))
theorem laws_FnExactPathOf.mono_l : ∀ k, (∀ y0 y1 y2 y3 y4 y5 y6 y7 y8 y9 y10, LeO (laws_FnExactPathOf.j0 k y0 y1 y2 y3 y4 y5 y6 y7 y8 y9 y10) (laws_FnExactPathOf.j0 (k + 1) y0 y1 y2 y3 y4 y5 y6 y7 y8 y9 y10))
 | 0 => fun _ _ _ _ _ _ _ _ _ _ _ r h => by simp [laws_FnExactPathOf.j0] at h
 | k + 1 => by
  have ih0 := laws_FnExactPathOf.mono_l k
  ·intro y0 y1 y2 y3 y4 y5 y6 y7 y8 y9 y10
   unfold laws_FnExactPathOf.j0
   repeat' first | (with_reducible first | exact ih0 _ _ _ _ _ _ _ _ _ _ _ | exact impl_PathOf.mono _ _ _ _ _ _ _ | exact laws_eqTrie.mono _ _ _ _ _ _ _ _ _ _ _ | exact laws_toTrie.mono _ _ _ _ _ _ | exact spec_PathOf.mono _ _ _ _ _ _ _ | exact LeO.refl _ | exact LeO.none _ | refine LeO.ite ?_ ?_ | refine LeO.bind ?_ (fun _ => ?_)) | exact LeO.none _ | refine LeO.ite ?_ ?_ | refine LeO.bind ?_ (fun _ => ?_)
theorem laws_FnExactPathOf.mono : ∀ a0 a1 a2 a3 a4 a5 k, LeO (laws_FnExactPathOf.f k a0 a1 a2 a3 a4 a5) (laws_FnExactPathOf.f (k + 1) a0 a1 a2 a3 a4 a5) := by
 intro a0 a1 a2 a3 a4 a5 k; have ih0 := laws_FnExactPathOf.mono_l k
 unfold laws_FnExactPathOf.f
 repeat' first | (with_reducible first | exact ih0 _ _ _ _ _ _ _ _ _ _ _ | exact impl_PathOf.mono _ _ _ _ _ _ _ | exact laws_eqTrie.mono _ _ _ _ _ _ _ _ _ _ _ | exact laws_toTrie.mono _ _ _ _ _ _ | exact spec_PathOf.mono _ _ _ _ _ _ _ | exact LeO.refl _ | exact LeO.none _ | refine LeO.ite ?_ ?_ | refine LeO.bind ?_ (fun _ => ?_)) | exact LeO.none _ | refine LeO.ite ?_ ?_ | refine LeO.bind ?_ (fun _ => ?_)
set_option maxHeartbeats 8000000 in
set_option maxRecDepth 100000 in
theorem laws_FnExactPathOf.calls (k : Nat) (a0_0 : Int) (A0_1 : Option Addr) (c0_1 : Nat) (l0_1 : List Int) (a0_2 : Int) (A0_3 : Option Addr) (c0_3 : Nat) (l0_3 : List Int) (a0_4 : ByteArray) (a1 : Int) (r : Bool) (w : World) (hr0_1 : Kd.C (Kd.int .i64) w A0_1 l0_1.length l0_1) (hc0_1 : l0_1.length ≤ c0_1) (hr0_3 : Kd.C (Kd.int .i64) w A0_3 l0_3.length l0_3) (hc0_3 : l0_3.length ≤ c0_3) (h : laws_FnExactPathOf.f k a0_0 l0_1 a0_2 l0_3 a0_4 a1 = some r) :
  Calls Try.prog 11 #[.agg #[.int .i64 a0_0, .slice A0_1 l0_1.length c0_1, .int .i64 a0_2, .slice A0_3 l0_3.length c0_3, .string a0_4], .int .i64 a1] w fun e w' => e = .returned (.bool r) ∧ Below w.heap.size w w' := by
 have hu26 := Try.underlying26; have hu32 := Try.underlying32; have HR0_1 := Aside0.mk hr0_1; have HC0_1 := Aside0.mk hc0_1; clear hr0_1 hc0_1; have HR0_3 := Aside0.mk hr0_3; have HC0_3 := Aside0.mk hc0_3; clear hr0_3 hc0_3; have HB := Aside0.mk (Below.refl w.heap.size w); have H : ((laws_szTrie.f a0_0 l0_1 a0_2 l0_3 a0_4 1048576).bind fun t915 => (if t915 < 0 then (some true) else ((laws_toTrie.f k a0_0 l0_1 a0_2 l0_3 a0_4).bind fun bt916 => ((spec_PathOf.f k bt916.1 bt916.2.1 bt916.2.2.1 bt916.2.2.2.1 bt916.2.2.2.2 a1).bind fun bt925 => ((laws_toTrie.f k a0_0 l0_1 a0_2 l0_3 a0_4).bind fun bt927 => ((impl_PathOf.f k bt927.1 bt927.2.1 bt927.2.2.1 bt927.2.2.2.1 bt927.2.2.2.2 a1).bind fun bt937 => (if bt937.1.toList = bt925.1.toList then (laws_FnExactPathOf.j0 k (bt937.2 != bt925.2) a0_0 l0_1 a0_2 l0_3 a0_4 bt927.1 bt927.2.1 bt927.2.2.1 bt927.2.2.2.1 bt927.2.2.2.2) else (laws_FnExactPathOf.j0 k true a0_0 l0_1 a0_2 l0_3 a0_4 bt927.1 bt927.2.1 bt927.2.2.1 bt927.2.2.2.1 bt927.2.2.2.2)))))))) = some r := h; clear h; replace H := Option.bind_eq_some_iff.mp H; obtain ⟨t915, A30, H⟩ := H; replace H : (if t915 < 0 then (some true) else ((laws_toTrie.f k a0_0 l0_1 a0_2 l0_3 a0_4).bind fun bt916 => ((spec_PathOf.f k bt916.1 bt916.2.1 bt916.2.2.1 bt916.2.2.2.1 bt916.2.2.2.2 a1).bind fun bt925 => ((laws_toTrie.f k a0_0 l0_1 a0_2 l0_3 a0_4).bind fun bt927 => ((impl_PathOf.f k bt927.1 bt927.2.1 bt927.2.2.1 bt927.2.2.2.1 bt927.2.2.2.2 a1).bind fun bt937 => (if bt937.1.toList = bt925.1.toList then (laws_FnExactPathOf.j0 k (bt937.2 != bt925.2) a0_0 l0_1 a0_2 l0_3 a0_4 bt927.1 bt927.2.1 bt927.2.2.1 bt927.2.2.2.1 bt927.2.2.2.2) else (laws_FnExactPathOf.j0 k true a0_0 l0_1 a0_2 l0_3 a0_4 bt927.1 bt927.2.1 bt927.2.2.1 bt927.2.2.2.1 bt927.2.2.2.2))))))) = some r := H; have A3 := Aside0.mk A30; clear A30
 by_cases c4 : t915 < 0
 ·rw [if_pos c4] at H
  have c4b0 : decide (t915 < 0) = true := decide_eq_true c4; clear c4; obtain rfl := Option.some.inj H
  go_enter Try.func11, Try.ntmps11
  go_wp2_with (first | ((with_reducible refine gate_dst (N := 2) rfl ?_); refine bE 2 #[.int .i64 a0_0, .slice A0_1 l0_1.length c0_1, .int .i64 a0_2, .slice A0_3 l0_3.length c0_3, .string a0_4] 26 ?_; intro gb914 hg w5 hbox hb; have n0_ := Bb HB hb; have n1_ := Aside0.mk (hbox); have n2_ := Gl HB hg; have n3_ := Gl HB hg; clear HB; revert n0_ n1_ n2_ n3_; intro HB BK914 GW914 GE914; clear hb hbox hg; obtain ⟨hcz6_0, hcz6_1, hcz6_2, hcz6_3, hcz6_4, hfz6_0, hfz6_1, hfz6_2, hfz6_3, hfz6_4⟩ := cf5 (w := w5) BK914) | ((with_reducible refine gate_callee (f := 12) rfl ?_); refine gL (some 13) Try.func12 #[.agg #[.int .i64 a0_0, .slice A0_1 l0_1.length c0_1, .int .i64 a0_2, .slice A0_3 l0_3.length c0_3, .string a0_4], .int .i64 1048576] ?_; (with_reducible refine (laws_szTrie.calls a0_0 _ _ l0_1 a0_2 _ _ l0_3 a0_4 1048576 t915 _ ?side1 ?side2 ?side3 ?side4 A3.out).mono ?_); (case side1 => exact Cz (Kd.C_below HR0_1.out HB.out)); (case side2 => exact HC0_1.out); (case side3 => exact Cz (Kd.C_below HR0_3.out HB.out)); (case side4 => exact HC0_3.out); rintro e w7 ⟨rfl, hb⟩; refine ⟨_, rfl, ?_⟩; have n0_ := Kb BK914 hb; have n1_ := Bc HB hb; clear BK914 HB; revert n0_ n1_; intro BK914 HB; (try clear hb); (try clear hb2); (try clear hk); (try clear hi)))
  go_ret
  exact ⟨by first | rfl | (simp [errW_none, errW_some] <;> rfl) | (simp [*, errW_none, errW_some] <;> rfl), Bq⟩
 ·rw [if_neg c4] at H
  have c4b0 : decide (t915 < 0) = false := decide_eq_false c4; clear c4; replace H := Option.bind_eq_some_iff.mp H; obtain ⟨⟨t916, t917, t920, t921, t924⟩, A80, H⟩ := H; replace H : ((spec_PathOf.f k t916 t917 t920 t921 t924 a1).bind fun bt925 => ((laws_toTrie.f k a0_0 l0_1 a0_2 l0_3 a0_4).bind fun bt927 => ((impl_PathOf.f k bt927.1 bt927.2.1 bt927.2.2.1 bt927.2.2.2.1 bt927.2.2.2.2 a1).bind fun bt937 => (if bt937.1.toList = bt925.1.toList then (laws_FnExactPathOf.j0 k (bt937.2 != bt925.2) a0_0 l0_1 a0_2 l0_3 a0_4 bt927.1 bt927.2.1 bt927.2.2.1 bt927.2.2.2.1 bt927.2.2.2.2) else (laws_FnExactPathOf.j0 k true a0_0 l0_1 a0_2 l0_3 a0_4 bt927.1 bt927.2.1 bt927.2.2.1 bt927.2.2.2.1 bt927.2.2.2.2))))) = some r := H; have A8 := Aside0.mk A80; clear A80; replace H := Option.bind_eq_some_iff.mp H; obtain ⟨⟨t925, t926⟩, A90, H⟩ := H; replace H : ((laws_toTrie.f k a0_0 l0_1 a0_2 l0_3 a0_4).bind fun bt927 => ((impl_PathOf.f k bt927.1 bt927.2.1 bt927.2.2.1 bt927.2.2.2.1 bt927.2.2.2.2 a1).bind fun bt937 => (if bt937.1.toList = t925.toList then (laws_FnExactPathOf.j0 k (bt937.2 != t926) a0_0 l0_1 a0_2 l0_3 a0_4 bt927.1 bt927.2.1 bt927.2.2.1 bt927.2.2.2.1 bt927.2.2.2.2) else (laws_FnExactPathOf.j0 k true a0_0 l0_1 a0_2 l0_3 a0_4 bt927.1 bt927.2.1 bt927.2.2.1 bt927.2.2.2.1 bt927.2.2.2.2)))) = some r := H; have A9 := Aside0.mk A90; clear A90; replace H := Option.bind_eq_some_iff.mp H; obtain ⟨⟨t927, t928, t931, t932, t935⟩, A100, H⟩ := H; replace H : ((impl_PathOf.f k t927 t928 t931 t932 t935 a1).bind fun bt937 => (if bt937.1.toList = t925.toList then (laws_FnExactPathOf.j0 k (bt937.2 != t926) a0_0 l0_1 a0_2 l0_3 a0_4 t927 t928 t931 t932 t935) else (laws_FnExactPathOf.j0 k true a0_0 l0_1 a0_2 l0_3 a0_4 t927 t928 t931 t932 t935))) = some r := H; have A10 := Aside0.mk A100; clear A100; replace H := Option.bind_eq_some_iff.mp H; obtain ⟨⟨t937, t938⟩, A110, H⟩ := H; replace H : (if t937.toList = t925.toList then (laws_FnExactPathOf.j0 k (t938 != t926) a0_0 l0_1 a0_2 l0_3 a0_4 t927 t928 t931 t932 t935) else (laws_FnExactPathOf.j0 k true a0_0 l0_1 a0_2 l0_3 a0_4 t927 t928 t931 t932 t935)) = some r := H; have A11 := Aside0.mk A110; clear A110; have HC12 := Aside0.mk H; clear H
  go_enter Try.func11, Try.ntmps11
  go_upto_region 8 with (first | ((with_reducible refine gate_dst (N := 2) rfl ?_); refine bE 2 #[.int .i64 a0_0, .slice A0_1 l0_1.length c0_1, .int .i64 a0_2, .slice A0_3 l0_3.length c0_3, .string a0_4] 26 ?_; intro gb914 hg w13 hbox hb; have n0_ := Bb HB hb; have n1_ := Aside0.mk (hbox); have n2_ := Gl HB hg; have n3_ := Gl HB hg; clear HB; revert n0_ n1_ n2_ n3_; intro HB BK914 GW914 GE914; clear hb hbox hg; obtain ⟨hcz14_0, hcz14_1, hcz14_2, hcz14_3, hcz14_4, hfz14_0, hfz14_1, hfz14_2, hfz14_3, hfz14_4⟩ := cf5 (w := w13) BK914) | ((with_reducible refine gate_callee (f := 12) rfl ?_); refine gL (some 13) Try.func12 #[.agg #[.int .i64 a0_0, .slice A0_1 l0_1.length c0_1, .int .i64 a0_2, .slice A0_3 l0_3.length c0_3, .string a0_4], .int .i64 1048576] ?_; (with_reducible refine (laws_szTrie.calls a0_0 _ _ l0_1 a0_2 _ _ l0_3 a0_4 1048576 t915 _ ?side1 ?side2 ?side3 ?side4 A3.out).mono ?_); (case side1 => exact Cz (Kd.C_below HR0_1.out HB.out)); (case side2 => exact HC0_1.out); (case side3 => exact Cz (Kd.C_below HR0_3.out HB.out)); (case side4 => exact HC0_3.out); rintro e w15 ⟨rfl, hb⟩; refine ⟨_, rfl, ?_⟩; have n0_ := Kb BK914 hb; have n1_ := Bc HB hb; clear BK914 HB; revert n0_ n1_; intro BK914 HB; (try clear hb); (try clear hb2); (try clear hk); (try clear hi); obtain ⟨hcz16_0, hcz16_1, hcz16_2, hcz16_3, hcz16_4, hfz16_0, hfz16_1, hfz16_2, hfz16_3, hfz16_4⟩ := cf5 (w := w15) BK914) | ((with_reducible refine gate_callee (f := 14) rfl ?_); refine gL (some 18) Try.func14 #[.agg #[.int .i64 a0_0, .slice A0_1 l0_1.length c0_1, .int .i64 a0_2, .slice A0_3 l0_3.length c0_3, .string a0_4]] ?_; (with_reducible refine (laws_toTrie.calls k a0_0 _ _ l0_1 a0_2 _ _ l0_3 a0_4 t916 t917 t920 t921 t924 _ ?side1 ?side2 ?side3 ?side4 A8.out).mono ?_); (case side1 => exact Cz (Kd.C_below HR0_1.out HB.out)); (case side2 => exact HC0_1.out); (case side3 => exact Cz (Kd.C_below HR0_3.out HB.out)); (case side4 => exact HC0_3.out); rintro e w17 ⟨v918, v922, rfl, ho0, ho1, hb⟩; refine ⟨_, rfl, ?_⟩; have n0_ := Rm ho0 HB; have n1_ := Rm ho1 HB; have n2_ := Kb BK914 hb; have n3_ := Bc HB hb; clear BK914 HB; revert n0_ n1_ n2_ n3_; intro HO919 HO923 BK914 HB; (try clear hb); (try clear hb2); (try clear hk); (try clear hi); (try clear ho0); (try clear ho1); obtain ⟨Ao18, co18, eo18⟩ := Kd.R_slice HO919.out; subst eo18; obtain ⟨Ao19, co19, eo19⟩ := Kd.R_slice HO923.out; subst eo19) | ((with_reducible refine gate_callee (f := 37) rfl ?_); refine gL (some 20) Try.func37 #[.agg #[.int .i64 t916, .slice Ao18 t917.length co18, .int .i64 t920, .slice Ao19 t921.length co19, .string t924], .int .i64 a1] ?_; (with_reducible refine (spec_PathOf.calls k t916 _ _ t917 t920 _ _ t921 t924 a1 t925 t926 _ ?side1 ?side2 ?side3 ?side4 A9.out).mono ?_); (case side1 => exact Cz ((Kd.R_reads' HO919.out).2.2)); (case side2 => exact (Kd.R_reads' HO919.out).2.1); (case side3 => exact Cz ((Kd.R_reads' HO923.out).2.2)); (case side4 => exact (Kd.R_reads' HO923.out).2.1); rintro e w20 ⟨rfl, hb⟩; refine ⟨_, rfl, ?_⟩; have n0_ := Rb HO919 hb; have n1_ := Rb HO923 hb; have n2_ := Kb BK914 hb; have n3_ := Bc HB hb; clear HO919 HO923 BK914 HB; revert n0_ n1_ n2_ n3_; intro HO919 HO923 BK914 HB; (try clear hb); (try clear hb2); (try clear hk); (try clear hi); obtain ⟨hcz21_0, hcz21_1, hcz21_2, hcz21_3, hcz21_4, hfz21_0, hfz21_1, hfz21_2, hfz21_3, hfz21_4⟩ := cf5 (w := w20) BK914) | ((with_reducible refine gate_callee (f := 14) rfl ?_); refine gL (some 24) Try.func14 #[.agg #[.int .i64 a0_0, .slice A0_1 l0_1.length c0_1, .int .i64 a0_2, .slice A0_3 l0_3.length c0_3, .string a0_4]] ?_; (with_reducible refine (laws_toTrie.calls k a0_0 _ _ l0_1 a0_2 _ _ l0_3 a0_4 t927 t928 t931 t932 t935 _ ?side1 ?side2 ?side3 ?side4 A10.out).mono ?_); (case side1 => exact Cz (Kd.C_below HR0_1.out HB.out)); (case side2 => exact HC0_1.out); (case side3 => exact Cz (Kd.C_below HR0_3.out HB.out)); (case side4 => exact HC0_3.out); rintro e w22 ⟨v929, v933, rfl, ho0, ho1, hb⟩; refine ⟨_, rfl, ?_⟩; have n0_ := Aside0.mk (Kd.R_mono (Kd.R_told (Kd.R_told (Kd.R_old (Rz HO919.out) hb) (Kd.R_base ho0)) (Kd.R_base ho1)) (fun _ h_ => h_.1)); have n1_ := Aside0.mk (Kd.R_mono (Kd.R_told (Kd.R_told (Kd.R_old (Rz HO923.out) hb) (Kd.R_base ho0)) (Kd.R_base ho1)) (fun _ h_ => h_.1)); have n2_ := Rm (Kd.R_new' (Kd.R_new' ho0 (Kd.R_lt (Rz HO919.out))) (Kd.R_lt (Rz HO923.out))) HB; have n3_ := Rm (Kd.R_new' (Kd.R_new' ho1 (Kd.R_lt (Rz HO919.out))) (Kd.R_lt (Rz HO923.out))) HB; have n4_ := Kb BK914 hb; have n5_ := Bc HB hb; clear HO919 HO923 BK914 HB; revert n0_ n1_ n2_ n3_ n4_ n5_; intro HO919 HO923 HO930 HO934 BK914 HB; (try clear hb); (try clear hb2); (try clear hk); (try clear hi); (try clear ho0); (try clear ho1)) | ((with_reducible refine gate_dst (N := 8) rfl ?_); refine bE 8 #[.int .i64 0, .slice none 0 0, .int .i64 0, .slice none 0 0, .string (⟨#[]⟩ : ByteArray)] 32 ?_; intro gb936 hg w23 hbox hb; have n0_ := Rb HO919 hb; have n1_ := Rb HO923 hb; have n2_ := Rb HO930 hb; have n3_ := Rb HO934 hb; have n4_ := Kb BK914 hb; have n5_ := Bc HB hb; have n6_ := Aside0.mk (hbox); have n7_ := Gm HB hg; have n8_ := Gm HB hg; have n9_ := Nl BK914 hg; have n10_ := Ng BK914 hg; clear HO919 HO923 HO930 HO934 BK914 HB; revert n0_ n1_ n2_ n3_ n4_ n5_ n6_ n7_ n8_ n9_ n10_; intro HO919 HO923 HO930 HO934 BK914 HB BK936 GW936 GE936 NB914_936 NB936_914; clear hb hbox hg; have hnb24 := NB936_914.out; have hnc24 := NB914_936.out; obtain ⟨hcz25_0, hcz25_1, hcz25_2, hcz25_3, hcz25_4, hfz25_0, hfz25_1, hfz25_2, hfz25_3, hfz25_4⟩ := cf5 (w := w23) BK936; obtain ⟨Ao26, co26, eo26⟩ := Kd.R_slice HO930.out; subst eo26; obtain ⟨Ao27, co27, eo27⟩ := Kd.R_slice HO934.out; subst eo27) | ((with_reducible refine gate_callee (f := 38) rfl ?_); refine gL (some 28) Try.func38 #[.agg #[.int .i64 t927, .slice Ao26 t928.length co26, .int .i64 t931, .slice Ao27 t932.length co27, .string t935], .int .i64 a1] ?_; (with_reducible refine (impl_PathOf.calls k t927 _ _ t928 t931 _ _ t932 t935 a1 t937 t938 _ ?side1 ?side2 ?side3 ?side4 A11.out).mono ?_); (case side1 => refine (Kd.R_reads' (e := 3) (base := w.heap.size) (ok := fun k_ => ((some k_ ≠ (.slice Ao27 t932.length co27 : Value).ownBlock ∧ some k_ ≠ (.slice Ao18 t917.length co18 : Value).ownBlock) ∧ some k_ ≠ (.slice Ao19 t921.length co19 : Value).ownBlock)) (n := t928.length) (c := co26) ?_).2.2; exact (Rz (Kd.R_mono (Kd.R_far (p := ⟨gb936, 4, none⟩) (Kd.R_far (p := ⟨gb936, 3, none⟩) (Kd.R_far (p := ⟨gb936, 2, none⟩) (Kd.R_far (p := ⟨gb936, 1, none⟩) (Kd.R_far (p := ⟨gb936, 0, none⟩) (Kd.R_types HO930.out BK936.out (by decide)) (fun _ hk => hk.2) (.int .i64 t927)) (fun _ hk => hk.2) (.slice Ao26 t928.length co26)) (fun _ hk => hk.2) (.int .i64 t931)) (fun _ hk => hk.2) (.slice Ao27 t932.length co27)) (fun _ hk => hk.2) (.string t935)) (fun _ h_ => h_.1)))); (case side2 => exact (Kd.R_reads' HO930.out).2.1); (case side3 => refine (Kd.R_reads' (e := 3) (base := w.heap.size) (ok := fun k_ => ((some k_ ≠ (.slice Ao26 t928.length co26 : Value).ownBlock ∧ some k_ ≠ (.slice Ao18 t917.length co18 : Value).ownBlock) ∧ some k_ ≠ (.slice Ao19 t921.length co19 : Value).ownBlock)) (n := t932.length) (c := co27) ?_).2.2; exact (Rz (Kd.R_mono (Kd.R_far (p := ⟨gb936, 4, none⟩) (Kd.R_far (p := ⟨gb936, 3, none⟩) (Kd.R_far (p := ⟨gb936, 2, none⟩) (Kd.R_far (p := ⟨gb936, 1, none⟩) (Kd.R_far (p := ⟨gb936, 0, none⟩) (Kd.R_types HO934.out BK936.out (by decide)) (fun _ hk => hk.2) (.int .i64 t927)) (fun _ hk => hk.2) (.slice Ao26 t928.length co26)) (fun _ hk => hk.2) (.int .i64 t931)) (fun _ hk => hk.2) (.slice Ao27 t932.length co27)) (fun _ hk => hk.2) (.string t935)) (fun _ h_ => h_.1)))); (case side4 => exact (Kd.R_reads' HO934.out).2.1); rintro e w28 ⟨rfl, hb⟩; refine ⟨_, rfl, ?_⟩; have n0_ := Aside0.mk (Kd.R_below (Rz (Kd.R_mono (Kd.R_far (p := ⟨gb936, 4, none⟩) (Kd.R_far (p := ⟨gb936, 3, none⟩) (Kd.R_far (p := ⟨gb936, 2, none⟩) (Kd.R_far (p := ⟨gb936, 1, none⟩) (Kd.R_far (p := ⟨gb936, 0, none⟩) (Kd.R_types HO919.out BK936.out (by decide)) (fun _ hk => hk.2) (.int .i64 t927)) (fun _ hk => hk.2) (.slice Ao26 t928.length co26)) (fun _ hk => hk.2) (.int .i64 t931)) (fun _ hk => hk.2) (.slice Ao27 t932.length co27)) (fun _ hk => hk.2) (.string t935)) (fun _ h_ => h_.1))) hb); have n1_ := Aside0.mk (Kd.R_below (Rz (Kd.R_mono (Kd.R_far (p := ⟨gb936, 4, none⟩) (Kd.R_far (p := ⟨gb936, 3, none⟩) (Kd.R_far (p := ⟨gb936, 2, none⟩) (Kd.R_far (p := ⟨gb936, 1, none⟩) (Kd.R_far (p := ⟨gb936, 0, none⟩) (Kd.R_types HO923.out BK936.out (by decide)) (fun _ hk => hk.2) (.int .i64 t927)) (fun _ hk => hk.2) (.slice Ao26 t928.length co26)) (fun _ hk => hk.2) (.int .i64 t931)) (fun _ hk => hk.2) (.slice Ao27 t932.length co27)) (fun _ hk => hk.2) (.string t935)) (fun _ h_ => h_.1))) hb); have n2_ := Aside0.mk (Kd.R_below (Rz (Kd.R_mono (Kd.R_far (p := ⟨gb936, 4, none⟩) (Kd.R_far (p := ⟨gb936, 3, none⟩) (Kd.R_far (p := ⟨gb936, 2, none⟩) (Kd.R_far (p := ⟨gb936, 1, none⟩) (Kd.R_far (p := ⟨gb936, 0, none⟩) (Kd.R_types HO930.out BK936.out (by decide)) (fun _ hk => hk.2) (.int .i64 t927)) (fun _ hk => hk.2) (.slice Ao26 t928.length co26)) (fun _ hk => hk.2) (.int .i64 t931)) (fun _ hk => hk.2) (.slice Ao27 t932.length co27)) (fun _ hk => hk.2) (.string t935)) (fun _ h_ => h_.1))) hb); have n3_ := Aside0.mk (Kd.R_below (Rz (Kd.R_mono (Kd.R_far (p := ⟨gb936, 4, none⟩) (Kd.R_far (p := ⟨gb936, 3, none⟩) (Kd.R_far (p := ⟨gb936, 2, none⟩) (Kd.R_far (p := ⟨gb936, 1, none⟩) (Kd.R_far (p := ⟨gb936, 0, none⟩) (Kd.R_types HO934.out BK936.out (by decide)) (fun _ hk => hk.2) (.int .i64 t927)) (fun _ hk => hk.2) (.slice Ao26 t928.length co26)) (fun _ hk => hk.2) (.int .i64 t931)) (fun _ hk => hk.2) (.slice Ao27 t932.length co27)) (fun _ hk => hk.2) (.string t935)) (fun _ h_ => h_.1))) hb); have n4_ := Aside0.mk (blk_below (g := gb914) (o := .cells #[.int .i64 a0_0, .slice A0_1 l0_1.length c0_1, .int .i64 a0_2, .slice A0_3 l0_3.length c0_3, .string a0_4] 26 (0, 0)) (by (with_reducible repeat (first | refine blk_drewN ?_ _ | refine blk_drew ?_ | refine blk_alloc ?_ _)); refine blk_far ?_ NB914_936.out _; (with_reducible repeat (first | refine blk_drewN ?_ _ | refine blk_drew ?_ | refine blk_alloc ?_ _)); refine blk_far ?_ NB914_936.out _; (with_reducible repeat (first | refine blk_drewN ?_ _ | refine blk_drew ?_ | refine blk_alloc ?_ _)); refine blk_far ?_ NB914_936.out _; (with_reducible repeat (first | refine blk_drewN ?_ _ | refine blk_drew ?_ | refine blk_alloc ?_ _)); refine blk_far ?_ NB914_936.out _; (with_reducible repeat (first | refine blk_drewN ?_ _ | refine blk_drew ?_ | refine blk_alloc ?_ _)); refine blk_far ?_ NB914_936.out _; (with_reducible repeat (first | refine blk_drewN ?_ _ | refine blk_drew ?_ | refine blk_alloc ?_ _)); exact BK914.out) hb); have n5_ := Aside0.mk (blk_below (g := gb936) (o := .cells #[.int .i64 t927, .slice Ao26 t928.length co26, .int .i64 t931, .slice Ao27 t932.length co27, .string t935] 32 (0, 0)) (by (with_reducible repeat (first | refine blk_drewN ?_ _ | refine blk_drew ?_ | refine blk_alloc ?_ _)); refine blk_put (cs := #[.int .i64 t927, .slice Ao26 t928.length co26, .int .i64 t931, .slice Ao27 t932.length co27, .string (⟨#[]⟩ : ByteArray)]) ?_ 4 _ rfl; (with_reducible repeat (first | refine blk_drewN ?_ _ | refine blk_drew ?_ | refine blk_alloc ?_ _)); refine blk_put (cs := #[.int .i64 t927, .slice Ao26 t928.length co26, .int .i64 t931, .slice none 0 0, .string (⟨#[]⟩ : ByteArray)]) ?_ 3 _ rfl; (with_reducible repeat (first | refine blk_drewN ?_ _ | refine blk_drew ?_ | refine blk_alloc ?_ _)); refine blk_put (cs := #[.int .i64 t927, .slice Ao26 t928.length co26, .int .i64 0, .slice none 0 0, .string (⟨#[]⟩ : ByteArray)]) ?_ 2 _ rfl; (with_reducible repeat (first | refine blk_drewN ?_ _ | refine blk_drew ?_ | refine blk_alloc ?_ _)); refine blk_put (cs := #[.int .i64 t927, .slice none 0 0, .int .i64 0, .slice none 0 0, .string (⟨#[]⟩ : ByteArray)]) ?_ 1 _ rfl; (with_reducible repeat (first | refine blk_drewN ?_ _ | refine blk_drew ?_ | refine blk_alloc ?_ _)); refine blk_put (cs := #[.int .i64 0, .slice none 0 0, .int .i64 0, .slice none 0 0, .string (⟨#[]⟩ : ByteArray)]) ?_ 0 _ rfl; (with_reducible repeat (first | refine blk_drewN ?_ _ | refine blk_drew ?_ | refine blk_alloc ?_ _)); exact BK936.out) hb); have n6_ := Bc HB hb; clear HO919 HO923 HO930 HO934 BK914 BK936 HB; revert n0_ n1_ n2_ n3_ n4_ n5_ n6_; intro HO919 HO923 HO930 HO934 BK914 BK936 HB; (try clear hb); (try clear hb2); (try clear hk); (try clear hi)))
  (try simp only [Act.put, List.setIfInBounds_toArray, List.set_cons_zero, List.set_cons_succ])
  go_cut [38] (fun v38 wc => ∃ (kq : Nat) (x38_11 : Bool), v38 = .bool x38_11 ∧ Aside0 (laws_FnExactPathOf.j0 kq x38_11 a0_0 l0_1 a0_2 l0_3 a0_4 t927 t928 t931 t932 t935 = some r) ∧ Aside0 (kq ≤ k) ∧ Aside0 (Kd.R (Kd.int .i64) 3 wc w.heap.size (fun k_ => some k_ ≠ ((.slice Ao27 t932.length co27) : Value).ownBlock) (.slice Ao26 t928.length co26) t928) ∧ Aside0 (Kd.R (Kd.int .i64) 3 wc w.heap.size (fun k_ => some k_ ≠ ((.slice Ao26 t928.length co26) : Value).ownBlock) (.slice Ao27 t932.length co27) t932) ∧ Aside0 (wc.heap[gb914]? = some (.cells #[.int .i64 a0_0, (.slice A0_1 l0_1.length c0_1), .int .i64 a0_2, (.slice A0_3 l0_3.length c0_3), .string a0_4] 26 (0, 0))) ∧ Aside0 (wc.heap[gb936]? = some (.cells #[.int .i64 t927, (.slice Ao26 t928.length co26), .int .i64 t931, (.slice Ao27 t932.length co27), .string t935] 32 (0, 0))) ∧ Aside0 (Below w.heap.size w wc))
  case first =>
   have H := HC12.out; clear HC12
   by_cases c29 : t937.toList = t925.toList
   ·rw [if_pos c29] at H
    have c29b0 : (t937.toList == t925.toList) = true := beq_iff_eq.mpr c29; have c29b1 : (t937.toList != t925.toList) = false := bne_eq_false_iff_eq.mpr c29; clear c29
    (first | rw [c29b0] | (simp only [i64_w, i32_w]; rw [c29b0]) | skip)
    have H' := Aside0.mk H; clear H
    go_wp2
    go_meet
    case rel => exact ⟨_, ((t938 != t926)), (by first | rfl | (simp; done) | (simp [*]; done)), H', ⟨by first | omega | exact Nat.le_refl _⟩, ⟨Rz (Kd.R_mono HO930.out (fun _ hk => hk.1.1))⟩, ⟨Rz (Kd.R_mono HO934.out (fun _ hk => hk.1.1))⟩, ⟨Kz BK914.out⟩, ⟨Kz BK936.out⟩, ⟨Bq⟩⟩
   ·rw [if_neg c29] at H
    have c29b0 : (t937.toList == t925.toList) = false := beq_eq_false_iff_ne.mpr c29; have c29b1 : (t937.toList != t925.toList) = true := bne_iff_ne.mpr c29
    (first | rw [c29b0] | (simp only [i64_w, i32_w]; rw [c29b0]) | skip)
    have H' := Aside0.mk H; clear H
    go_wp2
    go_meet
    case rel => exact ⟨_, (true), (by first | rfl | (simp; done) | (simp [*]; done)), H', ⟨by first | omega | exact Nat.le_refl _⟩, ⟨Rz (Kd.R_mono HO930.out (fun _ hk => hk.1.1))⟩, ⟨Rz (Kd.R_mono HO934.out (fun _ hk => hk.1.1))⟩, ⟨Kz BK914.out⟩, ⟨Kz BK936.out⟩, ⟨Bq⟩⟩
  case rest =>
   clear HC12
   try clear c1
   try clear c2
   try clear p2
   try clear c3
   try clear c4
   try clear c4b0
   try clear c11
   try clear c12
   try clear c14
   try clear c24
   try clear c29
   try clear c29b0
   try clear c29b1
   try clear hcz14_0
   try clear hcz14_1
   try clear hcz14_2
   try clear hcz14_3
   try clear hcz14_4
   try clear hcz16_0
   try clear hcz16_1
   try clear hcz16_2
   try clear hcz16_3
   try clear hcz16_4
   try clear hcz21_0
   try clear hcz21_1
   try clear hcz21_2
   try clear hcz21_3
   try clear hcz21_4
   try clear hcz25_0
   try clear hcz25_1
   try clear hcz25_2
   try clear hcz25_3
   try clear hcz25_4
   try clear hcz6_0
   try clear hcz6_1
   try clear hcz6_2
   try clear hcz6_3
   try clear hcz6_4
   try clear hfz14_0
   try clear hfz14_1
   try clear hfz14_2
   try clear hfz14_3
   try clear hfz14_4
   try clear hfz16_0
   try clear hfz16_1
   try clear hfz16_2
   try clear hfz16_3
   try clear hfz16_4
   try clear hfz21_0
   try clear hfz21_1
   try clear hfz21_2
   try clear hfz21_3
   try clear hfz21_4
   try clear hfz25_0
   try clear hfz25_1
   try clear hfz25_2
   try clear hfz25_3
   try clear hfz25_4
   try clear hfz6_0
   try clear hfz6_1
   try clear hfz6_2
   try clear hfz6_3
   try clear hfz6_4
   obtain ⟨kq, x38_11, rfl, HA, HJ11, HO_937001, HO_937003, BK914, BK936, HB⟩ := hcut; cases kq with
   | zero => exact absurd HA.out (by simp [laws_FnExactPathOf.j0])
   | succ kj11 =>
    have H := HA.out; clear HA
    simp only [laws_FnExactPathOf.j0] at H
    by_cases c30 : x38_11 = true
    ·subst c30
     have H1 : (some false) = some r := by rw [if_pos rfl] at H; exact H
     clear H; have H := H1; clear H1; obtain rfl := Option.some.inj H
     go_wp2
     go_ret
     exact ⟨by first | rfl | (simp [errW_none, errW_some] <;> rfl) | (simp [*, errW_none, errW_some] <;> rfl), Bq⟩
    ·replace c30 := Bool.eq_false_iff.mpr c30
     subst c30
     have H1 : ((laws_toTrie.f kj11 a0_0 l0_1 a0_2 l0_3 a0_4).bind fun bt939 => ((laws_eqTrie.f kj11 t927 t928 t931 t932 t935 bt939.1 bt939.2.1 bt939.2.2.1 bt939.2.2.2.1 bt939.2.2.2.2).bind fun t948 => (if t948 = true then (some true) else (some false)))) = some r := by rw [if_neg (show ¬ (false = true) by decide)] at H; exact H
     clear H; have H := H1; clear H1; replace H := Option.bind_eq_some_iff.mp H; obtain ⟨⟨t939, t940, t943, t944, t947⟩, A310, H⟩ := H; replace H : ((laws_eqTrie.f kj11 t927 t928 t931 t932 t935 t939 t940 t943 t944 t947).bind fun t948 => (if t948 = true then (some true) else (some false))) = some r := H; have A31 := Aside0.mk A310; clear A310; replace H := Option.bind_eq_some_iff.mp H; obtain ⟨t948, A320, H⟩ := H; replace H : (if t948 = true then (some true) else (some false)) = some r := H; have A32 := Aside0.mk A320; clear A320
     by_cases c33 : t948 = true
     ·subst c33
      have H1 : (some true) = some r := by rw [if_pos rfl] at H; exact H
      clear H; have H := H1; clear H1; obtain rfl := Option.some.inj H
      try go_wp2
      have n0_ := Aside0.mk (Kd.R_drew HO_937001.out); have n1_ := Aside0.mk (Kd.R_drew HO_937003.out); have n2_ := Aside0.mk (blk_drew BK914.out); have n3_ := Aside0.mk (blk_drew BK936.out); have n4_ := Aside0.mk (below_drew1 HB.out); clear HO_937001 HO_937003 BK914 BK936 HB; revert n0_ n1_ n2_ n3_ n4_; intro HO_937001 HO_937003 BK914 BK936 HB; refine start_ (n := 5) (S := fun w' => w'.cell? ⟨gb936, 0, none⟩ = some (.int .i64 t927) ∧ w'.cell? ⟨gb936, 1, none⟩ = some (.slice Ao26 t928.length co26) ∧ w'.cell? ⟨gb936, 2, none⟩ = some (.int .i64 t931) ∧ w'.cell? ⟨gb936, 3, none⟩ = some (.slice Ao27 t932.length co27) ∧ w'.cell? ⟨gb936, 4, none⟩ = some (.string t935) ∧ w'.cell? ⟨gb914, 0, none⟩ = some (.int .i64 a0_0) ∧ w'.cell? ⟨gb914, 1, none⟩ = some (.slice A0_1 l0_1.length c0_1) ∧ w'.cell? ⟨gb914, 2, none⟩ = some (.int .i64 a0_2) ∧ w'.cell? ⟨gb914, 3, none⟩ = some (.slice A0_3 l0_3.length c0_3) ∧ w'.cell? ⟨gb914, 4, none⟩ = some (.string a0_4)) (ds := []) (bA 5 0) (by kernel_rfl) rfl rfl ⟨cz BK936 0, cz BK936 1, cz BK936 2, cz BK936 3, cz BK936 4, cz BK914 0, cz BK914 1, cz BK914 2, cz BK914 3, cz BK914 4⟩ (fun hHeld => ?_); generalize wc.drew = w34 at HO_937001 HO_937003 BK914 BK936 HB hHeld ⊢; refine take_ (i := 0) (N := some 39) (v := ?_) (a' := ?_) (bA 5 1) rfl rfl (by kernel_rfl) (fun _ _ _ h => h) (Or.inl ⟨by rfl, ?_⟩) hHeld ?_ ?_
      rotate_left
      ·rintro w' ⟨s0, s1, s2, s3, s4, s5, s6, s7, s8, s9⟩
       go_simp
       with_reducible rfl
      rotate_left
      ·simp only [Act.put, List.setIfInBounds_toArray, List.set_cons_zero, List.set_cons_succ, i64_w, i32_w]
       rfl
      refine take_ (i := 1) (N := some 40) (v := ?_) (a' := ?_) (bA 5 3) rfl rfl (by kernel_rfl) (fun _ _ _ h => h) (Or.inl ⟨by rfl, ?_⟩) hHeld ?_ ?_
      rotate_left
      ·rintro w' ⟨s0, s1, s2, s3, s4, s5, s6, s7, s8, s9⟩
       go_simp
       with_reducible rfl
      rotate_left
      ·simp only [Act.put, List.setIfInBounds_toArray, List.set_cons_zero, List.set_cons_succ, i64_w, i32_w]
       rfl
      refine one_ (i := 2) (N := some 41) (bA 5 7) rfl rfl (by kernel_rfl) (by decide) (fun K hK => ?_); refine gZ Try.func14 #[.agg #[.int .i64 a0_0, .slice A0_1 l0_1.length c0_1, .int .i64 a0_2, .slice A0_3 l0_3.length c0_3, .string a0_4]] ?_
      with_reducible refine (laws_toTrie.calls kj11 a0_0 _ _ l0_1 a0_2 _ _ l0_3 a0_4 t939 t940 t943 t944 t947 _ ?side1 ?side2 ?side3 ?side4 A31.out).mono ?_
      (case side1 => exact Cz (Kd.C_below HR0_1.out HB.out))
      (case side2 => exact HC0_1.out)
      (case side3 => exact Cz (Kd.C_below HR0_3.out HB.out))
      (case side4 => exact HC0_3.out)
      rintro e w35 ⟨v941, v945, rfl, ho0, ho1, hb⟩; refine ⟨_, rfl, ?_⟩; have n0_ := Aside0.mk (Kd.R_mono (Kd.R_told (Kd.R_told (Kd.R_old (Rz HO_937001.out) hb) (Kd.R_base ho0)) (Kd.R_base ho1)) (fun _ h_ => h_.1)); have n1_ := Aside0.mk (Kd.R_mono (Kd.R_told (Kd.R_told (Kd.R_old (Rz HO_937003.out) hb) (Kd.R_base ho0)) (Kd.R_base ho1)) (fun _ h_ => h_.1)); have n2_ := Rm (Kd.R_new' (Kd.R_new' ho0 (Kd.R_lt (Rz HO_937001.out))) (Kd.R_lt (Rz HO_937003.out))) HB; have n3_ := Rm (Kd.R_new' (Kd.R_new' ho1 (Kd.R_lt (Rz HO_937001.out))) (Kd.R_lt (Rz HO_937003.out))) HB; have n4_ := Kb BK914 hb; have n5_ := Kb BK936 hb; have n6_ := Bc HB hb; clear HO_937001 HO_937003 BK914 BK936 HB; revert n0_ n1_ n2_ n3_ n4_ n5_ n6_; intro HO_937001 HO_937003 HO942 HO946 BK914 BK936 HB
      (try clear hb)
      (try clear hb2)
      (try clear hk)
      (try clear hi)
      (try clear ho0)
      (try clear ho1)
      obtain ⟨Ao36, co36, eo36⟩ := Kd.R_slice HO942.out
      (first | subst eo36 | (injection eo36 with f1_ f2_ f3_; have f4_ := f1_.symm; have f5_ := f3_.symm; clear f1_ f2_ f3_; subst f4_; subst f5_))
      obtain ⟨Ao37, co37, eo37⟩ := Kd.R_slice HO946.out
      (first | subst eo37 | (injection eo37 with f1_ f2_ f3_; have f4_ := f1_.symm; have f5_ := f3_.symm; clear f1_ f2_ f3_; subst f4_; subst f5_))
      refine hK.out _ _ ⟨cz BK936 0, cz BK936 1, cz BK936 2, cz BK936 3, cz BK936 4, cz BK914 0, cz BK914 1, cz BK914 2, cz BK914 3, cz BK914 4⟩ (fun hHeld => ?_); clear hK K; refine norm_ (a' := ?_) ?_ ?_
      rotate_left
      ·show Act.put _ (some 41) _ = _
       simp only [Act.put, List.setIfInBounds_toArray, List.set_cons_zero, List.set_cons_succ, i64_w, i32_w]
       rfl
      refine one_ (i := 3) (N := some 42) (bA 5 15) rfl rfl (by kernel_rfl) (by decide) (fun K hK => ?_); refine gZ Try.func16 #[.agg #[.int .i64 t927, .slice Ao26 t928.length co26, .int .i64 t931, .slice Ao27 t932.length co27, .string t935], .agg #[.int .i64 t939, .slice Ao36 t940.length co36, .int .i64 t943, .slice Ao37 t944.length co37, .string t947]] ?_
      with_reducible refine (laws_eqTrie.calls kj11 t927 _ _ t928 t931 _ _ t932 t935 t939 _ _ t940 t943 _ _ t944 t947 true _ ?side1 ?side2 ?side3 ?side4 ?side5 ?side6 ?side7 ?side8 A32.out).mono ?_
      (case side1 => exact Cz ((Kd.R_reads' HO_937001.out).2.2))
      (case side2 => exact (Kd.R_reads' HO_937001.out).2.1)
      (case side3 => exact Cz ((Kd.R_reads' HO_937003.out).2.2))
      (case side4 => exact (Kd.R_reads' HO_937003.out).2.1)
      (case side5 => exact Cz ((Kd.R_reads' HO942.out).2.2))
      (case side6 => exact (Kd.R_reads' HO942.out).2.1)
      (case side7 => exact Cz ((Kd.R_reads' HO946.out).2.2))
      (case side8 => exact (Kd.R_reads' HO946.out).2.1)
      rintro e w38 ⟨rfl, hb⟩; refine ⟨_, rfl, ?_⟩; have n0_ := Rb HO_937001 hb; have n1_ := Rb HO_937003 hb; have n2_ := Rb HO942 hb; have n3_ := Rb HO946 hb; have n4_ := Kb BK914 hb; have n5_ := Kb BK936 hb; have n6_ := Bc HB hb; clear HO_937001 HO_937003 HO942 HO946 BK914 BK936 HB; revert n0_ n1_ n2_ n3_ n4_ n5_ n6_; intro HO_937001 HO_937003 HO942 HO946 BK914 BK936 HB
      (try clear hb)
      (try clear hb2)
      (try clear hk)
      (try clear hi)
      refine hK.out _ _ ⟨cz BK936 0, cz BK936 1, cz BK936 2, cz BK936 3, cz BK936 4, cz BK914 0, cz BK914 1, cz BK914 2, cz BK914 3, cz BK914 4⟩ (fun hHeld => ?_); clear hK K; refine norm_ (a' := ?_) ?_ ?_
      rotate_left
      ·show Act.put _ (some 42) _ = _
       simp only [Act.put, List.setIfInBounds_toArray, List.set_cons_zero, List.set_cons_succ, i64_w, i32_w]
       rfl
      refine pure_ (i := 4) (N := some 43) (v := ?_) (a' := ?_) (bA 5 31) rfl rfl (by kernel_rfl) (fun _ _ _ h => h) (Or.inl ⟨by rfl, ?_⟩) ?_ ?_
      rotate_left
      ·intro w'
       go_simp
       with_reducible rfl
      rotate_left
      ·simp only [Act.put, List.setIfInBounds_toArray, List.set_cons_zero, List.set_cons_succ, i64_w, i32_w]
       rfl
      refine done_ (by kernel_rfl) ?_
      try go_wp2
      go_ret
      exact ⟨by first | rfl | (simp [errW_none, errW_some] <;> rfl) | (simp [*, errW_none, errW_some] <;> rfl), Bq⟩
     ·replace c33 := Bool.eq_false_iff.mpr c33
      subst c33
      have H1 : (some false) = some r := by rw [if_neg (show ¬ (false = true) by decide)] at H; exact H
      clear H; have H := H1; clear H1; obtain rfl := Option.some.inj H
      try go_wp2
      have n0_ := Aside0.mk (Kd.R_drew HO_937001.out); have n1_ := Aside0.mk (Kd.R_drew HO_937003.out); have n2_ := Aside0.mk (blk_drew BK914.out); have n3_ := Aside0.mk (blk_drew BK936.out); have n4_ := Aside0.mk (below_drew1 HB.out); clear HO_937001 HO_937003 BK914 BK936 HB; revert n0_ n1_ n2_ n3_ n4_; intro HO_937001 HO_937003 BK914 BK936 HB; refine start_ (n := 5) (S := fun w' => w'.cell? ⟨gb936, 0, none⟩ = some (.int .i64 t927) ∧ w'.cell? ⟨gb936, 1, none⟩ = some (.slice Ao26 t928.length co26) ∧ w'.cell? ⟨gb936, 2, none⟩ = some (.int .i64 t931) ∧ w'.cell? ⟨gb936, 3, none⟩ = some (.slice Ao27 t932.length co27) ∧ w'.cell? ⟨gb936, 4, none⟩ = some (.string t935) ∧ w'.cell? ⟨gb914, 0, none⟩ = some (.int .i64 a0_0) ∧ w'.cell? ⟨gb914, 1, none⟩ = some (.slice A0_1 l0_1.length c0_1) ∧ w'.cell? ⟨gb914, 2, none⟩ = some (.int .i64 a0_2) ∧ w'.cell? ⟨gb914, 3, none⟩ = some (.slice A0_3 l0_3.length c0_3) ∧ w'.cell? ⟨gb914, 4, none⟩ = some (.string a0_4)) (ds := []) (bA 5 0) (by kernel_rfl) rfl rfl ⟨cz BK936 0, cz BK936 1, cz BK936 2, cz BK936 3, cz BK936 4, cz BK914 0, cz BK914 1, cz BK914 2, cz BK914 3, cz BK914 4⟩ (fun hHeld => ?_); generalize wc.drew = w39 at HO_937001 HO_937003 BK914 BK936 HB hHeld ⊢; refine take_ (i := 0) (N := some 39) (v := ?_) (a' := ?_) (bA 5 1) rfl rfl (by kernel_rfl) (fun _ _ _ h => h) (Or.inl ⟨by rfl, ?_⟩) hHeld ?_ ?_
      rotate_left
      ·rintro w' ⟨s0, s1, s2, s3, s4, s5, s6, s7, s8, s9⟩
       go_simp
       with_reducible rfl
      rotate_left
      ·simp only [Act.put, List.setIfInBounds_toArray, List.set_cons_zero, List.set_cons_succ, i64_w, i32_w]
       rfl
      refine take_ (i := 1) (N := some 40) (v := ?_) (a' := ?_) (bA 5 3) rfl rfl (by kernel_rfl) (fun _ _ _ h => h) (Or.inl ⟨by rfl, ?_⟩) hHeld ?_ ?_
      rotate_left
      ·rintro w' ⟨s0, s1, s2, s3, s4, s5, s6, s7, s8, s9⟩
       go_simp
       with_reducible rfl
      rotate_left
      ·simp only [Act.put, List.setIfInBounds_toArray, List.set_cons_zero, List.set_cons_succ, i64_w, i32_w]
       rfl
      refine one_ (i := 2) (N := some 41) (bA 5 7) rfl rfl (by kernel_rfl) (by decide) (fun K hK => ?_); refine gZ Try.func14 #[.agg #[.int .i64 a0_0, .slice A0_1 l0_1.length c0_1, .int .i64 a0_2, .slice A0_3 l0_3.length c0_3, .string a0_4]] ?_
      with_reducible refine (laws_toTrie.calls kj11 a0_0 _ _ l0_1 a0_2 _ _ l0_3 a0_4 t939 t940 t943 t944 t947 _ ?side1 ?side2 ?side3 ?side4 A31.out).mono ?_
      (case side1 => exact Cz (Kd.C_below HR0_1.out HB.out))
      (case side2 => exact HC0_1.out)
      (case side3 => exact Cz (Kd.C_below HR0_3.out HB.out))
      (case side4 => exact HC0_3.out)
      rintro e w40 ⟨v941, v945, rfl, ho0, ho1, hb⟩; refine ⟨_, rfl, ?_⟩; have n0_ := Aside0.mk (Kd.R_mono (Kd.R_told (Kd.R_told (Kd.R_old (Rz HO_937001.out) hb) (Kd.R_base ho0)) (Kd.R_base ho1)) (fun _ h_ => h_.1)); have n1_ := Aside0.mk (Kd.R_mono (Kd.R_told (Kd.R_told (Kd.R_old (Rz HO_937003.out) hb) (Kd.R_base ho0)) (Kd.R_base ho1)) (fun _ h_ => h_.1)); have n2_ := Rm (Kd.R_new' (Kd.R_new' ho0 (Kd.R_lt (Rz HO_937001.out))) (Kd.R_lt (Rz HO_937003.out))) HB; have n3_ := Rm (Kd.R_new' (Kd.R_new' ho1 (Kd.R_lt (Rz HO_937001.out))) (Kd.R_lt (Rz HO_937003.out))) HB; have n4_ := Kb BK914 hb; have n5_ := Kb BK936 hb; have n6_ := Bc HB hb; clear HO_937001 HO_937003 BK914 BK936 HB; revert n0_ n1_ n2_ n3_ n4_ n5_ n6_; intro HO_937001 HO_937003 HO942 HO946 BK914 BK936 HB
      (try clear hb)
      (try clear hb2)
      (try clear hk)
      (try clear hi)
      (try clear ho0)
      (try clear ho1)
      obtain ⟨Ao41, co41, eo41⟩ := Kd.R_slice HO942.out
      (first | subst eo41 | (injection eo41 with f1_ f2_ f3_; have f4_ := f1_.symm; have f5_ := f3_.symm; clear f1_ f2_ f3_; subst f4_; subst f5_))
      obtain ⟨Ao42, co42, eo42⟩ := Kd.R_slice HO946.out
      (first | subst eo42 | (injection eo42 with f1_ f2_ f3_; have f4_ := f1_.symm; have f5_ := f3_.symm; clear f1_ f2_ f3_; subst f4_; subst f5_))
      refine hK.out _ _ ⟨cz BK936 0, cz BK936 1, cz BK936 2, cz BK936 3, cz BK936 4, cz BK914 0, cz BK914 1, cz BK914 2, cz BK914 3, cz BK914 4⟩ (fun hHeld => ?_); clear hK K; refine norm_ (a' := ?_) ?_ ?_
      rotate_left
      ·show Act.put _ (some 41) _ = _
       simp only [Act.put, List.setIfInBounds_toArray, List.set_cons_zero, List.set_cons_succ, i64_w, i32_w]
       rfl
      refine one_ (i := 3) (N := some 42) (bA 5 15) rfl rfl (by kernel_rfl) (by decide) (fun K hK => ?_); refine gZ Try.func16 #[.agg #[.int .i64 t927, .slice Ao26 t928.length co26, .int .i64 t931, .slice Ao27 t932.length co27, .string t935], .agg #[.int .i64 t939, .slice Ao41 t940.length co41, .int .i64 t943, .slice Ao42 t944.length co42, .string t947]] ?_
      with_reducible refine (laws_eqTrie.calls kj11 t927 _ _ t928 t931 _ _ t932 t935 t939 _ _ t940 t943 _ _ t944 t947 false _ ?side1 ?side2 ?side3 ?side4 ?side5 ?side6 ?side7 ?side8 A32.out).mono ?_
      (case side1 => exact Cz ((Kd.R_reads' HO_937001.out).2.2))
      (case side2 => exact (Kd.R_reads' HO_937001.out).2.1)
      (case side3 => exact Cz ((Kd.R_reads' HO_937003.out).2.2))
      (case side4 => exact (Kd.R_reads' HO_937003.out).2.1)
      (case side5 => exact Cz ((Kd.R_reads' HO942.out).2.2))
      (case side6 => exact (Kd.R_reads' HO942.out).2.1)
      (case side7 => exact Cz ((Kd.R_reads' HO946.out).2.2))
      (case side8 => exact (Kd.R_reads' HO946.out).2.1)
      rintro e w43 ⟨rfl, hb⟩; refine ⟨_, rfl, ?_⟩; have n0_ := Rb HO_937001 hb; have n1_ := Rb HO_937003 hb; have n2_ := Rb HO942 hb; have n3_ := Rb HO946 hb; have n4_ := Kb BK914 hb; have n5_ := Kb BK936 hb; have n6_ := Bc HB hb; clear HO_937001 HO_937003 HO942 HO946 BK914 BK936 HB; revert n0_ n1_ n2_ n3_ n4_ n5_ n6_; intro HO_937001 HO_937003 HO942 HO946 BK914 BK936 HB
      (try clear hb)
      (try clear hb2)
      (try clear hk)
      (try clear hi)
      refine hK.out _ _ ⟨cz BK936 0, cz BK936 1, cz BK936 2, cz BK936 3, cz BK936 4, cz BK914 0, cz BK914 1, cz BK914 2, cz BK914 3, cz BK914 4⟩ (fun hHeld => ?_); clear hK K; refine norm_ (a' := ?_) ?_ ?_
      rotate_left
      ·show Act.put _ (some 42) _ = _
       simp only [Act.put, List.setIfInBounds_toArray, List.set_cons_zero, List.set_cons_succ, i64_w, i32_w]
       rfl
      refine pure_ (i := 4) (N := some 43) (v := ?_) (a' := ?_) (bA 5 31) rfl rfl (by kernel_rfl) (fun _ _ _ h => h) (Or.inl ⟨by rfl, ?_⟩) ?_ ?_
      rotate_left
      ·intro w'
       go_simp
       with_reducible rfl
      rotate_left
      ·simp only [Act.put, List.setIfInBounds_toArray, List.set_cons_zero, List.set_cons_succ, i64_w, i32_w]
       rfl
      refine done_ (by kernel_rfl) ?_
      try go_wp2
      go_ret
      exact ⟨by first | rfl | (simp [errW_none, errW_some] <;> rfl) | (simp [*, errW_none, errW_some] <;> rfl), Bq⟩

def laws_FnExactPathOf.Pure : Prop := ∀ (a0_0 : Int) (l0_1 : List Int) (a0_2 : Int) (l0_3 : List Int) (a0_4 : ByteArray) (a1 : Int), (Lit.int .i64 a0_0).wf = true → l0_1.length ≤ maxLen → (∀ x ∈ l0_1, (Lit.int .i64 x).wf = true) → (Lit.int .i64 a0_2).wf = true → l0_3.length ≤ maxLen → (∀ x ∈ l0_3, (Lit.int .i64 x).wf = true) → a0_4.size ≤ maxLen → (Lit.int .i64 a1).wf = true → ∃ k, laws_FnExactPathOf.f k a0_0 l0_1 a0_2 l0_3 a0_4 a1 = some true
theorem laws_FnExactPathOf.walk (P : laws_FnExactPathOf.Pure) (a0_0 : Int) (A0_1 : Option Addr) (c0_1 : Nat) (l0_1 : List Int) (a0_2 : Int) (A0_3 : Option Addr) (c0_3 : Nat) (l0_3 : List Int) (a0_4 : ByteArray) (a1 : Int) (w : World) (hw0_0 : (Lit.int .i64 a0_0).wf = true) (hr0_1 : Kd.C (Kd.int .i64) w A0_1 l0_1.length l0_1) (hc0_1 : l0_1.length ≤ c0_1) (hm0_1 : l0_1.length ≤ maxLen) (hw0_1 : ∀ x ∈ l0_1, (Lit.int .i64 x).wf = true) (hw0_2 : (Lit.int .i64 a0_2).wf = true) (hr0_3 : Kd.C (Kd.int .i64) w A0_3 l0_3.length l0_3) (hc0_3 : l0_3.length ≤ c0_3) (hm0_3 : l0_3.length ≤ maxLen) (hw0_3 : ∀ x ∈ l0_3, (Lit.int .i64 x).wf = true) (hw0_4 : a0_4.size ≤ maxLen) (hw1 : (Lit.int .i64 a1).wf = true) :
  Calls Try.prog 11 #[.agg #[.int .i64 a0_0, .slice A0_1 l0_1.length c0_1, .int .i64 a0_2, .slice A0_3 l0_3.length c0_3, .string a0_4], .int .i64 a1] w fun e w' => e = .returned (.bool true) ∧ Below w.heap.size w w' := by
 obtain ⟨k, h⟩ := P a0_0 l0_1 a0_2 l0_3 a0_4 a1 hw0_0 hm0_1 hw0_1 hw0_2 hm0_3 hw0_3 hw0_4 hw1; refine (laws_FnExactPathOf.calls k a0_0 A0_1 c0_1 l0_1 a0_2 A0_3 c0_3 l0_3 a0_4 a1 true w hr0_1 hc0_1 hr0_3 hc0_3 h).mono ?_; rintro e w' ⟨rfl, hd⟩; exact ⟨rfl, hd⟩

end Go.Proofs.Ytalfkfddpamnjaa.PA
namespace Go.Proofs.YtalfkfddpamnjaaQ
open Go Go.RowKit Go.Proofs.YtalfkfddpamnjaaW.PrintWords Go.Proofs.YtalfkfddpamnjaaW.PrintMore Go.Proofs.YtalfkfddpamnjaaGp Go.Proofs.Ytalfkfddpamnjaa.PA

theorem nodeAt_yes {K : List ByteArray} {nB : Int} {lB : List Int} {nE : Int} {lE : List Int} {lab : ByteArray} (Y : Yes K nB lB nE lE lab) (a1 : Int) :
    (∃ i : Nat, a1 = (i : Int) ∧ i < ((nodesL (bytesL K)).map mkS).length ∧ spec_l1In.f a1 0 (wrap64 ((((nodesL (bytesL K)).map mkS).length : Int) - 1)) = some true ∧ Ev (fun k => impl_Trie_nodeAt.f k nB lB nE lE lab a1) (rdOf ByteArray.empty ((nodesL (bytesL K)).map mkS) a1, (nodesL (bytesL K)).map mkS, true)) ∨
    (spec_l1In.f a1 0 (wrap64 ((((nodesL (bytesL K)).map mkS).length : Int) - 1)) = some false ∧ Ev (fun k => impl_Trie_nodeAt.f k nB lB nE lE lab a1) ((⟨#[]⟩ : ByteArray), ([] : List ByteArray), false)) := by
  obtain ⟨h1, h2⟩ := nodes_len Y.keys
  have w : wrap64 ((((nodesL (bytesL K)).map mkS).length : Int) - 1) = (((nodesL (bytesL K)).map mkS).length : Int) - 1 := w64 (by omega) (by omega)
  rw [spec_in, w]
  have hI := Y.iN
  by_cases c : 0 ≤ a1 ∧ a1 ≤ (((nodesL (bytesL K)).map mkS).length : Int) - 1
  · refine .inl ⟨a1.toNat, by omega, by omega, by rw [decide_eq_true c], ?_⟩
    unfold impl_Trie_nodeAt.f
    refine ev_bind _ hI ?_
    rw [impl_in, w, decide_eq_true c]
    exact ev_bind _ (Ev.now _) (ev_pos rfl (ev_pos (by omega) (ev_pos (by omega) (Ev.now _))))
  · refine .inr ⟨by rw [decide_eq_false c], ?_⟩
    unfold impl_Trie_nodeAt.f
    refine ev_bind _ hI ?_
    rw [impl_in, w, decide_eq_false c]
    exact ev_bind _ (Ev.now _) (ev_neg (by simp) (Ev.now _))
theorem nodeAt_no {KS : List ByteArray} {nB : Int} {lB : List Int} {nE : Int} {lE : List Int} {lab : ByteArray} (Y : No KS nB lB nE lE lab) (a1 : Int) : Ev (fun k => impl_Trie_nodeAt.f k nB lB nE lE lab a1) ((⟨#[]⟩ : ByteArray), ([] : List ByteArray), false) := by
  unfold impl_Trie_nodeAt.f
  refine ev_bind _ Y.iN ?_
  have w : wrap64 ((([] : List ByteArray).length : Int) - 1) = -1 := w64 (by simp) (by simp)
  rw [impl_in, w, decide_eq_false (by omega)]
  exact ev_bind _ (Ev.now _) (ev_neg (by simp) (Ev.now _))
end Go.Proofs.YtalfkfddpamnjaaQ
namespace Go.Proofs.Ytalfkfddpamnjaa.Pure
open Go Go.RowKit Go.Proofs.YtalfkfddpamnjaaW.PrintWords Go.Proofs.YtalfkfddpamnjaaW.PrintMore Go.Proofs.YtalfkfddpamnjaaGp Go.Proofs.Ytalfkfddpamnjaa.PA Go.Proofs.YtalfkfddpamnjaaQ

theorem FnExactPathOf : laws_FnExactPathOf.Pure := by
  intro nB lB nE lE lab a1 hnB hlB hwB hnE hlE hwE hlab ha1
  refine Ev.rounds (r := true) ?_
  unfold laws_FnExactPathOf.f
  obtain ⟨v, ev, hv⟩ := szTrie_f nB lB nE lE lab hlB hlE hlab
  rw [ev]
  refine ev_bind _ (Ev.now _) ?_
  by_cases c : v < 0
  · exact ev_pos c (Ev.now _)
  obtain ⟨hB, hE, hL⟩ := hv c
  have hT := toTrie_f nB lB nE lE lab hB hE
  have hK := kept_f nB lB nE lE lab hB hE
  refine ev_neg c (ev_bind _ hT ?_)
  have both : ∃ r, Ev (fun k => spec_PathOf.f k nB lB nE lE lab a1) r ∧ Ev (fun k => impl_PathOf.f k nB lB nE lE lab a1) r := by
    rcases trie_both nB lB nE lE lab hB hE with ⟨K, Y⟩ | ⟨KS, Y⟩
    · rcases nodeAt_yes Y a1 with ⟨i, hi, hl, e, hN⟩ | ⟨e, hN⟩
      · refine ⟨(rdOf ByteArray.empty ((nodesL (bytesL K)).map mkS) a1, true), ?_, ?_⟩
        · unfold spec_PathOf.f
          refine ev_bind _ Y.sO (ev_pos rfl ?_)
          rw [e]
          exact ev_bind _ (Ev.now _) (ev_pos rfl (ev_pos (by omega) (ev_pos (by simp only []; omega) (Ev.now _))))
        · unfold impl_PathOf.f
          exact ev_bind _ hN (Ev.now _)
      · refine ⟨((⟨#[]⟩ : ByteArray), false), ?_, ?_⟩
        · unfold spec_PathOf.f
          refine ev_bind _ Y.sO (ev_pos rfl ?_)
          rw [e]
          exact ev_bind _ (Ev.now _) (ev_neg (by simp) (Ev.now _))
        · unfold impl_PathOf.f
          exact ev_bind _ hN (Ev.now _)
    · refine ⟨((⟨#[]⟩ : ByteArray), false), ?_, ?_⟩
      · unfold spec_PathOf.f
        exact ev_bind _ Y.sO (ev_neg (by simp) (Ev.now _))
      · unfold impl_PathOf.f
        exact ev_bind _ (nodeAt_no Y a1) (Ev.now _)
  obtain ⟨r, hS, hI⟩ := both
  refine ev_bind _ hS (ev_bind _ hT (ev_bind _ hI (ev_pos rfl (ev_succ ?_))))
  simp only [laws_FnExactPathOf.j0]
  exact ev_neg (by simp) hK
end Go.Proofs.Ytalfkfddpamnjaa.Pure
