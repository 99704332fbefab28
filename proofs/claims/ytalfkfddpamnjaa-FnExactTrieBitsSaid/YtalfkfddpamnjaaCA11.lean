import Derived.Test.YtalfkfddpamnjaaCA2
import Derived.Test.YtalfkfddpamnjaaCA6
import Derived.Test.YtalfkfddpamnjaaCA8
import Derived.Test.YtalfkfddpamnjaaCA4
import Derived.Test.YtalfkfddpamnjaaCA9
import Derived.Test.YtalfkfddpamnjaaCA10
-- printed by a program of this session (wip/gp) out of the translation; Lean checks it
namespace Go.Proofs.Ytalfkfddpamnjaa.PA
open Go.RowKit Go.Proofs.YtalfkfddpamnjaaW.PrintWords Go.Proofs.YtalfkfddpamnjaaW.PrintLast Go.Proofs.YtalfkfddpamnjaaW.PrintMore Go.Proofs.YtalfkfddpamnjaaSq
attribute [local go_sem] max2_int min2_int max_two min_two max_three min_three max_four min_four   -- for this text's walks alone
attribute [local go_sem] Go.Proofs.YtalfkfddpamnjaaGp.str_geq Go.Proofs.YtalfkfddpamnjaaGp.str_gtr Go.Proofs.YtalfkfddpamnjaaGp.str_leq
set_option linter.unusedVariables false
set_option linter.unusedSimpArgs false

def spec_IsTrie.f (k : Nat) (a0_0 : Int) (l0_1 : List Int) (a0_2 : Int) (l0_3 : List Int) (a0_4 : ByteArray) : Option (Bool) := (spec_trKeys.f k a0_0 l0_1 a0_2 l0_3 a0_4).bind fun bt730 => (some bt730.2)
theorem spec_IsTrie.mono : ∀ a0 a1 a2 a3 a4 k, LeO (spec_IsTrie.f k a0 a1 a2 a3 a4) (spec_IsTrie.f (k + 1) a0 a1 a2 a3 a4) := by
 intro a0 a1 a2 a3 a4 k
 unfold spec_IsTrie.f
 repeat' first | (with_reducible first | exact spec_trKeys.mono _ _ _ _ _ _ | exact LeO.refl _ | exact LeO.none _ | refine LeO.ite ?_ ?_ | refine LeO.bind ?_ (fun _ => ?_)) | exact LeO.none _ | refine LeO.ite ?_ ?_ | refine LeO.bind ?_ (fun _ => ?_)
set_option maxHeartbeats 8000000 in
set_option maxRecDepth 100000 in
theorem spec_IsTrie.calls (k : Nat) (a0_0 : Int) (A0_1 : Option Addr) (c0_1 : Nat) (l0_1 : List Int) (a0_2 : Int) (A0_3 : Option Addr) (c0_3 : Nat) (l0_3 : List Int) (a0_4 : ByteArray) (r : Bool) (w : World) (hr0_1 : Kd.C (Kd.int .i64) w A0_1 l0_1.length l0_1) (hc0_1 : l0_1.length ≤ c0_1) (hr0_3 : Kd.C (Kd.int .i64) w A0_3 l0_3.length l0_3) (hc0_3 : l0_3.length ≤ c0_3) (h : spec_IsTrie.f k a0_0 l0_1 a0_2 l0_3 a0_4 = some r) :
  Calls Try.prog 29 #[.agg #[.int .i64 a0_0, .slice A0_1 l0_1.length c0_1, .int .i64 a0_2, .slice A0_3 l0_3.length c0_3, .string a0_4]] w fun e w' => e = .returned (.bool r) ∧ Below w.heap.size w w' := by
 have hu32 := Try.underlying32; have HR0_1 := Aside0.mk hr0_1; have HC0_1 := Aside0.mk hc0_1; clear hr0_1 hc0_1; have HR0_3 := Aside0.mk hr0_3; have HC0_3 := Aside0.mk hc0_3; clear hr0_3 hc0_3; have HB := Aside0.mk (Below.refl w.heap.size w); have H : ((spec_trKeys.f k a0_0 l0_1 a0_2 l0_3 a0_4).bind fun bt730 => (some bt730.2)) = some r := h; clear h; replace H := Option.bind_eq_some_iff.mp H; obtain ⟨⟨t730, t733⟩, A20, H⟩ := H; replace H : (some t733) = some r := H; have A2 := Aside0.mk A20; clear A20; obtain rfl := Option.some.inj H
 go_enter Try.func29, Try.ntmps29
 go_wp2_with (first | ((with_reducible refine gate_dst (N := 1) rfl ?_); refine bE 1 #[.int .i64 a0_0, .slice A0_1 l0_1.length c0_1, .int .i64 a0_2, .slice A0_3 l0_3.length c0_3, .string a0_4] 32 ?_; intro gb729 hg w3 hbox hb; have n0_ := Bb HB hb; have n1_ := Aside0.mk (hbox); have n2_ := Gl HB hg; have n3_ := Gl HB hg; clear HB; revert n0_ n1_ n2_ n3_; intro HB BK729 GW729 GE729; clear hb hbox hg; obtain ⟨hcz4_0, hcz4_1, hcz4_2, hcz4_3, hcz4_4, hfz4_0, hfz4_1, hfz4_2, hfz4_3, hfz4_4⟩ := cf5 (w := w3) BK729) | ((with_reducible refine gate_callee (f := 40) rfl ?_); refine gL (some 7) Try.func40 #[.agg #[.int .i64 a0_0, .slice A0_1 l0_1.length c0_1, .int .i64 a0_2, .slice A0_3 l0_3.length c0_3, .string a0_4]] ?_; (with_reducible refine (spec_trKeys.calls k a0_0 _ _ l0_1 a0_2 _ _ l0_3 a0_4 t730 t733 _ ?side1 ?side2 ?side3 ?side4 A2.out).mono ?_); (case side1 => exact Cz (Kd.C_below HR0_1.out HB.out)); (case side2 => exact HC0_1.out); (case side3 => exact Cz (Kd.C_below HR0_3.out HB.out)); (case side4 => exact HC0_3.out); rintro e w5 ⟨v731, rfl, ho0, hb⟩; refine ⟨_, rfl, ?_⟩; have n0_ := Rm ho0 HB; have n1_ := Kb BK729 hb; have n2_ := Bc HB hb; clear BK729 HB; revert n0_ n1_ n2_; intro HO732 BK729 HB; (try clear hb); (try clear hb2); (try clear hk); (try clear hi); (try clear ho0)))
 go_ret
 exact ⟨by first | rfl | (simp [errW_none, errW_some] <;> rfl) | (simp [*, errW_none, errW_some] <;> rfl), Bq⟩

def impl_IsTrie.f (k : Nat) (a0_0 : Int) (l0_1 : List Int) (a0_2 : Int) (l0_3 : List Int) (a0_4 : ByteArray) : Option (Bool) := (impl_Trie_nodes.f k a0_0 l0_1 a0_2 l0_3 a0_4).bind fun t735 => (if (t735.length : Int) = 0 then (some false) else (some true))
theorem impl_IsTrie.mono : ∀ a0 a1 a2 a3 a4 k, LeO (impl_IsTrie.f k a0 a1 a2 a3 a4) (impl_IsTrie.f (k + 1) a0 a1 a2 a3 a4) := by
 intro a0 a1 a2 a3 a4 k
 unfold impl_IsTrie.f
 repeat' first | (with_reducible first | exact impl_Trie_nodes.mono _ _ _ _ _ _ | exact LeO.refl _ | exact LeO.none _ | refine LeO.ite ?_ ?_ | refine LeO.bind ?_ (fun _ => ?_)) | exact LeO.none _ | refine LeO.ite ?_ ?_ | refine LeO.bind ?_ (fun _ => ?_)
set_option maxHeartbeats 8000000 in
set_option maxRecDepth 100000 in
theorem impl_IsTrie.calls (k : Nat) (a0_0 : Int) (A0_1 : Option Addr) (c0_1 : Nat) (l0_1 : List Int) (a0_2 : Int) (A0_3 : Option Addr) (c0_3 : Nat) (l0_3 : List Int) (a0_4 : ByteArray) (r : Bool) (w : World) (hr0_1 : Kd.C (Kd.int .i64) w A0_1 l0_1.length l0_1) (hc0_1 : l0_1.length ≤ c0_1) (hr0_3 : Kd.C (Kd.int .i64) w A0_3 l0_3.length l0_3) (hc0_3 : l0_3.length ≤ c0_3) (h : impl_IsTrie.f k a0_0 l0_1 a0_2 l0_3 a0_4 = some r) :
  Calls Try.prog 30 #[.agg #[.int .i64 a0_0, .slice A0_1 l0_1.length c0_1, .int .i64 a0_2, .slice A0_3 l0_3.length c0_3, .string a0_4]] w fun e w' => e = .returned (.bool r) ∧ Below w.heap.size w w' := by
 have hu32 := Try.underlying32; have HR0_1 := Aside0.mk hr0_1; have HC0_1 := Aside0.mk hc0_1; clear hr0_1 hc0_1; have HR0_3 := Aside0.mk hr0_3; have HC0_3 := Aside0.mk hc0_3; clear hr0_3 hc0_3; have HB := Aside0.mk (Below.refl w.heap.size w); have H : ((impl_Trie_nodes.f k a0_0 l0_1 a0_2 l0_3 a0_4).bind fun t735 => (if (t735.length : Int) = 0 then (some false) else (some true))) = some r := h; clear h; replace H := Option.bind_eq_some_iff.mp H; obtain ⟨t735, A20, H⟩ := H; replace H : (if (t735.length : Int) = 0 then (some false) else (some true)) = some r := H; have A2 := Aside0.mk A20; clear A20
 by_cases c3 : (t735.length : Int) = 0
 ·rw [if_pos c3] at H
  have c3b0 : ((t735.length : Int) == 0) = true := beq_iff_eq.mpr c3; have c3b1 : ((t735.length : Int) != 0) = false := bne_eq_false_iff_eq.mpr c3; clear c3; obtain rfl := Option.some.inj H
  go_enter Try.func30, Try.ntmps30
  go_wp2_with (first | ((with_reducible refine gate_dst (N := 1) rfl ?_); refine bE 1 #[.int .i64 a0_0, .slice A0_1 l0_1.length c0_1, .int .i64 a0_2, .slice A0_3 l0_3.length c0_3, .string a0_4] 32 ?_; intro gb734 hg w4 hbox hb; have n0_ := Bb HB hb; have n1_ := Aside0.mk (hbox); have n2_ := Gl HB hg; have n3_ := Gl HB hg; clear HB; revert n0_ n1_ n2_ n3_; intro HB BK734 GW734 GE734; clear hb hbox hg) | ((with_reducible refine gate_callee (f := 48) rfl ?_); refine gL (some 3) Try.func48 #[.pointer (some ⟨gb734, 0, none⟩)] ?_; (with_reducible refine (impl_Trie_nodes.calls k gb734 a0_0 A0_1 c0_1 l0_1 a0_2 A0_3 c0_3 l0_3 a0_4 t735 _ ?side1 ?side2 ?side3 ?side4 ?side5 A2.out).mono ?_); (case side1 => (with_reducible repeat (first | refine blk_drewN ?_ _ | refine blk_drew ?_ | refine blk_alloc ?_ _)); exact BK734.out); (case side2 => exact Cz (Kd.C_below HR0_1.out HB.out)); (case side3 => exact HC0_1.out); (case side4 => exact Cz (Kd.C_below HR0_3.out HB.out)); (case side5 => exact HC0_3.out); rintro e w5 ⟨⟨v736, rfl, ho0, hb⟩, hnil_v736⟩; refine ⟨_, rfl, ?_⟩; have n0_ := Rm ho0 HB; have n1_ := Kb BK734 hb; have n2_ := Bc HB hb; clear BK734 HB; revert n0_ n1_ n2_; intro HO737 BK734 HB; (try clear hb); (try clear hb2); (try clear hk); (try clear hi); (try clear ho0); have eno6 : (v736 : Value) = .slice none 0 0 := Ending.returned.inj (hnil_v736 (List.length_eq_zero_iff.1 (by have h_ : ((t735.length : Int) : Int) = 0 := eq_of_beq (by first | (with_reducible assumption) | assumption); omega))); subst eno6; have qo6 : ∀ (w_ : World) (n_ c_ : Nat), (binOp .neq 38 (.slice none n_ c_) (.slice none 0 0)).run Try.prog w_ = .ok (.bool false) w_ := fun w_ _ _ => (Go.Proofs.YtalfkfddpamnjaaGp.run_neq_nil_ w_ 38 _ _ _ _ Try.underlying38).trans rfl))
  go_ret
  exact ⟨by first | rfl | (simp [errW_none, errW_some] <;> rfl) | (simp [*, errW_none, errW_some] <;> rfl), Bq⟩
 ·rw [if_neg c3] at H
  have c3b0 : ((t735.length : Int) == 0) = false := beq_eq_false_iff_ne.mpr c3; have c3b1 : ((t735.length : Int) != 0) = true := bne_iff_ne.mpr c3
  have c3b2 : ¬ (t735 = []) := fun h_ => c3 (by rw [h_]; rfl)
  obtain rfl := Option.some.inj H
  go_enter Try.func30, Try.ntmps30
  go_wp2_with (first | ((with_reducible refine gate_dst (N := 1) rfl ?_); refine bE 1 #[.int .i64 a0_0, .slice A0_1 l0_1.length c0_1, .int .i64 a0_2, .slice A0_3 l0_3.length c0_3, .string a0_4] 32 ?_; intro gb734 hg w7 hbox hb; have n0_ := Bb HB hb; have n1_ := Aside0.mk (hbox); have n2_ := Gl HB hg; have n3_ := Gl HB hg; clear HB; revert n0_ n1_ n2_ n3_; intro HB BK734 GW734 GE734; clear hb hbox hg) | ((with_reducible refine gate_callee (f := 48) rfl ?_); refine gL (some 3) Try.func48 #[.pointer (some ⟨gb734, 0, none⟩)] ?_; (with_reducible refine (impl_Trie_nodes.calls k gb734 a0_0 A0_1 c0_1 l0_1 a0_2 A0_3 c0_3 l0_3 a0_4 t735 _ ?side1 ?side2 ?side3 ?side4 ?side5 A2.out).mono ?_); (case side1 => (with_reducible repeat (first | refine blk_drewN ?_ _ | refine blk_drew ?_ | refine blk_alloc ?_ _)); exact BK734.out); (case side2 => exact Cz (Kd.C_below HR0_1.out HB.out)); (case side3 => exact HC0_1.out); (case side4 => exact Cz (Kd.C_below HR0_3.out HB.out)); (case side5 => exact HC0_3.out); rintro e w8 ⟨⟨v736, rfl, ho0, hb⟩, hnil_v736⟩; refine ⟨_, rfl, ?_⟩; have n0_ := Rm ho0 HB; have n1_ := Kb BK734 hb; have n2_ := Bc HB hb; clear BK734 HB; revert n0_ n1_ n2_; intro HO737 BK734 HB; (try clear hb); (try clear hb2); (try clear hk); (try clear hi); (try clear ho0); obtain ⟨goo9, coo9, eoo9, gbo9, glo9, clo9, HGo9⟩ := Kd.R_form HO737.out (by omega); (first | cases eoo9 | (injection eoo9 with ea_ en_ ec_; (first | subst ea_ | (injection ea_ with ea_; subst ea_)); subst ec_; clear en_)); have GBo9 := Aside0.mk gbo9; have GGo9 := Aside0.mk HGo9; clear gbo9 glo9 HGo9; have qo9 : ∀ (w_ : World) (n_ c_ : Nat), (binOp .neq 38 (.slice (some ⟨goo9, 0, none⟩) n_ c_) (.slice none 0 0)).run Try.prog w_ = .ok (.bool true) w_ := fun w_ _ _ => (Go.Proofs.YtalfkfddpamnjaaGp.run_neq_nil_ w_ 38 _ _ _ _ Try.underlying38).trans rfl))
  go_ret
  exact ⟨by first | rfl | (simp [errW_none, errW_some] <;> rfl) | (simp [*, errW_none, errW_some] <;> rfl), Bq⟩

end Go.Proofs.Ytalfkfddpamnjaa.PA
-- printed by a program of this session (wip/gp) out of the translation; Lean checks it
namespace Go.Proofs.Ytalfkfddpamnjaa.PA
open Go.RowKit Go.Proofs.YtalfkfddpamnjaaW.PrintWords Go.Proofs.YtalfkfddpamnjaaW.PrintLast Go.Proofs.YtalfkfddpamnjaaW.PrintMore Go.Proofs.YtalfkfddpamnjaaSq
attribute [local go_sem] max2_int min2_int max_two min_two max_three min_three max_four min_four   -- for this text's walks alone
attribute [local go_sem] Go.Proofs.YtalfkfddpamnjaaGp.str_geq Go.Proofs.YtalfkfddpamnjaaGp.str_gtr Go.Proofs.YtalfkfddpamnjaaGp.str_leq
set_option linter.unusedVariables false
set_option linter.unusedSimpArgs false

def spec_TrieBits.f (k : Nat) (a0_0 : Int) (l0_1 : List Int) (a0_2 : Int) (l0_3 : List Int) (a0_4 : ByteArray) : Option (Int × Bool) := (spec_IsTrie.f k a0_0 l0_1 a0_2 l0_3 a0_4).bind fun t816 => (if t816 = true then (some (wrap64 ((wrap64 (a0_0 + a0_2)) + (wrap64 (7 * (a0_4.size : Int)))), true)) else (some (0, false)))
theorem spec_TrieBits.mono : ∀ a0 a1 a2 a3 a4 k, LeO (spec_TrieBits.f k a0 a1 a2 a3 a4) (spec_TrieBits.f (k + 1) a0 a1 a2 a3 a4) := by
 intro a0 a1 a2 a3 a4 k
 unfold spec_TrieBits.f
 repeat' first | (with_reducible first | exact spec_IsTrie.mono _ _ _ _ _ _ | exact LeO.refl _ | exact LeO.none _ | refine LeO.ite ?_ ?_ | refine LeO.bind ?_ (fun _ => ?_)) | exact LeO.none _ | refine LeO.ite ?_ ?_ | refine LeO.bind ?_ (fun _ => ?_)
set_option maxHeartbeats 8000000 in
set_option maxRecDepth 100000 in
theorem spec_TrieBits.calls (k : Nat) (a0_0 : Int) (A0_1 : Option Addr) (c0_1 : Nat) (l0_1 : List Int) (a0_2 : Int) (A0_3 : Option Addr) (c0_3 : Nat) (l0_3 : List Int) (a0_4 : ByteArray) (r1 : Int) (r2 : Bool) (w : World) (hr0_1 : Kd.C (Kd.int .i64) w A0_1 l0_1.length l0_1) (hc0_1 : l0_1.length ≤ c0_1) (hr0_3 : Kd.C (Kd.int .i64) w A0_3 l0_3.length l0_3) (hc0_3 : l0_3.length ≤ c0_3) (h : spec_TrieBits.f k a0_0 l0_1 a0_2 l0_3 a0_4 = some (r1, r2)) :
  Calls Try.prog 33 #[.agg #[.int .i64 a0_0, .slice A0_1 l0_1.length c0_1, .int .i64 a0_2, .slice A0_3 l0_3.length c0_3, .string a0_4]] w fun e w' => e = .returned (.tuple #[.int .i64 r1, .bool r2]) ∧ Below w.heap.size w w' := by
 have hu32 := Try.underlying32; have HR0_1 := Aside0.mk hr0_1; have HC0_1 := Aside0.mk hc0_1; clear hr0_1 hc0_1; have HR0_3 := Aside0.mk hr0_3; have HC0_3 := Aside0.mk hc0_3; clear hr0_3 hc0_3; have HB := Aside0.mk (Below.refl w.heap.size w); have H : ((spec_IsTrie.f k a0_0 l0_1 a0_2 l0_3 a0_4).bind fun t816 => (if t816 = true then (some (wrap64 ((wrap64 (a0_0 + a0_2)) + (wrap64 (7 * (a0_4.size : Int)))), true)) else (some (0, false)))) = some (r1, r2) := h; clear h; replace H := Option.bind_eq_some_iff.mp H; obtain ⟨t816, A20, H⟩ := H; replace H : (if t816 = true then (some (wrap64 ((wrap64 (a0_0 + a0_2)) + (wrap64 (7 * (a0_4.size : Int)))), true)) else (some (0, false))) = some (r1, r2) := H; have A2 := Aside0.mk A20; clear A20
 by_cases c3 : t816 = true
 ·subst c3
  have H1 : (some (wrap64 ((wrap64 (a0_0 + a0_2)) + (wrap64 (7 * (a0_4.size : Int)))), true)) = some (r1, r2) := by rw [if_pos rfl] at H; exact H
  clear H; have H := H1; clear H1
  simp only [Option.some.injEq, Prod.mk.injEq] at H
  obtain ⟨rfl, rfl⟩ := H
  go_enter Try.func33, Try.ntmps33
  go_wp2_with (first | ((with_reducible refine gate_dst (N := 1) rfl ?_); refine bE 1 #[.int .i64 a0_0, .slice A0_1 l0_1.length c0_1, .int .i64 a0_2, .slice A0_3 l0_3.length c0_3, .string a0_4] 32 ?_; intro gb815 hg w4 hbox hb; have n0_ := Bb HB hb; have n1_ := Aside0.mk (hbox); have n2_ := Gl HB hg; have n3_ := Gl HB hg; clear HB; revert n0_ n1_ n2_ n3_; intro HB BK815 GW815 GE815; clear hb hbox hg; obtain ⟨hcz5_0, hcz5_1, hcz5_2, hcz5_3, hcz5_4, hfz5_0, hfz5_1, hfz5_2, hfz5_3, hfz5_4⟩ := cf5 (w := w4) BK815) | ((with_reducible refine gate_callee (f := 29) rfl ?_); refine gL (some 5) Try.func29 #[.agg #[.int .i64 a0_0, .slice A0_1 l0_1.length c0_1, .int .i64 a0_2, .slice A0_3 l0_3.length c0_3, .string a0_4]] ?_; (with_reducible refine (spec_IsTrie.calls k a0_0 _ _ l0_1 a0_2 _ _ l0_3 a0_4 true _ ?side1 ?side2 ?side3 ?side4 A2.out).mono ?_); (case side1 => exact Cz (Kd.C_below HR0_1.out HB.out)); (case side2 => exact HC0_1.out); (case side3 => exact Cz (Kd.C_below HR0_3.out HB.out)); (case side4 => exact HC0_3.out); rintro e w6 ⟨rfl, hb⟩; refine ⟨_, rfl, ?_⟩; have n0_ := Kb BK815 hb; have n1_ := Bc HB hb; clear BK815 HB; revert n0_ n1_; intro BK815 HB; (try clear hb); (try clear hb2); (try clear hk); (try clear hi); obtain ⟨hcz7_0, hcz7_1, hcz7_2, hcz7_3, hcz7_4, hfz7_0, hfz7_1, hfz7_2, hfz7_3, hfz7_4⟩ := cf5 (w := w6) BK815))
  go_ret2
  exact ⟨by first | rfl | (simp [errW_none, errW_some] <;> rfl) | (simp [*, errW_none, errW_some] <;> rfl), Bq⟩
 ·replace c3 := Bool.eq_false_iff.mpr c3
  subst c3
  have H1 : (some (0, false)) = some (r1, r2) := by rw [if_neg (show ¬ (false = true) by decide)] at H; exact H
  clear H; have H := H1; clear H1
  simp only [Option.some.injEq, Prod.mk.injEq] at H
  obtain ⟨rfl, rfl⟩ := H
  go_enter Try.func33, Try.ntmps33
  go_wp2_with (first | ((with_reducible refine gate_dst (N := 1) rfl ?_); refine bE 1 #[.int .i64 a0_0, .slice A0_1 l0_1.length c0_1, .int .i64 a0_2, .slice A0_3 l0_3.length c0_3, .string a0_4] 32 ?_; intro gb815 hg w8 hbox hb; have n0_ := Bb HB hb; have n1_ := Aside0.mk (hbox); have n2_ := Gl HB hg; have n3_ := Gl HB hg; clear HB; revert n0_ n1_ n2_ n3_; intro HB BK815 GW815 GE815; clear hb hbox hg; obtain ⟨hcz9_0, hcz9_1, hcz9_2, hcz9_3, hcz9_4, hfz9_0, hfz9_1, hfz9_2, hfz9_3, hfz9_4⟩ := cf5 (w := w8) BK815) | ((with_reducible refine gate_callee (f := 29) rfl ?_); refine gL (some 5) Try.func29 #[.agg #[.int .i64 a0_0, .slice A0_1 l0_1.length c0_1, .int .i64 a0_2, .slice A0_3 l0_3.length c0_3, .string a0_4]] ?_; (with_reducible refine (spec_IsTrie.calls k a0_0 _ _ l0_1 a0_2 _ _ l0_3 a0_4 false _ ?side1 ?side2 ?side3 ?side4 A2.out).mono ?_); (case side1 => exact Cz (Kd.C_below HR0_1.out HB.out)); (case side2 => exact HC0_1.out); (case side3 => exact Cz (Kd.C_below HR0_3.out HB.out)); (case side4 => exact HC0_3.out); rintro e w10 ⟨rfl, hb⟩; refine ⟨_, rfl, ?_⟩; have n0_ := Kb BK815 hb; have n1_ := Bc HB hb; clear BK815 HB; revert n0_ n1_; intro BK815 HB; (try clear hb); (try clear hb2); (try clear hk); (try clear hi)))
  go_ret2
  exact ⟨by first | rfl | (simp [errW_none, errW_some] <;> rfl) | (simp [*, errW_none, errW_some] <;> rfl), Bq⟩

def impl_TrieBits.f (k : Nat) (a0_0 : Int) (l0_1 : List Int) (a0_2 : Int) (l0_3 : List Int) (a0_4 : ByteArray) : Option (Int × Bool) := (impl_IsTrie.f k a0_0 l0_1 a0_2 l0_3 a0_4).bind fun t818 => (if t818 = true then (some (wrap64 ((wrap64 (a0_0 + a0_2)) + (wrap64 (7 * (a0_4.size : Int)))), true)) else (some (0, false)))
theorem impl_TrieBits.mono : ∀ a0 a1 a2 a3 a4 k, LeO (impl_TrieBits.f k a0 a1 a2 a3 a4) (impl_TrieBits.f (k + 1) a0 a1 a2 a3 a4) := by
 intro a0 a1 a2 a3 a4 k
 unfold impl_TrieBits.f
 repeat' first | (with_reducible first | exact impl_IsTrie.mono _ _ _ _ _ _ | exact LeO.refl _ | exact LeO.none _ | refine LeO.ite ?_ ?_ | refine LeO.bind ?_ (fun _ => ?_)) | exact LeO.none _ | refine LeO.ite ?_ ?_ | refine LeO.bind ?_ (fun _ => ?_)
set_option maxHeartbeats 8000000 in
set_option maxRecDepth 100000 in
theorem impl_TrieBits.calls (k : Nat) (a0_0 : Int) (A0_1 : Option Addr) (c0_1 : Nat) (l0_1 : List Int) (a0_2 : Int) (A0_3 : Option Addr) (c0_3 : Nat) (l0_3 : List Int) (a0_4 : ByteArray) (r1 : Int) (r2 : Bool) (w : World) (hr0_1 : Kd.C (Kd.int .i64) w A0_1 l0_1.length l0_1) (hc0_1 : l0_1.length ≤ c0_1) (hr0_3 : Kd.C (Kd.int .i64) w A0_3 l0_3.length l0_3) (hc0_3 : l0_3.length ≤ c0_3) (h : impl_TrieBits.f k a0_0 l0_1 a0_2 l0_3 a0_4 = some (r1, r2)) :
  Calls Try.prog 34 #[.agg #[.int .i64 a0_0, .slice A0_1 l0_1.length c0_1, .int .i64 a0_2, .slice A0_3 l0_3.length c0_3, .string a0_4]] w fun e w' => e = .returned (.tuple #[.int .i64 r1, .bool r2]) ∧ Below w.heap.size w w' := by
 have hu32 := Try.underlying32; have HR0_1 := Aside0.mk hr0_1; have HC0_1 := Aside0.mk hc0_1; clear hr0_1 hc0_1; have HR0_3 := Aside0.mk hr0_3; have HC0_3 := Aside0.mk hc0_3; clear hr0_3 hc0_3; have HB := Aside0.mk (Below.refl w.heap.size w); have H : ((impl_IsTrie.f k a0_0 l0_1 a0_2 l0_3 a0_4).bind fun t818 => (if t818 = true then (some (wrap64 ((wrap64 (a0_0 + a0_2)) + (wrap64 (7 * (a0_4.size : Int)))), true)) else (some (0, false)))) = some (r1, r2) := h; clear h; replace H := Option.bind_eq_some_iff.mp H; obtain ⟨t818, A20, H⟩ := H; replace H : (if t818 = true then (some (wrap64 ((wrap64 (a0_0 + a0_2)) + (wrap64 (7 * (a0_4.size : Int)))), true)) else (some (0, false))) = some (r1, r2) := H; have A2 := Aside0.mk A20; clear A20
 by_cases c3 : t818 = true
 ·subst c3
  have H1 : (some (wrap64 ((wrap64 (a0_0 + a0_2)) + (wrap64 (7 * (a0_4.size : Int)))), true)) = some (r1, r2) := by rw [if_pos rfl] at H; exact H
  clear H; have H := H1; clear H1
  simp only [Option.some.injEq, Prod.mk.injEq] at H
  obtain ⟨rfl, rfl⟩ := H
  go_enter Try.func34, Try.ntmps34
  go_wp2_with (first | ((with_reducible refine gate_dst (N := 1) rfl ?_); refine bE 1 #[.int .i64 a0_0, .slice A0_1 l0_1.length c0_1, .int .i64 a0_2, .slice A0_3 l0_3.length c0_3, .string a0_4] 32 ?_; intro gb817 hg w4 hbox hb; have n0_ := Bb HB hb; have n1_ := Aside0.mk (hbox); have n2_ := Gl HB hg; have n3_ := Gl HB hg; clear HB; revert n0_ n1_ n2_ n3_; intro HB BK817 GW817 GE817; clear hb hbox hg; obtain ⟨hcz5_0, hcz5_1, hcz5_2, hcz5_3, hcz5_4, hfz5_0, hfz5_1, hfz5_2, hfz5_3, hfz5_4⟩ := cf5 (w := w4) BK817) | ((with_reducible refine gate_callee (f := 30) rfl ?_); refine gL (some 5) Try.func30 #[.agg #[.int .i64 a0_0, .slice A0_1 l0_1.length c0_1, .int .i64 a0_2, .slice A0_3 l0_3.length c0_3, .string a0_4]] ?_; (with_reducible refine (impl_IsTrie.calls k a0_0 _ _ l0_1 a0_2 _ _ l0_3 a0_4 true _ ?side1 ?side2 ?side3 ?side4 A2.out).mono ?_); (case side1 => exact Cz (Kd.C_below HR0_1.out HB.out)); (case side2 => exact HC0_1.out); (case side3 => exact Cz (Kd.C_below HR0_3.out HB.out)); (case side4 => exact HC0_3.out); rintro e w6 ⟨rfl, hb⟩; refine ⟨_, rfl, ?_⟩; have n0_ := Kb BK817 hb; have n1_ := Bc HB hb; clear BK817 HB; revert n0_ n1_; intro BK817 HB; (try clear hb); (try clear hb2); (try clear hk); (try clear hi); obtain ⟨hcz7_0, hcz7_1, hcz7_2, hcz7_3, hcz7_4, hfz7_0, hfz7_1, hfz7_2, hfz7_3, hfz7_4⟩ := cf5 (w := w6) BK817))
  go_ret2
  exact ⟨by first | rfl | (simp [errW_none, errW_some] <;> rfl) | (simp [*, errW_none, errW_some] <;> rfl), Bq⟩
 ·replace c3 := Bool.eq_false_iff.mpr c3
  subst c3
  have H1 : (some (0, false)) = some (r1, r2) := by rw [if_neg (show ¬ (false = true) by decide)] at H; exact H
  clear H; have H := H1; clear H1
  simp only [Option.some.injEq, Prod.mk.injEq] at H
  obtain ⟨rfl, rfl⟩ := H
  go_enter Try.func34, Try.ntmps34
  go_wp2_with (first | ((with_reducible refine gate_dst (N := 1) rfl ?_); refine bE 1 #[.int .i64 a0_0, .slice A0_1 l0_1.length c0_1, .int .i64 a0_2, .slice A0_3 l0_3.length c0_3, .string a0_4] 32 ?_; intro gb817 hg w8 hbox hb; have n0_ := Bb HB hb; have n1_ := Aside0.mk (hbox); have n2_ := Gl HB hg; have n3_ := Gl HB hg; clear HB; revert n0_ n1_ n2_ n3_; intro HB BK817 GW817 GE817; clear hb hbox hg; obtain ⟨hcz9_0, hcz9_1, hcz9_2, hcz9_3, hcz9_4, hfz9_0, hfz9_1, hfz9_2, hfz9_3, hfz9_4⟩ := cf5 (w := w8) BK817) | ((with_reducible refine gate_callee (f := 30) rfl ?_); refine gL (some 5) Try.func30 #[.agg #[.int .i64 a0_0, .slice A0_1 l0_1.length c0_1, .int .i64 a0_2, .slice A0_3 l0_3.length c0_3, .string a0_4]] ?_; (with_reducible refine (impl_IsTrie.calls k a0_0 _ _ l0_1 a0_2 _ _ l0_3 a0_4 false _ ?side1 ?side2 ?side3 ?side4 A2.out).mono ?_); (case side1 => exact Cz (Kd.C_below HR0_1.out HB.out)); (case side2 => exact HC0_1.out); (case side3 => exact Cz (Kd.C_below HR0_3.out HB.out)); (case side4 => exact HC0_3.out); rintro e w10 ⟨rfl, hb⟩; refine ⟨_, rfl, ?_⟩; have n0_ := Kb BK817 hb; have n1_ := Bc HB hb; clear BK817 HB; revert n0_ n1_; intro BK817 HB; (try clear hb); (try clear hb2); (try clear hk); (try clear hi)))
  go_ret2
  exact ⟨by first | rfl | (simp [errW_none, errW_some] <;> rfl) | (simp [*, errW_none, errW_some] <;> rfl), Bq⟩

def laws_FnExactTrieBits.j0 : Nat → Bool → Int → List Int → Int → List Int → ByteArray → Int → List Int → Int → List Int → ByteArray → Option (Bool)
 | 0, _, _, _, _, _, _, _, _, _, _, _ => none
 | k + 1, x34, x820000, x820001, x820002, x820003, x820004, x842000, x842001, x842002, x842003, x842004 => if x34 = true then (some false) else ((laws_toTrie.f k x820000 x820001 x820002 x820003 x820004).bind fun bt844 => ((laws_eqTrie.f k x842000 x842001 x842002 x842003 x842004 bt844.1 bt844.2.1 bt844.2.2.1 bt844.2.2.2.1 bt844.2.2.2.2).bind fun t853 => (if t853 = true then (some true) else (some false))))
def laws_FnExactTrieBits.f (k : Nat) (a0_0 : Int) (l0_1 : List Int) (a0_2 : Int) (l0_3 : List Int) (a0_4 : ByteArray) : Option (Bool) := (laws_szTrie.f a0_0 l0_1 a0_2 l0_3 a0_4 1048576).bind fun t820 => (if t820 < 0 then (some true) else ((laws_toTrie.f k a0_0 l0_1 a0_2 l0_3 a0_4).bind fun bt821 => ((spec_TrieBits.f k bt821.1 bt821.2.1 bt821.2.2.1 bt821.2.2.2.1 bt821.2.2.2.2).bind fun bt830 => ((laws_toTrie.f k a0_0 l0_1 a0_2 l0_3 a0_4).bind fun bt832 => ((impl_TrieBits.f k bt832.1 bt832.2.1 bt832.2.2.1 bt832.2.2.2.1 bt832.2.2.2.2).bind fun bt842 => (if bt842.1 = bt830.1 then (laws_FnExactTrieBits.j0 k (bt842.2 != bt830.2) a0_0 l0_1 a0_2 l0_3 a0_4 bt832.1 bt832.2.1 bt832.2.2.1 bt832.2.2.2.1 bt832.2.2.2.2) else (laws_FnExactTrieBits.j0 k true a0_0 l0_1 a0_2 l0_3 a0_4 bt832.1 bt832.2.1 bt832.2.2.1 bt832.2.2.2.1 bt832.2.2.2.2)))))))
theorem laws_FnExactTrieBits.mono_l : ∀ k, (∀ y0 y1 y2 y3 y4 y5 y6 y7 y8 y9 y10, LeO (laws_FnExactTrieBits.j0 k y0 y1 y2 y3 y4 y5 y6 y7 y8 y9 y10) (laws_FnExactTrieBits.j0 (k + 1) y0 y1 y2 y3 y4 y5 y6 y7 y8 y9 y10))
 | 0 => fun _ _ _ _ _ _ _ _ _ _ _ r h => by simp [laws_FnExactTrieBits.j0] at h
 | k + 1 => by
  have ih0 := laws_FnExactTrieBits.mono_l k
  ·intro y0 y1 y2 y3 y4 y5 y6 y7 y8 y9 y10
   unfold laws_FnExactTrieBits.j0
   repeat' first | (with_reducible first | exact ih0 _ _ _ _ _ _ _ _ _ _ _ | exact impl_TrieBits.mono _ _ _ _ _ _ | exact laws_eqTrie.mono _ _ _ _ _ _ _ _ _ _ _ | exact laws_toTrie.mono _ _ _ _ _ _ | exact spec_TrieBits.mono _ _ _ _ _ _ | exact LeO.refl _ | exact LeO.none _ | refine LeO.ite ?_ ?_ | refine LeO.bind ?_ (fun _ => ?_)) | exact LeO.none _ | refine LeO.ite ?_ ?_ | refine LeO.bind ?_ (fun _ => ?_)
theorem laws_FnExactTrieBits.mono : ∀ a0 a1 a2 a3 a4 k, LeO (laws_FnExactTrieBits.f k a0 a1 a2 a3 a4) (laws_FnExactTrieBits.f (k + 1) a0 a1 a2 a3 a4) := by
 intro a0 a1 a2 a3 a4 k; have ih0 := laws_FnExactTrieBits.mono_l k
 unfold laws_FnExactTrieBits.f
 repeat' first | (with_reducible first | exact ih0 _ _ _ _ _ _ _ _ _ _ _ | exact impl_TrieBits.mono _ _ _ _ _ _ | exact laws_eqTrie.mono _ _ _ _ _ _ _ _ _ _ _ | exact laws_toTrie.mono _ _ _ _ _ _ | exact spec_TrieBits.mono _ _ _ _ _ _ | exact LeO.refl _ | exact LeO.none _ | refine LeO.ite ?_ ?_ | refine LeO.bind ?_ (fun _ => ?_)) | exact LeO.none _ | refine LeO.ite ?_ ?_ | refine LeO.bind ?_ (fun _ => ?_)
set_option maxHeartbeats 8000000 in
set_option maxRecDepth 100000 in
theorem laws_FnExactTrieBits.calls (k : Nat) (a0_0 : Int) (A0_1 : Option Addr) (c0_1 : Nat) (l0_1 : List Int) (a0_2 : Int) (A0_3 : Option Addr) (c0_3 : Nat) (l0_3 : List Int) (a0_4 : ByteArray) (r : Bool) (w : World) (hr0_1 : Kd.C (Kd.int .i64) w A0_1 l0_1.length l0_1) (hc0_1 : l0_1.length ≤ c0_1) (hr0_3 : Kd.C (Kd.int .i64) w A0_3 l0_3.length l0_3) (hc0_3 : l0_3.length ≤ c0_3) (h : laws_FnExactTrieBits.f k a0_0 l0_1 a0_2 l0_3 a0_4 = some r) :
  Calls Try.prog 9 #[.agg #[.int .i64 a0_0, .slice A0_1 l0_1.length c0_1, .int .i64 a0_2, .slice A0_3 l0_3.length c0_3, .string a0_4]] w fun e w' => e = .returned (.bool r) ∧ Below w.heap.size w w' := by
 have hu26 := Try.underlying26; have hu32 := Try.underlying32; have HR0_1 := Aside0.mk hr0_1; have HC0_1 := Aside0.mk hc0_1; clear hr0_1 hc0_1; have HR0_3 := Aside0.mk hr0_3; have HC0_3 := Aside0.mk hc0_3; clear hr0_3 hc0_3; have HB := Aside0.mk (Below.refl w.heap.size w); have H : ((laws_szTrie.f a0_0 l0_1 a0_2 l0_3 a0_4 1048576).bind fun t820 => (if t820 < 0 then (some true) else ((laws_toTrie.f k a0_0 l0_1 a0_2 l0_3 a0_4).bind fun bt821 => ((spec_TrieBits.f k bt821.1 bt821.2.1 bt821.2.2.1 bt821.2.2.2.1 bt821.2.2.2.2).bind fun bt830 => ((laws_toTrie.f k a0_0 l0_1 a0_2 l0_3 a0_4).bind fun bt832 => ((impl_TrieBits.f k bt832.1 bt832.2.1 bt832.2.2.1 bt832.2.2.2.1 bt832.2.2.2.2).bind fun bt842 => (if bt842.1 = bt830.1 then (laws_FnExactTrieBits.j0 k (bt842.2 != bt830.2) a0_0 l0_1 a0_2 l0_3 a0_4 bt832.1 bt832.2.1 bt832.2.2.1 bt832.2.2.2.1 bt832.2.2.2.2) else (laws_FnExactTrieBits.j0 k true a0_0 l0_1 a0_2 l0_3 a0_4 bt832.1 bt832.2.1 bt832.2.2.1 bt832.2.2.2.1 bt832.2.2.2.2)))))))) = some r := h; clear h; replace H := Option.bind_eq_some_iff.mp H; obtain ⟨t820, A20, H⟩ := H; replace H : (if t820 < 0 then (some true) else ((laws_toTrie.f k a0_0 l0_1 a0_2 l0_3 a0_4).bind fun bt821 => ((spec_TrieBits.f k bt821.1 bt821.2.1 bt821.2.2.1 bt821.2.2.2.1 bt821.2.2.2.2).bind fun bt830 => ((laws_toTrie.f k a0_0 l0_1 a0_2 l0_3 a0_4).bind fun bt832 => ((impl_TrieBits.f k bt832.1 bt832.2.1 bt832.2.2.1 bt832.2.2.2.1 bt832.2.2.2.2).bind fun bt842 => (if bt842.1 = bt830.1 then (laws_FnExactTrieBits.j0 k (bt842.2 != bt830.2) a0_0 l0_1 a0_2 l0_3 a0_4 bt832.1 bt832.2.1 bt832.2.2.1 bt832.2.2.2.1 bt832.2.2.2.2) else (laws_FnExactTrieBits.j0 k true a0_0 l0_1 a0_2 l0_3 a0_4 bt832.1 bt832.2.1 bt832.2.2.1 bt832.2.2.2.1 bt832.2.2.2.2))))))) = some r := H; have A2 := Aside0.mk A20; clear A20
 by_cases c3 : t820 < 0
 ·rw [if_pos c3] at H
  have c3b0 : decide (t820 < 0) = true := decide_eq_true c3; clear c3; obtain rfl := Option.some.inj H
  go_enter Try.func9, Try.ntmps9
  go_wp2_with (first | ((with_reducible refine gate_dst (N := 1) rfl ?_); refine bE 1 #[.int .i64 a0_0, .slice A0_1 l0_1.length c0_1, .int .i64 a0_2, .slice A0_3 l0_3.length c0_3, .string a0_4] 26 ?_; intro gb819 hg w4 hbox hb; have n0_ := Bb HB hb; have n1_ := Aside0.mk (hbox); have n2_ := Gl HB hg; have n3_ := Gl HB hg; clear HB; revert n0_ n1_ n2_ n3_; intro HB BK819 GW819 GE819; clear hb hbox hg; obtain ⟨hcz5_0, hcz5_1, hcz5_2, hcz5_3, hcz5_4, hfz5_0, hfz5_1, hfz5_2, hfz5_3, hfz5_4⟩ := cf5 (w := w4) BK819) | ((with_reducible refine gate_callee (f := 12) rfl ?_); refine gL (some 11) Try.func12 #[.agg #[.int .i64 a0_0, .slice A0_1 l0_1.length c0_1, .int .i64 a0_2, .slice A0_3 l0_3.length c0_3, .string a0_4], .int .i64 1048576] ?_; (with_reducible refine (laws_szTrie.calls a0_0 _ _ l0_1 a0_2 _ _ l0_3 a0_4 1048576 t820 _ ?side1 ?side2 ?side3 ?side4 A2.out).mono ?_); (case side1 => exact Cz (Kd.C_below HR0_1.out HB.out)); (case side2 => exact HC0_1.out); (case side3 => exact Cz (Kd.C_below HR0_3.out HB.out)); (case side4 => exact HC0_3.out); rintro e w6 ⟨rfl, hb⟩; refine ⟨_, rfl, ?_⟩; have n0_ := Kb BK819 hb; have n1_ := Bc HB hb; clear BK819 HB; revert n0_ n1_; intro BK819 HB; (try clear hb); (try clear hb2); (try clear hk); (try clear hi)))
  go_ret
  exact ⟨by first | rfl | (simp [errW_none, errW_some] <;> rfl) | (simp [*, errW_none, errW_some] <;> rfl), Bq⟩
 ·rw [if_neg c3] at H
  have c3b0 : decide (t820 < 0) = false := decide_eq_false c3; clear c3; replace H := Option.bind_eq_some_iff.mp H; obtain ⟨⟨t821, t822, t825, t826, t829⟩, A70, H⟩ := H; replace H : ((spec_TrieBits.f k t821 t822 t825 t826 t829).bind fun bt830 => ((laws_toTrie.f k a0_0 l0_1 a0_2 l0_3 a0_4).bind fun bt832 => ((impl_TrieBits.f k bt832.1 bt832.2.1 bt832.2.2.1 bt832.2.2.2.1 bt832.2.2.2.2).bind fun bt842 => (if bt842.1 = bt830.1 then (laws_FnExactTrieBits.j0 k (bt842.2 != bt830.2) a0_0 l0_1 a0_2 l0_3 a0_4 bt832.1 bt832.2.1 bt832.2.2.1 bt832.2.2.2.1 bt832.2.2.2.2) else (laws_FnExactTrieBits.j0 k true a0_0 l0_1 a0_2 l0_3 a0_4 bt832.1 bt832.2.1 bt832.2.2.1 bt832.2.2.2.1 bt832.2.2.2.2))))) = some r := H; have A7 := Aside0.mk A70; clear A70; replace H := Option.bind_eq_some_iff.mp H; obtain ⟨⟨t830, t831⟩, A80, H⟩ := H; replace H : ((laws_toTrie.f k a0_0 l0_1 a0_2 l0_3 a0_4).bind fun bt832 => ((impl_TrieBits.f k bt832.1 bt832.2.1 bt832.2.2.1 bt832.2.2.2.1 bt832.2.2.2.2).bind fun bt842 => (if bt842.1 = t830 then (laws_FnExactTrieBits.j0 k (bt842.2 != t831) a0_0 l0_1 a0_2 l0_3 a0_4 bt832.1 bt832.2.1 bt832.2.2.1 bt832.2.2.2.1 bt832.2.2.2.2) else (laws_FnExactTrieBits.j0 k true a0_0 l0_1 a0_2 l0_3 a0_4 bt832.1 bt832.2.1 bt832.2.2.1 bt832.2.2.2.1 bt832.2.2.2.2)))) = some r := H; have A8 := Aside0.mk A80; clear A80; replace H := Option.bind_eq_some_iff.mp H; obtain ⟨⟨t832, t833, t836, t837, t840⟩, A90, H⟩ := H; replace H : ((impl_TrieBits.f k t832 t833 t836 t837 t840).bind fun bt842 => (if bt842.1 = t830 then (laws_FnExactTrieBits.j0 k (bt842.2 != t831) a0_0 l0_1 a0_2 l0_3 a0_4 t832 t833 t836 t837 t840) else (laws_FnExactTrieBits.j0 k true a0_0 l0_1 a0_2 l0_3 a0_4 t832 t833 t836 t837 t840))) = some r := H; have A9 := Aside0.mk A90; clear A90; replace H := Option.bind_eq_some_iff.mp H; obtain ⟨⟨t842, t843⟩, A100, H⟩ := H; replace H : (if t842 = t830 then (laws_FnExactTrieBits.j0 k (t843 != t831) a0_0 l0_1 a0_2 l0_3 a0_4 t832 t833 t836 t837 t840) else (laws_FnExactTrieBits.j0 k true a0_0 l0_1 a0_2 l0_3 a0_4 t832 t833 t836 t837 t840)) = some r := H; have A10 := Aside0.mk A100; clear A100; have HC11 := Aside0.mk H; clear H
  go_enter Try.func9, Try.ntmps9
  go_upto_region 8 with (first | ((with_reducible refine gate_dst (N := 1) rfl ?_); refine bE 1 #[.int .i64 a0_0, .slice A0_1 l0_1.length c0_1, .int .i64 a0_2, .slice A0_3 l0_3.length c0_3, .string a0_4] 26 ?_; intro gb819 hg w12 hbox hb; have n0_ := Bb HB hb; have n1_ := Aside0.mk (hbox); have n2_ := Gl HB hg; have n3_ := Gl HB hg; clear HB; revert n0_ n1_ n2_ n3_; intro HB BK819 GW819 GE819; clear hb hbox hg; obtain ⟨hcz13_0, hcz13_1, hcz13_2, hcz13_3, hcz13_4, hfz13_0, hfz13_1, hfz13_2, hfz13_3, hfz13_4⟩ := cf5 (w := w12) BK819) | ((with_reducible refine gate_callee (f := 12) rfl ?_); refine gL (some 11) Try.func12 #[.agg #[.int .i64 a0_0, .slice A0_1 l0_1.length c0_1, .int .i64 a0_2, .slice A0_3 l0_3.length c0_3, .string a0_4], .int .i64 1048576] ?_; (with_reducible refine (laws_szTrie.calls a0_0 _ _ l0_1 a0_2 _ _ l0_3 a0_4 1048576 t820 _ ?side1 ?side2 ?side3 ?side4 A2.out).mono ?_); (case side1 => exact Cz (Kd.C_below HR0_1.out HB.out)); (case side2 => exact HC0_1.out); (case side3 => exact Cz (Kd.C_below HR0_3.out HB.out)); (case side4 => exact HC0_3.out); rintro e w14 ⟨rfl, hb⟩; refine ⟨_, rfl, ?_⟩; have n0_ := Kb BK819 hb; have n1_ := Bc HB hb; clear BK819 HB; revert n0_ n1_; intro BK819 HB; (try clear hb); (try clear hb2); (try clear hk); (try clear hi); obtain ⟨hcz15_0, hcz15_1, hcz15_2, hcz15_3, hcz15_4, hfz15_0, hfz15_1, hfz15_2, hfz15_3, hfz15_4⟩ := cf5 (w := w14) BK819) | ((with_reducible refine gate_callee (f := 14) rfl ?_); refine gL (some 16) Try.func14 #[.agg #[.int .i64 a0_0, .slice A0_1 l0_1.length c0_1, .int .i64 a0_2, .slice A0_3 l0_3.length c0_3, .string a0_4]] ?_; (with_reducible refine (laws_toTrie.calls k a0_0 _ _ l0_1 a0_2 _ _ l0_3 a0_4 t821 t822 t825 t826 t829 _ ?side1 ?side2 ?side3 ?side4 A7.out).mono ?_); (case side1 => exact Cz (Kd.C_below HR0_1.out HB.out)); (case side2 => exact HC0_1.out); (case side3 => exact Cz (Kd.C_below HR0_3.out HB.out)); (case side4 => exact HC0_3.out); rintro e w16 ⟨v823, v827, rfl, ho0, ho1, hb⟩; refine ⟨_, rfl, ?_⟩; have n0_ := Rm ho0 HB; have n1_ := Rm ho1 HB; have n2_ := Kb BK819 hb; have n3_ := Bc HB hb; clear BK819 HB; revert n0_ n1_ n2_ n3_; intro HO824 HO828 BK819 HB; (try clear hb); (try clear hb2); (try clear hk); (try clear hi); (try clear ho0); (try clear ho1); obtain ⟨Ao17, co17, eo17⟩ := Kd.R_slice HO824.out; subst eo17; obtain ⟨Ao18, co18, eo18⟩ := Kd.R_slice HO828.out; subst eo18) | ((with_reducible refine gate_callee (f := 33) rfl ?_); refine gL (some 17) Try.func33 #[.agg #[.int .i64 t821, .slice Ao17 t822.length co17, .int .i64 t825, .slice Ao18 t826.length co18, .string t829]] ?_; (with_reducible refine (spec_TrieBits.calls k t821 _ _ t822 t825 _ _ t826 t829 t830 t831 _ ?side1 ?side2 ?side3 ?side4 A8.out).mono ?_); (case side1 => exact Cz ((Kd.R_reads' HO824.out).2.2)); (case side2 => exact (Kd.R_reads' HO824.out).2.1); (case side3 => exact Cz ((Kd.R_reads' HO828.out).2.2)); (case side4 => exact (Kd.R_reads' HO828.out).2.1); rintro e w19 ⟨rfl, hb⟩; refine ⟨_, rfl, ?_⟩; have n0_ := Rb HO824 hb; have n1_ := Rb HO828 hb; have n2_ := Kb BK819 hb; have n3_ := Bc HB hb; clear HO824 HO828 BK819 HB; revert n0_ n1_ n2_ n3_; intro HO824 HO828 BK819 HB; (try clear hb); (try clear hb2); (try clear hk); (try clear hi); obtain ⟨hcz20_0, hcz20_1, hcz20_2, hcz20_3, hcz20_4, hfz20_0, hfz20_1, hfz20_2, hfz20_3, hfz20_4⟩ := cf5 (w := w19) BK819) | ((with_reducible refine gate_callee (f := 14) rfl ?_); refine gL (some 21) Try.func14 #[.agg #[.int .i64 a0_0, .slice A0_1 l0_1.length c0_1, .int .i64 a0_2, .slice A0_3 l0_3.length c0_3, .string a0_4]] ?_; (with_reducible refine (laws_toTrie.calls k a0_0 _ _ l0_1 a0_2 _ _ l0_3 a0_4 t832 t833 t836 t837 t840 _ ?side1 ?side2 ?side3 ?side4 A9.out).mono ?_); (case side1 => exact Cz (Kd.C_below HR0_1.out HB.out)); (case side2 => exact HC0_1.out); (case side3 => exact Cz (Kd.C_below HR0_3.out HB.out)); (case side4 => exact HC0_3.out); rintro e w21 ⟨v834, v838, rfl, ho0, ho1, hb⟩; refine ⟨_, rfl, ?_⟩; have n0_ := Aside0.mk (Kd.R_mono (Kd.R_told (Kd.R_told (Kd.R_old (Rz HO824.out) hb) (Kd.R_base ho0)) (Kd.R_base ho1)) (fun _ h_ => h_.1)); have n1_ := Aside0.mk (Kd.R_mono (Kd.R_told (Kd.R_told (Kd.R_old (Rz HO828.out) hb) (Kd.R_base ho0)) (Kd.R_base ho1)) (fun _ h_ => h_.1)); have n2_ := Rm (Kd.R_new' (Kd.R_new' ho0 (Kd.R_lt (Rz HO824.out))) (Kd.R_lt (Rz HO828.out))) HB; have n3_ := Rm (Kd.R_new' (Kd.R_new' ho1 (Kd.R_lt (Rz HO824.out))) (Kd.R_lt (Rz HO828.out))) HB; have n4_ := Kb BK819 hb; have n5_ := Bc HB hb; clear HO824 HO828 BK819 HB; revert n0_ n1_ n2_ n3_ n4_ n5_; intro HO824 HO828 HO835 HO839 BK819 HB; (try clear hb); (try clear hb2); (try clear hk); (try clear hi); (try clear ho0); (try clear ho1)) | ((with_reducible refine gate_dst (N := 6) rfl ?_); refine bE 6 #[.int .i64 0, .slice none 0 0, .int .i64 0, .slice none 0 0, .string (⟨#[]⟩ : ByteArray)] 32 ?_; intro gb841 hg w22 hbox hb; have n0_ := Rb HO824 hb; have n1_ := Rb HO828 hb; have n2_ := Rb HO835 hb; have n3_ := Rb HO839 hb; have n4_ := Kb BK819 hb; have n5_ := Bc HB hb; have n6_ := Aside0.mk (hbox); have n7_ := Gm HB hg; have n8_ := Gm HB hg; have n9_ := Nl BK819 hg; have n10_ := Ng BK819 hg; clear HO824 HO828 HO835 HO839 BK819 HB; revert n0_ n1_ n2_ n3_ n4_ n5_ n6_ n7_ n8_ n9_ n10_; intro HO824 HO828 HO835 HO839 BK819 HB BK841 GW841 GE841 NB819_841 NB841_819; clear hb hbox hg; have hnb23 := NB841_819.out; have hnc23 := NB819_841.out; obtain ⟨hcz24_0, hcz24_1, hcz24_2, hcz24_3, hcz24_4, hfz24_0, hfz24_1, hfz24_2, hfz24_3, hfz24_4⟩ := cf5 (w := w22) BK841; obtain ⟨Ao25, co25, eo25⟩ := Kd.R_slice HO835.out; subst eo25; obtain ⟨Ao26, co26, eo26⟩ := Kd.R_slice HO839.out; subst eo26) | ((with_reducible refine gate_callee (f := 34) rfl ?_); refine gL (some 24) Try.func34 #[.agg #[.int .i64 t832, .slice Ao25 t833.length co25, .int .i64 t836, .slice Ao26 t837.length co26, .string t840]] ?_; (with_reducible refine (impl_TrieBits.calls k t832 _ _ t833 t836 _ _ t837 t840 t842 t843 _ ?side1 ?side2 ?side3 ?side4 A10.out).mono ?_); (case side1 => refine (Kd.R_reads' (e := 3) (base := w.heap.size) (ok := fun k_ => ((some k_ ≠ (.slice Ao26 t837.length co26 : Value).ownBlock ∧ some k_ ≠ (.slice Ao17 t822.length co17 : Value).ownBlock) ∧ some k_ ≠ (.slice Ao18 t826.length co18 : Value).ownBlock)) (n := t833.length) (c := co25) ?_).2.2; exact (Rz (Kd.R_mono (Kd.R_far (p := ⟨gb841, 4, none⟩) (Kd.R_far (p := ⟨gb841, 3, none⟩) (Kd.R_far (p := ⟨gb841, 2, none⟩) (Kd.R_far (p := ⟨gb841, 1, none⟩) (Kd.R_far (p := ⟨gb841, 0, none⟩) (Kd.R_types HO835.out BK841.out (by decide)) (fun _ hk => hk.2) (.int .i64 t832)) (fun _ hk => hk.2) (.slice Ao25 t833.length co25)) (fun _ hk => hk.2) (.int .i64 t836)) (fun _ hk => hk.2) (.slice Ao26 t837.length co26)) (fun _ hk => hk.2) (.string t840)) (fun _ h_ => h_.1)))); (case side2 => exact (Kd.R_reads' HO835.out).2.1); (case side3 => refine (Kd.R_reads' (e := 3) (base := w.heap.size) (ok := fun k_ => ((some k_ ≠ (.slice Ao25 t833.length co25 : Value).ownBlock ∧ some k_ ≠ (.slice Ao17 t822.length co17 : Value).ownBlock) ∧ some k_ ≠ (.slice Ao18 t826.length co18 : Value).ownBlock)) (n := t837.length) (c := co26) ?_).2.2; exact (Rz (Kd.R_mono (Kd.R_far (p := ⟨gb841, 4, none⟩) (Kd.R_far (p := ⟨gb841, 3, none⟩) (Kd.R_far (p := ⟨gb841, 2, none⟩) (Kd.R_far (p := ⟨gb841, 1, none⟩) (Kd.R_far (p := ⟨gb841, 0, none⟩) (Kd.R_types HO839.out BK841.out (by decide)) (fun _ hk => hk.2) (.int .i64 t832)) (fun _ hk => hk.2) (.slice Ao25 t833.length co25)) (fun _ hk => hk.2) (.int .i64 t836)) (fun _ hk => hk.2) (.slice Ao26 t837.length co26)) (fun _ hk => hk.2) (.string t840)) (fun _ h_ => h_.1)))); (case side4 => exact (Kd.R_reads' HO839.out).2.1); rintro e w27 ⟨rfl, hb⟩; refine ⟨_, rfl, ?_⟩; have n0_ := Aside0.mk (Kd.R_below (Rz (Kd.R_mono (Kd.R_far (p := ⟨gb841, 4, none⟩) (Kd.R_far (p := ⟨gb841, 3, none⟩) (Kd.R_far (p := ⟨gb841, 2, none⟩) (Kd.R_far (p := ⟨gb841, 1, none⟩) (Kd.R_far (p := ⟨gb841, 0, none⟩) (Kd.R_types HO824.out BK841.out (by decide)) (fun _ hk => hk.2) (.int .i64 t832)) (fun _ hk => hk.2) (.slice Ao25 t833.length co25)) (fun _ hk => hk.2) (.int .i64 t836)) (fun _ hk => hk.2) (.slice Ao26 t837.length co26)) (fun _ hk => hk.2) (.string t840)) (fun _ h_ => h_.1))) hb); have n1_ := Aside0.mk (Kd.R_below (Rz (Kd.R_mono (Kd.R_far (p := ⟨gb841, 4, none⟩) (Kd.R_far (p := ⟨gb841, 3, none⟩) (Kd.R_far (p := ⟨gb841, 2, none⟩) (Kd.R_far (p := ⟨gb841, 1, none⟩) (Kd.R_far (p := ⟨gb841, 0, none⟩) (Kd.R_types HO828.out BK841.out (by decide)) (fun _ hk => hk.2) (.int .i64 t832)) (fun _ hk => hk.2) (.slice Ao25 t833.length co25)) (fun _ hk => hk.2) (.int .i64 t836)) (fun _ hk => hk.2) (.slice Ao26 t837.length co26)) (fun _ hk => hk.2) (.string t840)) (fun _ h_ => h_.1))) hb); have n2_ := Aside0.mk (Kd.R_below (Rz (Kd.R_mono (Kd.R_far (p := ⟨gb841, 4, none⟩) (Kd.R_far (p := ⟨gb841, 3, none⟩) (Kd.R_far (p := ⟨gb841, 2, none⟩) (Kd.R_far (p := ⟨gb841, 1, none⟩) (Kd.R_far (p := ⟨gb841, 0, none⟩) (Kd.R_types HO835.out BK841.out (by decide)) (fun _ hk => hk.2) (.int .i64 t832)) (fun _ hk => hk.2) (.slice Ao25 t833.length co25)) (fun _ hk => hk.2) (.int .i64 t836)) (fun _ hk => hk.2) (.slice Ao26 t837.length co26)) (fun _ hk => hk.2) (.string t840)) (fun _ h_ => h_.1))) hb); have n3_ := Aside0.mk (Kd.R_below (Rz (Kd.R_mono (Kd.R_far (p := ⟨gb841, 4, none⟩) (Kd.R_far (p := ⟨gb841, 3, none⟩) (Kd.R_far (p := ⟨gb841, 2, none⟩) (Kd.R_far (p := ⟨gb841, 1, none⟩) (Kd.R_far (p := ⟨gb841, 0, none⟩) (Kd.R_types HO839.out BK841.out (by decide)) (fun _ hk => hk.2) (.int .i64 t832)) (fun _ hk => hk.2) (.slice Ao25 t833.length co25)) (fun _ hk => hk.2) (.int .i64 t836)) (fun _ hk => hk.2) (.slice Ao26 t837.length co26)) (fun _ hk => hk.2) (.string t840)) (fun _ h_ => h_.1))) hb); have n4_ := Aside0.mk (blk_below (g := gb819) (o := .cells #[.int .i64 a0_0, .slice A0_1 l0_1.length c0_1, .int .i64 a0_2, .slice A0_3 l0_3.length c0_3, .string a0_4] 26 (0, 0)) (by (with_reducible repeat (first | refine blk_drewN ?_ _ | refine blk_drew ?_ | refine blk_alloc ?_ _)); refine blk_far ?_ NB819_841.out _; (with_reducible repeat (first | refine blk_drewN ?_ _ | refine blk_drew ?_ | refine blk_alloc ?_ _)); refine blk_far ?_ NB819_841.out _; (with_reducible repeat (first | refine blk_drewN ?_ _ | refine blk_drew ?_ | refine blk_alloc ?_ _)); refine blk_far ?_ NB819_841.out _; (with_reducible repeat (first | refine blk_drewN ?_ _ | refine blk_drew ?_ | refine blk_alloc ?_ _)); refine blk_far ?_ NB819_841.out _; (with_reducible repeat (first | refine blk_drewN ?_ _ | refine blk_drew ?_ | refine blk_alloc ?_ _)); refine blk_far ?_ NB819_841.out _; (with_reducible repeat (first | refine blk_drewN ?_ _ | refine blk_drew ?_ | refine blk_alloc ?_ _)); exact BK819.out) hb); have n5_ := Aside0.mk (blk_below (g := gb841) (o := .cells #[.int .i64 t832, .slice Ao25 t833.length co25, .int .i64 t836, .slice Ao26 t837.length co26, .string t840] 32 (0, 0)) (by (with_reducible repeat (first | refine blk_drewN ?_ _ | refine blk_drew ?_ | refine blk_alloc ?_ _)); refine blk_put (cs := #[.int .i64 t832, .slice Ao25 t833.length co25, .int .i64 t836, .slice Ao26 t837.length co26, .string (⟨#[]⟩ : ByteArray)]) ?_ 4 _ rfl; (with_reducible repeat (first | refine blk_drewN ?_ _ | refine blk_drew ?_ | refine blk_alloc ?_ _)); refine blk_put (cs := #[.int .i64 t832, .slice Ao25 t833.length co25, .int .i64 t836, .slice none 0 0, .string (⟨#[]⟩ : ByteArray)]) ?_ 3 _ rfl; (with_reducible repeat (first | refine blk_drewN ?_ _ | refine blk_drew ?_ | refine blk_alloc ?_ _)); refine blk_put (cs := #[.int .i64 t832, .slice Ao25 t833.length co25, .int .i64 0, .slice none 0 0, .string (⟨#[]⟩ : ByteArray)]) ?_ 2 _ rfl; (with_reducible repeat (first | refine blk_drewN ?_ _ | refine blk_drew ?_ | refine blk_alloc ?_ _)); refine blk_put (cs := #[.int .i64 t832, .slice none 0 0, .int .i64 0, .slice none 0 0, .string (⟨#[]⟩ : ByteArray)]) ?_ 1 _ rfl; (with_reducible repeat (first | refine blk_drewN ?_ _ | refine blk_drew ?_ | refine blk_alloc ?_ _)); refine blk_put (cs := #[.int .i64 0, .slice none 0 0, .int .i64 0, .slice none 0 0, .string (⟨#[]⟩ : ByteArray)]) ?_ 0 _ rfl; (with_reducible repeat (first | refine blk_drewN ?_ _ | refine blk_drew ?_ | refine blk_alloc ?_ _)); exact BK841.out) hb); have n6_ := Bc HB hb; clear HO824 HO828 HO835 HO839 BK819 BK841 HB; revert n0_ n1_ n2_ n3_ n4_ n5_ n6_; intro HO824 HO828 HO835 HO839 BK819 BK841 HB; (try clear hb); (try clear hb2); (try clear hk); (try clear hi)))
  (try simp only [Act.put, List.setIfInBounds_toArray, List.set_cons_zero, List.set_cons_succ])
  go_cut [34] (fun v34 wc => ∃ (kq : Nat) (x34_10 : Bool), v34 = .bool x34_10 ∧ Aside0 (laws_FnExactTrieBits.j0 kq x34_10 a0_0 l0_1 a0_2 l0_3 a0_4 t832 t833 t836 t837 t840 = some r) ∧ Aside0 (kq ≤ k) ∧ Aside0 (Kd.R (Kd.int .i64) 3 wc w.heap.size (fun k_ => some k_ ≠ ((.slice Ao26 t837.length co26) : Value).ownBlock) (.slice Ao25 t833.length co25) t833) ∧ Aside0 (Kd.R (Kd.int .i64) 3 wc w.heap.size (fun k_ => some k_ ≠ ((.slice Ao25 t833.length co25) : Value).ownBlock) (.slice Ao26 t837.length co26) t837) ∧ Aside0 (wc.heap[gb819]? = some (.cells #[.int .i64 a0_0, (.slice A0_1 l0_1.length c0_1), .int .i64 a0_2, (.slice A0_3 l0_3.length c0_3), .string a0_4] 26 (0, 0))) ∧ Aside0 (wc.heap[gb841]? = some (.cells #[.int .i64 t832, (.slice Ao25 t833.length co25), .int .i64 t836, (.slice Ao26 t837.length co26), .string t840] 32 (0, 0))) ∧ Aside0 (Below w.heap.size w wc))
  case first =>
   have H := HC11.out; clear HC11
   by_cases c28 : t842 = t830
   ·rw [if_pos c28] at H
    have c28b0 : (t842 == t830) = true := beq_iff_eq.mpr c28; have c28b1 : (t842 != t830) = false := bne_eq_false_iff_eq.mpr c28; clear c28
    (first | rw [c28b0] | (simp only [i64_w, i32_w]; rw [c28b0]) | skip)
    have H' := Aside0.mk H; clear H
    go_wp2
    go_meet
    case rel => exact ⟨_, ((t843 != t831)), (by first | rfl | (simp; done) | (simp [*]; done)), H', ⟨by first | omega | exact Nat.le_refl _⟩, ⟨Rz (Kd.R_mono HO835.out (fun _ hk => hk.1.1))⟩, ⟨Rz (Kd.R_mono HO839.out (fun _ hk => hk.1.1))⟩, ⟨Kz BK819.out⟩, ⟨Kz BK841.out⟩, ⟨Bq⟩⟩
   ·rw [if_neg c28] at H
    have c28b0 : (t842 == t830) = false := beq_eq_false_iff_ne.mpr c28; have c28b1 : (t842 != t830) = true := bne_iff_ne.mpr c28
    (first | rw [c28b0] | (simp only [i64_w, i32_w]; rw [c28b0]) | skip)
    have H' := Aside0.mk H; clear H
    go_wp2
    go_meet
    case rel => exact ⟨_, (true), (by first | rfl | (simp; done) | (simp [*]; done)), H', ⟨by first | omega | exact Nat.le_refl _⟩, ⟨Rz (Kd.R_mono HO835.out (fun _ hk => hk.1.1))⟩, ⟨Rz (Kd.R_mono HO839.out (fun _ hk => hk.1.1))⟩, ⟨Kz BK819.out⟩, ⟨Kz BK841.out⟩, ⟨Bq⟩⟩
  case rest =>
   clear HC11
   try clear c1
   try clear c2
   try clear p2
   try clear c3
   try clear c3b0
   try clear c9
   try clear c12
   try clear c14
   try clear c23
   try clear c28
   try clear c28b0
   try clear c28b1
   try clear hcz13_0
   try clear hcz13_1
   try clear hcz13_2
   try clear hcz13_3
   try clear hcz13_4
   try clear hcz15_0
   try clear hcz15_1
   try clear hcz15_2
   try clear hcz15_3
   try clear hcz15_4
   try clear hcz20_0
   try clear hcz20_1
   try clear hcz20_2
   try clear hcz20_3
   try clear hcz20_4
   try clear hcz24_0
   try clear hcz24_1
   try clear hcz24_2
   try clear hcz24_3
   try clear hcz24_4
   try clear hcz5_0
   try clear hcz5_1
   try clear hcz5_2
   try clear hcz5_3
   try clear hcz5_4
   try clear hfz13_0
   try clear hfz13_1
   try clear hfz13_2
   try clear hfz13_3
   try clear hfz13_4
   try clear hfz15_0
   try clear hfz15_1
   try clear hfz15_2
   try clear hfz15_3
   try clear hfz15_4
   try clear hfz20_0
   try clear hfz20_1
   try clear hfz20_2
   try clear hfz20_3
   try clear hfz20_4
   try clear hfz24_0
   try clear hfz24_1
   try clear hfz24_2
   try clear hfz24_3
   try clear hfz24_4
   try clear hfz5_0
   try clear hfz5_1
   try clear hfz5_2
   try clear hfz5_3
   try clear hfz5_4
   obtain ⟨kq, x34_10, rfl, HA, HJ10, HO_842001, HO_842003, BK819, BK841, HB⟩ := hcut; cases kq with
   | zero => exact absurd HA.out (by simp [laws_FnExactTrieBits.j0])
   | succ kj10 =>
    have H := HA.out; clear HA
    simp only [laws_FnExactTrieBits.j0] at H
    by_cases c29 : x34_10 = true
    ·subst c29
     have H1 : (some false) = some r := by rw [if_pos rfl] at H; exact H
     clear H; have H := H1; clear H1; obtain rfl := Option.some.inj H
     go_wp2
     go_ret
     exact ⟨by first | rfl | (simp [errW_none, errW_some] <;> rfl) | (simp [*, errW_none, errW_some] <;> rfl), Bq⟩
    ·replace c29 := Bool.eq_false_iff.mpr c29
     subst c29
     have H1 : ((laws_toTrie.f kj10 a0_0 l0_1 a0_2 l0_3 a0_4).bind fun bt844 => ((laws_eqTrie.f kj10 t832 t833 t836 t837 t840 bt844.1 bt844.2.1 bt844.2.2.1 bt844.2.2.2.1 bt844.2.2.2.2).bind fun t853 => (if t853 = true then (some true) else (some false)))) = some r := by rw [if_neg (show ¬ (false = true) by decide)] at H; exact H
     clear H; have H := H1; clear H1; replace H := Option.bind_eq_some_iff.mp H; obtain ⟨⟨t844, t845, t848, t849, t852⟩, A300, H⟩ := H; replace H : ((laws_eqTrie.f kj10 t832 t833 t836 t837 t840 t844 t845 t848 t849 t852).bind fun t853 => (if t853 = true then (some true) else (some false))) = some r := H; have A30 := Aside0.mk A300; clear A300; replace H := Option.bind_eq_some_iff.mp H; obtain ⟨t853, A310, H⟩ := H; replace H : (if t853 = true then (some true) else (some false)) = some r := H; have A31 := Aside0.mk A310; clear A310
     by_cases c32 : t853 = true
     ·subst c32
      have H1 : (some true) = some r := by rw [if_pos rfl] at H; exact H
      clear H; have H := H1; clear H1; obtain rfl := Option.some.inj H
      try go_wp2
      have n0_ := Aside0.mk (Kd.R_drew HO_842001.out); have n1_ := Aside0.mk (Kd.R_drew HO_842003.out); have n2_ := Aside0.mk (blk_drew BK819.out); have n3_ := Aside0.mk (blk_drew BK841.out); have n4_ := Aside0.mk (below_drew1 HB.out); clear HO_842001 HO_842003 BK819 BK841 HB; revert n0_ n1_ n2_ n3_ n4_; intro HO_842001 HO_842003 BK819 BK841 HB; refine start_ (n := 5) (S := fun w' => w'.cell? ⟨gb841, 0, none⟩ = some (.int .i64 t832) ∧ w'.cell? ⟨gb841, 1, none⟩ = some (.slice Ao25 t833.length co25) ∧ w'.cell? ⟨gb841, 2, none⟩ = some (.int .i64 t836) ∧ w'.cell? ⟨gb841, 3, none⟩ = some (.slice Ao26 t837.length co26) ∧ w'.cell? ⟨gb841, 4, none⟩ = some (.string t840) ∧ w'.cell? ⟨gb819, 0, none⟩ = some (.int .i64 a0_0) ∧ w'.cell? ⟨gb819, 1, none⟩ = some (.slice A0_1 l0_1.length c0_1) ∧ w'.cell? ⟨gb819, 2, none⟩ = some (.int .i64 a0_2) ∧ w'.cell? ⟨gb819, 3, none⟩ = some (.slice A0_3 l0_3.length c0_3) ∧ w'.cell? ⟨gb819, 4, none⟩ = some (.string a0_4)) (ds := []) (bA 5 0) (by kernel_rfl) rfl rfl ⟨cz BK841 0, cz BK841 1, cz BK841 2, cz BK841 3, cz BK841 4, cz BK819 0, cz BK819 1, cz BK819 2, cz BK819 3, cz BK819 4⟩ (fun hHeld => ?_); generalize wc.drew = w33 at HO_842001 HO_842003 BK819 BK841 HB hHeld ⊢; refine take_ (i := 0) (N := some 35) (v := ?_) (a' := ?_) (bA 5 1) rfl rfl (by kernel_rfl) (fun _ _ _ h => h) (Or.inl ⟨by rfl, ?_⟩) hHeld ?_ ?_
      rotate_left
      ·rintro w' ⟨s0, s1, s2, s3, s4, s5, s6, s7, s8, s9⟩
       go_simp
       with_reducible rfl
      rotate_left
      ·simp only [Act.put, List.setIfInBounds_toArray, List.set_cons_zero, List.set_cons_succ, i64_w, i32_w]
       rfl
      refine take_ (i := 1) (N := some 36) (v := ?_) (a' := ?_) (bA 5 3) rfl rfl (by kernel_rfl) (fun _ _ _ h => h) (Or.inl ⟨by rfl, ?_⟩) hHeld ?_ ?_
      rotate_left
      ·rintro w' ⟨s0, s1, s2, s3, s4, s5, s6, s7, s8, s9⟩
       go_simp
       with_reducible rfl
      rotate_left
      ·simp only [Act.put, List.setIfInBounds_toArray, List.set_cons_zero, List.set_cons_succ, i64_w, i32_w]
       rfl
      refine one_ (i := 2) (N := some 37) (bA 5 7) rfl rfl (by kernel_rfl) (by decide) (fun K hK => ?_); refine gZ Try.func14 #[.agg #[.int .i64 a0_0, .slice A0_1 l0_1.length c0_1, .int .i64 a0_2, .slice A0_3 l0_3.length c0_3, .string a0_4]] ?_
      with_reducible refine (laws_toTrie.calls kj10 a0_0 _ _ l0_1 a0_2 _ _ l0_3 a0_4 t844 t845 t848 t849 t852 _ ?side1 ?side2 ?side3 ?side4 A30.out).mono ?_
      (case side1 => exact Cz (Kd.C_below HR0_1.out HB.out))
      (case side2 => exact HC0_1.out)
      (case side3 => exact Cz (Kd.C_below HR0_3.out HB.out))
      (case side4 => exact HC0_3.out)
      rintro e w34 ⟨v846, v850, rfl, ho0, ho1, hb⟩; refine ⟨_, rfl, ?_⟩; have n0_ := Aside0.mk (Kd.R_mono (Kd.R_told (Kd.R_told (Kd.R_old (Rz HO_842001.out) hb) (Kd.R_base ho0)) (Kd.R_base ho1)) (fun _ h_ => h_.1)); have n1_ := Aside0.mk (Kd.R_mono (Kd.R_told (Kd.R_told (Kd.R_old (Rz HO_842003.out) hb) (Kd.R_base ho0)) (Kd.R_base ho1)) (fun _ h_ => h_.1)); have n2_ := Rm (Kd.R_new' (Kd.R_new' ho0 (Kd.R_lt (Rz HO_842001.out))) (Kd.R_lt (Rz HO_842003.out))) HB; have n3_ := Rm (Kd.R_new' (Kd.R_new' ho1 (Kd.R_lt (Rz HO_842001.out))) (Kd.R_lt (Rz HO_842003.out))) HB; have n4_ := Kb BK819 hb; have n5_ := Kb BK841 hb; have n6_ := Bc HB hb; clear HO_842001 HO_842003 BK819 BK841 HB; revert n0_ n1_ n2_ n3_ n4_ n5_ n6_; intro HO_842001 HO_842003 HO847 HO851 BK819 BK841 HB
      (try clear hb)
      (try clear hb2)
      (try clear hk)
      (try clear hi)
      (try clear ho0)
      (try clear ho1)
      obtain ⟨Ao35, co35, eo35⟩ := Kd.R_slice HO847.out
      (first | subst eo35 | (injection eo35 with f1_ f2_ f3_; have f4_ := f1_.symm; have f5_ := f3_.symm; clear f1_ f2_ f3_; subst f4_; subst f5_))
      obtain ⟨Ao36, co36, eo36⟩ := Kd.R_slice HO851.out
      (first | subst eo36 | (injection eo36 with f1_ f2_ f3_; have f4_ := f1_.symm; have f5_ := f3_.symm; clear f1_ f2_ f3_; subst f4_; subst f5_))
      refine hK.out _ _ ⟨cz BK841 0, cz BK841 1, cz BK841 2, cz BK841 3, cz BK841 4, cz BK819 0, cz BK819 1, cz BK819 2, cz BK819 3, cz BK819 4⟩ (fun hHeld => ?_); clear hK K; refine norm_ (a' := ?_) ?_ ?_
      rotate_left
      ·show Act.put _ (some 37) _ = _
       simp only [Act.put, List.setIfInBounds_toArray, List.set_cons_zero, List.set_cons_succ, i64_w, i32_w]
       rfl
      refine one_ (i := 3) (N := some 38) (bA 5 15) rfl rfl (by kernel_rfl) (by decide) (fun K hK => ?_); refine gZ Try.func16 #[.agg #[.int .i64 t832, .slice Ao25 t833.length co25, .int .i64 t836, .slice Ao26 t837.length co26, .string t840], .agg #[.int .i64 t844, .slice Ao35 t845.length co35, .int .i64 t848, .slice Ao36 t849.length co36, .string t852]] ?_
      with_reducible refine (laws_eqTrie.calls kj10 t832 _ _ t833 t836 _ _ t837 t840 t844 _ _ t845 t848 _ _ t849 t852 true _ ?side1 ?side2 ?side3 ?side4 ?side5 ?side6 ?side7 ?side8 A31.out).mono ?_
      (case side1 => exact Cz ((Kd.R_reads' HO_842001.out).2.2))
      (case side2 => exact (Kd.R_reads' HO_842001.out).2.1)
      (case side3 => exact Cz ((Kd.R_reads' HO_842003.out).2.2))
      (case side4 => exact (Kd.R_reads' HO_842003.out).2.1)
      (case side5 => exact Cz ((Kd.R_reads' HO847.out).2.2))
      (case side6 => exact (Kd.R_reads' HO847.out).2.1)
      (case side7 => exact Cz ((Kd.R_reads' HO851.out).2.2))
      (case side8 => exact (Kd.R_reads' HO851.out).2.1)
      rintro e w37 ⟨rfl, hb⟩; refine ⟨_, rfl, ?_⟩; have n0_ := Rb HO_842001 hb; have n1_ := Rb HO_842003 hb; have n2_ := Rb HO847 hb; have n3_ := Rb HO851 hb; have n4_ := Kb BK819 hb; have n5_ := Kb BK841 hb; have n6_ := Bc HB hb; clear HO_842001 HO_842003 HO847 HO851 BK819 BK841 HB; revert n0_ n1_ n2_ n3_ n4_ n5_ n6_; intro HO_842001 HO_842003 HO847 HO851 BK819 BK841 HB
      (try clear hb)
      (try clear hb2)
      (try clear hk)
      (try clear hi)
      refine hK.out _ _ ⟨cz BK841 0, cz BK841 1, cz BK841 2, cz BK841 3, cz BK841 4, cz BK819 0, cz BK819 1, cz BK819 2, cz BK819 3, cz BK819 4⟩ (fun hHeld => ?_); clear hK K; refine norm_ (a' := ?_) ?_ ?_
      rotate_left
      ·show Act.put _ (some 38) _ = _
       simp only [Act.put, List.setIfInBounds_toArray, List.set_cons_zero, List.set_cons_succ, i64_w, i32_w]
       rfl
      refine pure_ (i := 4) (N := some 39) (v := ?_) (a' := ?_) (bA 5 31) rfl rfl (by kernel_rfl) (fun _ _ _ h => h) (Or.inl ⟨by rfl, ?_⟩) ?_ ?_
      rotate_left
      ·intro w'
       go_simp
       with_reducible rfl
      rotate_left
      ·simp only [Act.put, List.setIfInBounds_toArray, List.set_cons_zero, List.set_cons_succ, i64_w, i32_w]
       rfl
      refine done_ (by kernel_rfl) ?_
      try go_wp2
      go_ret
      exact ⟨by first | rfl | (simp [errW_none, errW_some] <;> rfl) | (simp [*, errW_none, errW_some] <;> rfl), Bq⟩
     ·replace c32 := Bool.eq_false_iff.mpr c32
      subst c32
      have H1 : (some false) = some r := by rw [if_neg (show ¬ (false = true) by decide)] at H; exact H
      clear H; have H := H1; clear H1; obtain rfl := Option.some.inj H
      try go_wp2
      have n0_ := Aside0.mk (Kd.R_drew HO_842001.out); have n1_ := Aside0.mk (Kd.R_drew HO_842003.out); have n2_ := Aside0.mk (blk_drew BK819.out); have n3_ := Aside0.mk (blk_drew BK841.out); have n4_ := Aside0.mk (below_drew1 HB.out); clear HO_842001 HO_842003 BK819 BK841 HB; revert n0_ n1_ n2_ n3_ n4_; intro HO_842001 HO_842003 BK819 BK841 HB; refine start_ (n := 5) (S := fun w' => w'.cell? ⟨gb841, 0, none⟩ = some (.int .i64 t832) ∧ w'.cell? ⟨gb841, 1, none⟩ = some (.slice Ao25 t833.length co25) ∧ w'.cell? ⟨gb841, 2, none⟩ = some (.int .i64 t836) ∧ w'.cell? ⟨gb841, 3, none⟩ = some (.slice Ao26 t837.length co26) ∧ w'.cell? ⟨gb841, 4, none⟩ = some (.string t840) ∧ w'.cell? ⟨gb819, 0, none⟩ = some (.int .i64 a0_0) ∧ w'.cell? ⟨gb819, 1, none⟩ = some (.slice A0_1 l0_1.length c0_1) ∧ w'.cell? ⟨gb819, 2, none⟩ = some (.int .i64 a0_2) ∧ w'.cell? ⟨gb819, 3, none⟩ = some (.slice A0_3 l0_3.length c0_3) ∧ w'.cell? ⟨gb819, 4, none⟩ = some (.string a0_4)) (ds := []) (bA 5 0) (by kernel_rfl) rfl rfl ⟨cz BK841 0, cz BK841 1, cz BK841 2, cz BK841 3, cz BK841 4, cz BK819 0, cz BK819 1, cz BK819 2, cz BK819 3, cz BK819 4⟩ (fun hHeld => ?_); generalize wc.drew = w38 at HO_842001 HO_842003 BK819 BK841 HB hHeld ⊢; refine take_ (i := 0) (N := some 35) (v := ?_) (a' := ?_) (bA 5 1) rfl rfl (by kernel_rfl) (fun _ _ _ h => h) (Or.inl ⟨by rfl, ?_⟩) hHeld ?_ ?_
      rotate_left
      ·rintro w' ⟨s0, s1, s2, s3, s4, s5, s6, s7, s8, s9⟩
       go_simp
       with_reducible rfl
      rotate_left
      ·simp only [Act.put, List.setIfInBounds_toArray, List.set_cons_zero, List.set_cons_succ, i64_w, i32_w]
       rfl
      refine take_ (i := 1) (N := some 36) (v := ?_) (a' := ?_) (bA 5 3) rfl rfl (by kernel_rfl) (fun _ _ _ h => h) (Or.inl ⟨by rfl, ?_⟩) hHeld ?_ ?_
      rotate_left
      ·rintro w' ⟨s0, s1, s2, s3, s4, s5, s6, s7, s8, s9⟩
       go_simp
       with_reducible rfl
      rotate_left
      ·simp only [Act.put, List.setIfInBounds_toArray, List.set_cons_zero, List.set_cons_succ, i64_w, i32_w]
       rfl
      refine one_ (i := 2) (N := some 37) (bA 5 7) rfl rfl (by kernel_rfl) (by decide) (fun K hK => ?_); refine gZ Try.func14 #[.agg #[.int .i64 a0_0, .slice A0_1 l0_1.length c0_1, .int .i64 a0_2, .slice A0_3 l0_3.length c0_3, .string a0_4]] ?_
      with_reducible refine (laws_toTrie.calls kj10 a0_0 _ _ l0_1 a0_2 _ _ l0_3 a0_4 t844 t845 t848 t849 t852 _ ?side1 ?side2 ?side3 ?side4 A30.out).mono ?_
      (case side1 => exact Cz (Kd.C_below HR0_1.out HB.out))
      (case side2 => exact HC0_1.out)
      (case side3 => exact Cz (Kd.C_below HR0_3.out HB.out))
      (case side4 => exact HC0_3.out)
      rintro e w39 ⟨v846, v850, rfl, ho0, ho1, hb⟩; refine ⟨_, rfl, ?_⟩; have n0_ := Aside0.mk (Kd.R_mono (Kd.R_told (Kd.R_told (Kd.R_old (Rz HO_842001.out) hb) (Kd.R_base ho0)) (Kd.R_base ho1)) (fun _ h_ => h_.1)); have n1_ := Aside0.mk (Kd.R_mono (Kd.R_told (Kd.R_told (Kd.R_old (Rz HO_842003.out) hb) (Kd.R_base ho0)) (Kd.R_base ho1)) (fun _ h_ => h_.1)); have n2_ := Rm (Kd.R_new' (Kd.R_new' ho0 (Kd.R_lt (Rz HO_842001.out))) (Kd.R_lt (Rz HO_842003.out))) HB; have n3_ := Rm (Kd.R_new' (Kd.R_new' ho1 (Kd.R_lt (Rz HO_842001.out))) (Kd.R_lt (Rz HO_842003.out))) HB; have n4_ := Kb BK819 hb; have n5_ := Kb BK841 hb; have n6_ := Bc HB hb; clear HO_842001 HO_842003 BK819 BK841 HB; revert n0_ n1_ n2_ n3_ n4_ n5_ n6_; intro HO_842001 HO_842003 HO847 HO851 BK819 BK841 HB
      (try clear hb)
      (try clear hb2)
      (try clear hk)
      (try clear hi)
      (try clear ho0)
      (try clear ho1)
      obtain ⟨Ao40, co40, eo40⟩ := Kd.R_slice HO847.out
      (first | subst eo40 | (injection eo40 with f1_ f2_ f3_; have f4_ := f1_.symm; have f5_ := f3_.symm; clear f1_ f2_ f3_; subst f4_; subst f5_))
      obtain ⟨Ao41, co41, eo41⟩ := Kd.R_slice HO851.out
      (first | subst eo41 | (injection eo41 with f1_ f2_ f3_; have f4_ := f1_.symm; have f5_ := f3_.symm; clear f1_ f2_ f3_; subst f4_; subst f5_))
      refine hK.out _ _ ⟨cz BK841 0, cz BK841 1, cz BK841 2, cz BK841 3, cz BK841 4, cz BK819 0, cz BK819 1, cz BK819 2, cz BK819 3, cz BK819 4⟩ (fun hHeld => ?_); clear hK K; refine norm_ (a' := ?_) ?_ ?_
      rotate_left
      ·show Act.put _ (some 37) _ = _
       simp only [Act.put, List.setIfInBounds_toArray, List.set_cons_zero, List.set_cons_succ, i64_w, i32_w]
       rfl
      refine one_ (i := 3) (N := some 38) (bA 5 15) rfl rfl (by kernel_rfl) (by decide) (fun K hK => ?_); refine gZ Try.func16 #[.agg #[.int .i64 t832, .slice Ao25 t833.length co25, .int .i64 t836, .slice Ao26 t837.length co26, .string t840], .agg #[.int .i64 t844, .slice Ao40 t845.length co40, .int .i64 t848, .slice Ao41 t849.length co41, .string t852]] ?_
      with_reducible refine (laws_eqTrie.calls kj10 t832 _ _ t833 t836 _ _ t837 t840 t844 _ _ t845 t848 _ _ t849 t852 false _ ?side1 ?side2 ?side3 ?side4 ?side5 ?side6 ?side7 ?side8 A31.out).mono ?_
      (case side1 => exact Cz ((Kd.R_reads' HO_842001.out).2.2))
      (case side2 => exact (Kd.R_reads' HO_842001.out).2.1)
      (case side3 => exact Cz ((Kd.R_reads' HO_842003.out).2.2))
      (case side4 => exact (Kd.R_reads' HO_842003.out).2.1)
      (case side5 => exact Cz ((Kd.R_reads' HO847.out).2.2))
      (case side6 => exact (Kd.R_reads' HO847.out).2.1)
      (case side7 => exact Cz ((Kd.R_reads' HO851.out).2.2))
      (case side8 => exact (Kd.R_reads' HO851.out).2.1)
      rintro e w42 ⟨rfl, hb⟩; refine ⟨_, rfl, ?_⟩; have n0_ := Rb HO_842001 hb; have n1_ := Rb HO_842003 hb; have n2_ := Rb HO847 hb; have n3_ := Rb HO851 hb; have n4_ := Kb BK819 hb; have n5_ := Kb BK841 hb; have n6_ := Bc HB hb; clear HO_842001 HO_842003 HO847 HO851 BK819 BK841 HB; revert n0_ n1_ n2_ n3_ n4_ n5_ n6_; intro HO_842001 HO_842003 HO847 HO851 BK819 BK841 HB
      (try clear hb)
      (try clear hb2)
      (try clear hk)
      (try clear hi)
      refine hK.out _ _ ⟨cz BK841 0, cz BK841 1, cz BK841 2, cz BK841 3, cz BK841 4, cz BK819 0, cz BK819 1, cz BK819 2, cz BK819 3, cz BK819 4⟩ (fun hHeld => ?_); clear hK K; refine norm_ (a' := ?_) ?_ ?_
      rotate_left
      ·show Act.put _ (some 38) _ = _
       simp only [Act.put, List.setIfInBounds_toArray, List.set_cons_zero, List.set_cons_succ, i64_w, i32_w]
       rfl
      refine pure_ (i := 4) (N := some 39) (v := ?_) (a' := ?_) (bA 5 31) rfl rfl (by kernel_rfl) (fun _ _ _ h => h) (Or.inl ⟨by rfl, ?_⟩) ?_ ?_
      rotate_left
      ·intro w'
       go_simp
       with_reducible rfl
      rotate_left
      ·simp only [Act.put, List.setIfInBounds_toArray, List.set_cons_zero, List.set_cons_succ, i64_w, i32_w]
       rfl
      refine done_ (by kernel_rfl) ?_
      try go_wp2
      go_ret
      exact ⟨by first | rfl | (simp [errW_none, errW_some] <;> rfl) | (simp [*, errW_none, errW_some] <;> rfl), Bq⟩

def laws_FnExactTrieBits.Pure : Prop := ∀ (a0_0 : Int) (l0_1 : List Int) (a0_2 : Int) (l0_3 : List Int) (a0_4 : ByteArray), (Lit.int .i64 a0_0).wf = true → l0_1.length ≤ maxLen → (∀ x ∈ l0_1, (Lit.int .i64 x).wf = true) → (Lit.int .i64 a0_2).wf = true → l0_3.length ≤ maxLen → (∀ x ∈ l0_3, (Lit.int .i64 x).wf = true) → a0_4.size ≤ maxLen → ∃ k, laws_FnExactTrieBits.f k a0_0 l0_1 a0_2 l0_3 a0_4 = some true
theorem laws_FnExactTrieBits.walk (P : laws_FnExactTrieBits.Pure) (a0_0 : Int) (A0_1 : Option Addr) (c0_1 : Nat) (l0_1 : List Int) (a0_2 : Int) (A0_3 : Option Addr) (c0_3 : Nat) (l0_3 : List Int) (a0_4 : ByteArray) (w : World) (hw0_0 : (Lit.int .i64 a0_0).wf = true) (hr0_1 : Kd.C (Kd.int .i64) w A0_1 l0_1.length l0_1) (hc0_1 : l0_1.length ≤ c0_1) (hm0_1 : l0_1.length ≤ maxLen) (hw0_1 : ∀ x ∈ l0_1, (Lit.int .i64 x).wf = true) (hw0_2 : (Lit.int .i64 a0_2).wf = true) (hr0_3 : Kd.C (Kd.int .i64) w A0_3 l0_3.length l0_3) (hc0_3 : l0_3.length ≤ c0_3) (hm0_3 : l0_3.length ≤ maxLen) (hw0_3 : ∀ x ∈ l0_3, (Lit.int .i64 x).wf = true) (hw0_4 : a0_4.size ≤ maxLen) :
  Calls Try.prog 9 #[.agg #[.int .i64 a0_0, .slice A0_1 l0_1.length c0_1, .int .i64 a0_2, .slice A0_3 l0_3.length c0_3, .string a0_4]] w fun e w' => e = .returned (.bool true) ∧ Below w.heap.size w w' := by
 obtain ⟨k, h⟩ := P a0_0 l0_1 a0_2 l0_3 a0_4 hw0_0 hm0_1 hw0_1 hw0_2 hm0_3 hw0_3 hw0_4; refine (laws_FnExactTrieBits.calls k a0_0 A0_1 c0_1 l0_1 a0_2 A0_3 c0_3 l0_3 a0_4 true w hr0_1 hc0_1 hr0_3 hc0_3 h).mono ?_; rintro e w' ⟨rfl, hd⟩; exact ⟨rfl, hd⟩

end Go.Proofs.Ytalfkfddpamnjaa.PA
namespace Go.Proofs.Ytalfkfddpamnjaa.Pure
open Go Go.RowKit Go.Proofs.YtalfkfddpamnjaaW.PrintWords Go.Proofs.YtalfkfddpamnjaaW.PrintMore Go.Proofs.YtalfkfddpamnjaaGp Go.Proofs.Ytalfkfddpamnjaa.PA Go.Proofs.YtalfkfddpamnjaaQ

theorem FnExactTrieBits : laws_FnExactTrieBits.Pure := by
  intro nB lB nE lE lab hnB hlB hwB hnE hlE hwE hlab
  refine Ev.rounds (r := true) ?_
  unfold laws_FnExactTrieBits.f
  obtain ⟨v, ev, hv⟩ := szTrie_f nB lB nE lE lab hlB hlE hlab
  rw [ev]
  refine ev_bind _ (Ev.now _) ?_
  by_cases c : v < 0
  · exact ev_pos c (Ev.now _)
  obtain ⟨hB, hE, hL⟩ := hv c
  have hT := toTrie_f nB lB nE lE lab hB hE
  have hK := kept_f nB lB nE lE lab hB hE
  refine ev_neg c (ev_bind _ hT ?_)
  have both : ∃ r, Ev (fun k => spec_TrieBits.f k nB lB nE lE lab) r ∧ Ev (fun k => impl_TrieBits.f k nB lB nE lE lab) r := by
    rcases trie_both nB lB nE lE lab hB hE with ⟨K, Y⟩ | ⟨KS, Y⟩
    · have hS : Ev (fun k => spec_IsTrie.f k nB lB nE lE lab) true := by
        unfold spec_IsTrie.f
        exact ev_bind _ Y.sK (Ev.now _)
      have hI : Ev (fun k => impl_IsTrie.f k nB lB nE lE lab) true := by
        unfold impl_IsTrie.f
        have := (nodes_len Y.keys).1
        exact ev_bind _ Y.iN (ev_neg (by omega) (Ev.now _))
      refine ⟨(wrap64 ((wrap64 (nB + nE)) + (wrap64 (7 * (lab.size : Int)))), true), ?_, ?_⟩
      · unfold spec_TrieBits.f
        exact ev_bind _ hS (ev_pos rfl (Ev.now _))
      · unfold impl_TrieBits.f
        exact ev_bind _ hI (ev_pos rfl (Ev.now _))
    · have hS : Ev (fun k => spec_IsTrie.f k nB lB nE lE lab) false := by
        unfold spec_IsTrie.f
        exact ev_bind _ Y.sK (Ev.now _)
      have hI : Ev (fun k => impl_IsTrie.f k nB lB nE lE lab) false := by
        unfold impl_IsTrie.f
        exact ev_bind _ Y.iN (ev_pos rfl (Ev.now _))
      refine ⟨(0, false), ?_, ?_⟩
      · unfold spec_TrieBits.f
        exact ev_bind _ hS (ev_neg (by simp) (Ev.now _))
      · unfold impl_TrieBits.f
        exact ev_bind _ hI (ev_neg (by simp) (Ev.now _))
  obtain ⟨r, hS, hI⟩ := both
  refine ev_bind _ hS (ev_bind _ hT (ev_bind _ hI (ev_pos rfl (ev_succ ?_))))
  simp only [laws_FnExactTrieBits.j0]
  exact ev_neg (by simp) hK
end Go.Proofs.Ytalfkfddpamnjaa.Pure
