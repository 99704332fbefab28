import Derived.Test.YtalfkfddpamnjaaCA2
import Derived.Test.YtalfkfddpamnjaaCA4
import Derived.Test.YtalfkfddpamnjaaCA6
import Derived.Test.YtalfkfddpamnjaaCA8
import Derived.Test.YtalfkfddpamnjaaCA9
import Derived.Test.YtalfkfddpamnjaaCA10
-- printed by a program of this session (wip/gp) out of the translation; Lean checks it
namespace Go.Proofs.Ytalfkfddpamnjaa.PA
open Go.RowKit Go.Proofs.YtalfkfddpamnjaaW.PrintWords Go.Proofs.YtalfkfddpamnjaaW.PrintLast Go.Proofs.YtalfkfddpamnjaaW.PrintMore Go.Proofs.YtalfkfddpamnjaaSq
attribute [local go_sem] max2_int min2_int max_two min_two max_three min_three max_four min_four   -- for this text's walks alone
attribute [local go_sem] Go.Proofs.YtalfkfddpamnjaaGp.str_geq Go.Proofs.YtalfkfddpamnjaaGp.str_gtr Go.Proofs.YtalfkfddpamnjaaGp.str_leq
set_option linter.unusedVariables false
set_option linter.unusedSimpArgs false

def spec_NodesOf.f (k : Nat) (a0_0 : Int) (l0_1 : List Int) (a0_2 : Int) (l0_3 : List Int) (a0_4 : ByteArray) : Option (Int × Bool) := (spec_trOk.f k a0_0 l0_1 a0_2 l0_3 a0_4).bind fun bt772 => (some ((bt772.1.length : Int), bt772.2))
theorem spec_NodesOf.mono : ∀ a0 a1 a2 a3 a4 k, LeO (spec_NodesOf.f k a0 a1 a2 a3 a4) (spec_NodesOf.f (k + 1) a0 a1 a2 a3 a4) := by
 intro a0 a1 a2 a3 a4 k
 unfold spec_NodesOf.f
 repeat' first | (with_reducible first | exact spec_trOk.mono _ _ _ _ _ _ | exact LeO.refl _ | exact LeO.none _ | refine LeO.ite ?_ ?_ | refine LeO.bind ?_ (fun _ => ?_)) | exact LeO.none _ | refine LeO.ite ?_ ?_ | refine LeO.bind ?_ (fun _ => ?_)
set_option maxHeartbeats 8000000 in
set_option maxRecDepth 100000 in
theorem spec_NodesOf.calls (k : Nat) (a0_0 : Int) (A0_1 : Option Addr) (c0_1 : Nat) (l0_1 : List Int) (a0_2 : Int) (A0_3 : Option Addr) (c0_3 : Nat) (l0_3 : List Int) (a0_4 : ByteArray) (r1 : Int) (r2 : Bool) (w : World) (hr0_1 : Kd.C (Kd.int .i64) w A0_1 l0_1.length l0_1) (hc0_1 : l0_1.length ≤ c0_1) (hr0_3 : Kd.C (Kd.int .i64) w A0_3 l0_3.length l0_3) (hc0_3 : l0_3.length ≤ c0_3) (h : spec_NodesOf.f k a0_0 l0_1 a0_2 l0_3 a0_4 = some (r1, r2)) :
  Calls Try.prog 31 #[.agg #[.int .i64 a0_0, .slice A0_1 l0_1.length c0_1, .int .i64 a0_2, .slice A0_3 l0_3.length c0_3, .string a0_4]] w fun e w' => e = .returned (.tuple #[.int .i64 r1, .bool r2]) ∧ Below w.heap.size w w' := by
 have hu32 := Try.underlying32; have HR0_1 := Aside0.mk hr0_1; have HC0_1 := Aside0.mk hc0_1; clear hr0_1 hc0_1; have HR0_3 := Aside0.mk hr0_3; have HC0_3 := Aside0.mk hc0_3; clear hr0_3 hc0_3; have HB := Aside0.mk (Below.refl w.heap.size w); have H : ((spec_trOk.f k a0_0 l0_1 a0_2 l0_3 a0_4).bind fun bt772 => (some ((bt772.1.length : Int), bt772.2))) = some (r1, r2) := h; clear h; replace H := Option.bind_eq_some_iff.mp H; obtain ⟨⟨t772, t775⟩, A20, H⟩ := H; replace H : (some ((t772.length : Int), t775)) = some (r1, r2) := H; have A2 := Aside0.mk A20; clear A20
 simp only [Option.some.injEq, Prod.mk.injEq] at H
 obtain ⟨rfl, rfl⟩ := H
 go_enter Try.func31, Try.ntmps31
 go_wp2_with (first | ((with_reducible refine gate_dst (N := 1) rfl ?_); refine bE 1 #[.int .i64 a0_0, .slice A0_1 l0_1.length c0_1, .int .i64 a0_2, .slice A0_3 l0_3.length c0_3, .string a0_4] 32 ?_; intro gb771 hg w3 hbox hb; have n0_ := Bb HB hb; have n1_ := Aside0.mk (hbox); have n2_ := Gl HB hg; have n3_ := Gl HB hg; clear HB; revert n0_ n1_ n2_ n3_; intro HB BK771 GW771 GE771; clear hb hbox hg; obtain ⟨hcz4_0, hcz4_1, hcz4_2, hcz4_3, hcz4_4, hfz4_0, hfz4_1, hfz4_2, hfz4_3, hfz4_4⟩ := cf5 (w := w3) BK771) | ((with_reducible refine gate_callee (f := 51) rfl ?_); refine gL (some 8) Try.func51 #[.agg #[.int .i64 a0_0, .slice A0_1 l0_1.length c0_1, .int .i64 a0_2, .slice A0_3 l0_3.length c0_3, .string a0_4]] ?_; (with_reducible refine (spec_trOk.calls k a0_0 _ _ l0_1 a0_2 _ _ l0_3 a0_4 t772 t775 _ ?side1 ?side2 ?side3 ?side4 A2.out).mono ?_); (case side1 => exact Cz (Kd.C_below HR0_1.out HB.out)); (case side2 => exact HC0_1.out); (case side3 => exact Cz (Kd.C_below HR0_3.out HB.out)); (case side4 => exact HC0_3.out); rintro e w5 ⟨v773, rfl, ho0, hb⟩; refine ⟨_, rfl, ?_⟩; have n0_ := Rm ho0 HB; have n1_ := Kb BK771 hb; have n2_ := Bc HB hb; clear BK771 HB; revert n0_ n1_ n2_; intro HO774 BK771 HB; (try clear hb); (try clear hb2); (try clear hk); (try clear hi); (try clear ho0); obtain ⟨Ao6, co6, eo6⟩ := Kd.R_slice HO774.out; subst eo6))
 go_ret2
 exact ⟨by first | rfl | (simp [errW_none, errW_some] <;> rfl) | (simp [*, errW_none, errW_some] <;> rfl), Bq⟩

def impl_NodesOf.f (k : Nat) (a0_0 : Int) (l0_1 : List Int) (a0_2 : Int) (l0_3 : List Int) (a0_4 : ByteArray) : Option (Int × Bool) := (impl_Trie_nodes.f k a0_0 l0_1 a0_2 l0_3 a0_4).bind fun t777 => (if (t777.length : Int) = 0 then (some ((t777.length : Int), false)) else (some ((t777.length : Int), true)))
theorem impl_NodesOf.mono : ∀ a0 a1 a2 a3 a4 k, LeO (impl_NodesOf.f k a0 a1 a2 a3 a4) (impl_NodesOf.f (k + 1) a0 a1 a2 a3 a4) := by
 intro a0 a1 a2 a3 a4 k
 unfold impl_NodesOf.f
 repeat' first | (with_reducible first | exact impl_Trie_nodes.mono _ _ _ _ _ _ | exact LeO.refl _ | exact LeO.none _ | refine LeO.ite ?_ ?_ | refine LeO.bind ?_ (fun _ => ?_)) | exact LeO.none _ | refine LeO.ite ?_ ?_ | refine LeO.bind ?_ (fun _ => ?_)
set_option maxHeartbeats 8000000 in
set_option maxRecDepth 100000 in
theorem impl_NodesOf.calls (k : Nat) (a0_0 : Int) (A0_1 : Option Addr) (c0_1 : Nat) (l0_1 : List Int) (a0_2 : Int) (A0_3 : Option Addr) (c0_3 : Nat) (l0_3 : List Int) (a0_4 : ByteArray) (r1 : Int) (r2 : Bool) (w : World) (hr0_1 : Kd.C (Kd.int .i64) w A0_1 l0_1.length l0_1) (hc0_1 : l0_1.length ≤ c0_1) (hr0_3 : Kd.C (Kd.int .i64) w A0_3 l0_3.length l0_3) (hc0_3 : l0_3.length ≤ c0_3) (h : impl_NodesOf.f k a0_0 l0_1 a0_2 l0_3 a0_4 = some (r1, r2)) :
  Calls Try.prog 32 #[.agg #[.int .i64 a0_0, .slice A0_1 l0_1.length c0_1, .int .i64 a0_2, .slice A0_3 l0_3.length c0_3, .string a0_4]] w fun e w' => e = .returned (.tuple #[.int .i64 r1, .bool r2]) ∧ Below w.heap.size w w' := by
 have hu32 := Try.underlying32; have HR0_1 := Aside0.mk hr0_1; have HC0_1 := Aside0.mk hc0_1; clear hr0_1 hc0_1; have HR0_3 := Aside0.mk hr0_3; have HC0_3 := Aside0.mk hc0_3; clear hr0_3 hc0_3; have HB := Aside0.mk (Below.refl w.heap.size w); have H : ((impl_Trie_nodes.f k a0_0 l0_1 a0_2 l0_3 a0_4).bind fun t777 => (if (t777.length : Int) = 0 then (some ((t777.length : Int), false)) else (some ((t777.length : Int), true)))) = some (r1, r2) := h; clear h; replace H := Option.bind_eq_some_iff.mp H; obtain ⟨t777, A20, H⟩ := H; replace H : (if (t777.length : Int) = 0 then (some ((t777.length : Int), false)) else (some ((t777.length : Int), true))) = some (r1, r2) := H; have A2 := Aside0.mk A20; clear A20
 by_cases c3 : (t777.length : Int) = 0
 ·rw [if_pos c3] at H
  have c3b0 : ((t777.length : Int) == 0) = true := beq_iff_eq.mpr c3; have c3b1 : ((t777.length : Int) != 0) = false := bne_eq_false_iff_eq.mpr c3; clear c3
  simp only [Option.some.injEq, Prod.mk.injEq] at H
  obtain ⟨rfl, rfl⟩ := H
  go_enter Try.func32, Try.ntmps32
  go_wp2_with (first | ((with_reducible refine gate_dst (N := 1) rfl ?_); refine bE 1 #[.int .i64 a0_0, .slice A0_1 l0_1.length c0_1, .int .i64 a0_2, .slice A0_3 l0_3.length c0_3, .string a0_4] 32 ?_; intro gb776 hg w4 hbox hb; have n0_ := Bb HB hb; have n1_ := Aside0.mk (hbox); have n2_ := Gl HB hg; have n3_ := Gl HB hg; clear HB; revert n0_ n1_ n2_ n3_; intro HB BK776 GW776 GE776; clear hb hbox hg) | ((with_reducible refine gate_callee (f := 48) rfl ?_); refine gL (some 5) Try.func48 #[.pointer (some ⟨gb776, 0, none⟩)] ?_; (with_reducible refine (impl_Trie_nodes.calls k gb776 a0_0 A0_1 c0_1 l0_1 a0_2 A0_3 c0_3 l0_3 a0_4 t777 _ ?side1 ?side2 ?side3 ?side4 ?side5 A2.out).mono ?_); (case side1 => (with_reducible repeat (first | refine blk_drewN ?_ _ | refine blk_drew ?_ | refine blk_alloc ?_ _)); exact BK776.out); (case side2 => exact Cz (Kd.C_below HR0_1.out HB.out)); (case side3 => exact HC0_1.out); (case side4 => exact Cz (Kd.C_below HR0_3.out HB.out)); (case side5 => exact HC0_3.out); rintro e w5 ⟨⟨v778, rfl, ho0, hb⟩, hnil_v778⟩; refine ⟨_, rfl, ?_⟩; have n0_ := Rm ho0 HB; have n1_ := Kb BK776 hb; have n2_ := Bc HB hb; clear BK776 HB; revert n0_ n1_ n2_; intro HO779 BK776 HB; (try clear hb); (try clear hb2); (try clear hk); (try clear hi); (try clear ho0); obtain ⟨Ao6, co6, eo6⟩ := Kd.R_slice HO779.out; subst eo6; have eno7 : (.slice Ao6 t777.length co6 : Value) = .slice none 0 0 := Ending.returned.inj (hnil_v778 (List.length_eq_zero_iff.1 (by have h_ : ((t777.length : Int) : Int) = 0 := eq_of_beq (by first | (with_reducible assumption) | assumption); omega))); injection eno7 with e1_ e2_ e3_; subst e1_; subst e3_; clear e2_; have qo7 : ∀ (w_ : World) (n_ c_ : Nat), (binOp .neq 38 (.slice none n_ c_) (.slice none 0 0)).run Try.prog w_ = .ok (.bool false) w_ := fun w_ _ _ => (Go.Proofs.YtalfkfddpamnjaaGp.run_neq_nil_ w_ 38 _ _ _ _ Try.underlying38).trans rfl))
  go_ret2
  exact ⟨by first | rfl | (simp [errW_none, errW_some] <;> rfl) | (simp [*, errW_none, errW_some] <;> rfl), Bq⟩
 ·rw [if_neg c3] at H
  have c3b0 : ((t777.length : Int) == 0) = false := beq_eq_false_iff_ne.mpr c3; have c3b1 : ((t777.length : Int) != 0) = true := bne_iff_ne.mpr c3
  have c3b2 : ¬ (t777 = []) := fun h_ => c3 (by rw [h_]; rfl)
  simp only [Option.some.injEq, Prod.mk.injEq] at H
  obtain ⟨rfl, rfl⟩ := H
  go_enter Try.func32, Try.ntmps32
  go_wp2_with (first | ((with_reducible refine gate_dst (N := 1) rfl ?_); refine bE 1 #[.int .i64 a0_0, .slice A0_1 l0_1.length c0_1, .int .i64 a0_2, .slice A0_3 l0_3.length c0_3, .string a0_4] 32 ?_; intro gb776 hg w8 hbox hb; have n0_ := Bb HB hb; have n1_ := Aside0.mk (hbox); have n2_ := Gl HB hg; have n3_ := Gl HB hg; clear HB; revert n0_ n1_ n2_ n3_; intro HB BK776 GW776 GE776; clear hb hbox hg) | ((with_reducible refine gate_callee (f := 48) rfl ?_); refine gL (some 5) Try.func48 #[.pointer (some ⟨gb776, 0, none⟩)] ?_; (with_reducible refine (impl_Trie_nodes.calls k gb776 a0_0 A0_1 c0_1 l0_1 a0_2 A0_3 c0_3 l0_3 a0_4 t777 _ ?side1 ?side2 ?side3 ?side4 ?side5 A2.out).mono ?_); (case side1 => (with_reducible repeat (first | refine blk_drewN ?_ _ | refine blk_drew ?_ | refine blk_alloc ?_ _)); exact BK776.out); (case side2 => exact Cz (Kd.C_below HR0_1.out HB.out)); (case side3 => exact HC0_1.out); (case side4 => exact Cz (Kd.C_below HR0_3.out HB.out)); (case side5 => exact HC0_3.out); rintro e w9 ⟨⟨v778, rfl, ho0, hb⟩, hnil_v778⟩; refine ⟨_, rfl, ?_⟩; have n0_ := Rm ho0 HB; have n1_ := Kb BK776 hb; have n2_ := Bc HB hb; clear BK776 HB; revert n0_ n1_ n2_; intro HO779 BK776 HB; (try clear hb); (try clear hb2); (try clear hk); (try clear hi); (try clear ho0); obtain ⟨Ao10, co10, eo10⟩ := Kd.R_slice HO779.out; subst eo10; obtain ⟨goo11, coo11, eoo11, gbo11, glo11, clo11, HGo11⟩ := Kd.R_form HO779.out (by omega); (first | cases eoo11 | (injection eoo11 with ea_ en_ ec_; (first | subst ea_ | (injection ea_ with ea_; subst ea_)); subst ec_; clear en_)); have GBo11 := Aside0.mk gbo11; have GGo11 := Aside0.mk HGo11; clear gbo11 glo11 HGo11; have qo11 : ∀ (w_ : World) (n_ c_ : Nat), (binOp .neq 38 (.slice (some ⟨goo11, 0, none⟩) n_ c_) (.slice none 0 0)).run Try.prog w_ = .ok (.bool true) w_ := fun w_ _ _ => (Go.Proofs.YtalfkfddpamnjaaGp.run_neq_nil_ w_ 38 _ _ _ _ Try.underlying38).trans rfl))
  go_ret2
  exact ⟨by first | rfl | (simp [errW_none, errW_some] <;> rfl) | (simp [*, errW_none, errW_some] <;> rfl), Bq⟩

def laws_FnExactNodesOf.j0 : Nat → Bool → Int → List Int → Int → List Int → ByteArray → Int → List Int → Int → List Int → ByteArray → Option (Bool)
 | 0, _, _, _, _, _, _, _, _, _, _, _ => none
 | k + 1, x34, x781000, x781001, x781002, x781003, x781004, x803000, x803001, x803002, x803003, x803004 => if x34 = true then (some false) else ((laws_toTrie.f k x781000 x781001 x781002 x781003 x781004).bind fun bt805 => ((laws_eqTrie.f k x803000 x803001 x803002 x803003 x803004 bt805.1 bt805.2.1 bt805.2.2.1 bt805.2.2.2.1 bt805.2.2.2.2).bind fun t814 => (if t814 = true then (some true) else (some false))))
def laws_FnExactNodesOf.f (k : Nat) (a0_0 : Int) (l0_1 : List Int) (a0_2 : Int) (l0_3 : List Int) (a0_4 : ByteArray) : Option (Bool) := (laws_szTrie.f a0_0 l0_1 a0_2 l0_3 a0_4 1048576).bind fun t781 => (if t781 < 0 then (some true) else ((laws_toTrie.f k a0_0 l0_1 a0_2 l0_3 a0_4).bind fun bt782 => ((spec_NodesOf.f k bt782.1 bt782.2.1 bt782.2.2.1 bt782.2.2.2.1 bt782.2.2.2.2).bind fun bt791 => ((laws_toTrie.f k a0_0 l0_1 a0_2 l0_3 a0_4).bind fun bt793 => ((impl_NodesOf.f k bt793.1 bt793.2.1 bt793.2.2.1 bt793.2.2.2.1 bt793.2.2.2.2).bind fun bt803 => (if bt803.1 = bt791.1 then (laws_FnExactNodesOf.j0 k (bt803.2 != bt791.2) a0_0 l0_1 a0_2 l0_3 a0_4 bt793.1 bt793.2.1 bt793.2.2.1 bt793.2.2.2.1 bt793.2.2.2.2) else (laws_FnExactNodesOf.j0 k true a0_0 l0_1 a0_2 l0_3 a0_4 bt793.1 bt793.2.1 bt793.2.2.1 bt793.2.2.2.1 bt793.2.2.2.2)))))))
theorem laws_FnExactNodesOf.mono_l : ∀ k, (∀ y0 y1 y2 y3 y4 y5 y6 y7 y8 y9 y10, LeO (laws_FnExactNodesOf.j0 k y0 y1 y2 y3 y4 y5 y6 y7 y8 y9 y10) (laws_FnExactNodesOf.j0 (k + 1) y0 y1 y2 y3 y4 y5 y6 y7 y8 y9 y10))
 | 0 => fun _ _ _ _ _ _ _ _ _ _ _ r h => by simp [laws_FnExactNodesOf.j0] at h
 | k + 1 => by
  have ih0 := laws_FnExactNodesOf.mono_l k
  ·intro y0 y1 y2 y3 y4 y5 y6 y7 y8 y9 y10
   unfold laws_FnExactNodesOf.j0
   repeat' first | (with_reducible first | exact ih0 _ _ _ _ _ _ _ _ _ _ _ | exact impl_NodesOf.mono _ _ _ _ _ _ | exact laws_eqTrie.mono _ _ _ _ _ _ _ _ _ _ _ | exact laws_toTrie.mono _ _ _ _ _ _ | exact spec_NodesOf.mono _ _ _ _ _ _ | exact LeO.refl _ | exact LeO.none _ | refine LeO.ite ?_ ?_ | refine LeO.bind ?_ (fun _ => ?_)) | exact LeO.none _ | refine LeO.ite ?_ ?_ | refine LeO.bind ?_ (fun _ => ?_)
theorem laws_FnExactNodesOf.mono : ∀ a0 a1 a2 a3 a4 k, LeO (laws_FnExactNodesOf.f k a0 a1 a2 a3 a4) (laws_FnExactNodesOf.f (k + 1) a0 a1 a2 a3 a4) := by
 intro a0 a1 a2 a3 a4 k; have ih0 := laws_FnExactNodesOf.mono_l k
 unfold laws_FnExactNodesOf.f
 repeat' first | (with_reducible first | exact ih0 _ _ _ _ _ _ _ _ _ _ _ | exact impl_NodesOf.mono _ _ _ _ _ _ | exact laws_eqTrie.mono _ _ _ _ _ _ _ _ _ _ _ | exact laws_toTrie.mono _ _ _ _ _ _ | exact spec_NodesOf.mono _ _ _ _ _ _ | exact LeO.refl _ | exact LeO.none _ | refine LeO.ite ?_ ?_ | refine LeO.bind ?_ (fun _ => ?_)) | exact LeO.none _ | refine LeO.ite ?_ ?_ | refine LeO.bind ?_ (fun _ => ?_)
set_option maxHeartbeats 8000000 in
set_option maxRecDepth 100000 in
theorem laws_FnExactNodesOf.calls (k : Nat) (a0_0 : Int) (A0_1 : Option Addr) (c0_1 : Nat) (l0_1 : List Int) (a0_2 : Int) (A0_3 : Option Addr) (c0_3 : Nat) (l0_3 : List Int) (a0_4 : ByteArray) (r : Bool) (w : World) (hr0_1 : Kd.C (Kd.int .i64) w A0_1 l0_1.length l0_1) (hc0_1 : l0_1.length ≤ c0_1) (hr0_3 : Kd.C (Kd.int .i64) w A0_3 l0_3.length l0_3) (hc0_3 : l0_3.length ≤ c0_3) (h : laws_FnExactNodesOf.f k a0_0 l0_1 a0_2 l0_3 a0_4 = some r) :
  Calls Try.prog 8 #[.agg #[.int .i64 a0_0, .slice A0_1 l0_1.length c0_1, .int .i64 a0_2, .slice A0_3 l0_3.length c0_3, .string a0_4]] w fun e w' => e = .returned (.bool r) ∧ Below w.heap.size w w' := by
 have hu26 := Try.underlying26; have hu32 := Try.underlying32; have HR0_1 := Aside0.mk hr0_1; have HC0_1 := Aside0.mk hc0_1; clear hr0_1 hc0_1; have HR0_3 := Aside0.mk hr0_3; have HC0_3 := Aside0.mk hc0_3; clear hr0_3 hc0_3; have HB := Aside0.mk (Below.refl w.heap.size w); have H : ((laws_szTrie.f a0_0 l0_1 a0_2 l0_3 a0_4 1048576).bind fun t781 => (if t781 < 0 then (some true) else ((laws_toTrie.f k a0_0 l0_1 a0_2 l0_3 a0_4).bind fun bt782 => ((spec_NodesOf.f k bt782.1 bt782.2.1 bt782.2.2.1 bt782.2.2.2.1 bt782.2.2.2.2).bind fun bt791 => ((laws_toTrie.f k a0_0 l0_1 a0_2 l0_3 a0_4).bind fun bt793 => ((impl_NodesOf.f k bt793.1 bt793.2.1 bt793.2.2.1 bt793.2.2.2.1 bt793.2.2.2.2).bind fun bt803 => (if bt803.1 = bt791.1 then (laws_FnExactNodesOf.j0 k (bt803.2 != bt791.2) a0_0 l0_1 a0_2 l0_3 a0_4 bt793.1 bt793.2.1 bt793.2.2.1 bt793.2.2.2.1 bt793.2.2.2.2) else (laws_FnExactNodesOf.j0 k true a0_0 l0_1 a0_2 l0_3 a0_4 bt793.1 bt793.2.1 bt793.2.2.1 bt793.2.2.2.1 bt793.2.2.2.2)))))))) = some r := h; clear h; replace H := Option.bind_eq_some_iff.mp H; obtain ⟨t781, A20, H⟩ := H; replace H : (if t781 < 0 then (some true) else ((laws_toTrie.f k a0_0 l0_1 a0_2 l0_3 a0_4).bind fun bt782 => ((spec_NodesOf.f k bt782.1 bt782.2.1 bt782.2.2.1 bt782.2.2.2.1 bt782.2.2.2.2).bind fun bt791 => ((laws_toTrie.f k a0_0 l0_1 a0_2 l0_3 a0_4).bind fun bt793 => ((impl_NodesOf.f k bt793.1 bt793.2.1 bt793.2.2.1 bt793.2.2.2.1 bt793.2.2.2.2).bind fun bt803 => (if bt803.1 = bt791.1 then (laws_FnExactNodesOf.j0 k (bt803.2 != bt791.2) a0_0 l0_1 a0_2 l0_3 a0_4 bt793.1 bt793.2.1 bt793.2.2.1 bt793.2.2.2.1 bt793.2.2.2.2) else (laws_FnExactNodesOf.j0 k true a0_0 l0_1 a0_2 l0_3 a0_4 bt793.1 bt793.2.1 bt793.2.2.1 bt793.2.2.2.1 bt793.2.2.2.2))))))) = some r := H; have A2 := Aside0.mk A20; clear A20
 by_cases c3 : t781 < 0
 ·rw [if_pos c3] at H
  have c3b0 : decide (t781 < 0) = true := decide_eq_true c3; clear c3; obtain rfl := Option.some.inj H
  go_enter Try.func8, Try.ntmps8
  go_wp2_with (first | ((with_reducible refine gate_dst (N := 1) rfl ?_); refine bE 1 #[.int .i64 a0_0, .slice A0_1 l0_1.length c0_1, .int .i64 a0_2, .slice A0_3 l0_3.length c0_3, .string a0_4] 26 ?_; intro gb780 hg w4 hbox hb; have n0_ := Bb HB hb; have n1_ := Aside0.mk (hbox); have n2_ := Gl HB hg; have n3_ := Gl HB hg; clear HB; revert n0_ n1_ n2_ n3_; intro HB BK780 GW780 GE780; clear hb hbox hg; obtain ⟨hcz5_0, hcz5_1, hcz5_2, hcz5_3, hcz5_4, hfz5_0, hfz5_1, hfz5_2, hfz5_3, hfz5_4⟩ := cf5 (w := w4) BK780) | ((with_reducible refine gate_callee (f := 12) rfl ?_); refine gL (some 11) Try.func12 #[.agg #[.int .i64 a0_0, .slice A0_1 l0_1.length c0_1, .int .i64 a0_2, .slice A0_3 l0_3.length c0_3, .string a0_4], .int .i64 1048576] ?_; (with_reducible refine (laws_szTrie.calls a0_0 _ _ l0_1 a0_2 _ _ l0_3 a0_4 1048576 t781 _ ?side1 ?side2 ?side3 ?side4 A2.out).mono ?_); (case side1 => exact Cz (Kd.C_below HR0_1.out HB.out)); (case side2 => exact HC0_1.out); (case side3 => exact Cz (Kd.C_below HR0_3.out HB.out)); (case side4 => exact HC0_3.out); rintro e w6 ⟨rfl, hb⟩; refine ⟨_, rfl, ?_⟩; have n0_ := Kb BK780 hb; have n1_ := Bc HB hb; clear BK780 HB; revert n0_ n1_; intro BK780 HB; (try clear hb); (try clear hb2); (try clear hk); (try clear hi)))
  go_ret
  exact ⟨by first | rfl | (simp [errW_none, errW_some] <;> rfl) | (simp [*, errW_none, errW_some] <;> rfl), Bq⟩
 ·rw [if_neg c3] at H
  have c3b0 : decide (t781 < 0) = false := decide_eq_false c3; clear c3; replace H := Option.bind_eq_some_iff.mp H; obtain ⟨⟨t782, t783, t786, t787, t790⟩, A70, H⟩ := H; replace H : ((spec_NodesOf.f k t782 t783 t786 t787 t790).bind fun bt791 => ((laws_toTrie.f k a0_0 l0_1 a0_2 l0_3 a0_4).bind fun bt793 => ((impl_NodesOf.f k bt793.1 bt793.2.1 bt793.2.2.1 bt793.2.2.2.1 bt793.2.2.2.2).bind fun bt803 => (if bt803.1 = bt791.1 then (laws_FnExactNodesOf.j0 k (bt803.2 != bt791.2) a0_0 l0_1 a0_2 l0_3 a0_4 bt793.1 bt793.2.1 bt793.2.2.1 bt793.2.2.2.1 bt793.2.2.2.2) else (laws_FnExactNodesOf.j0 k true a0_0 l0_1 a0_2 l0_3 a0_4 bt793.1 bt793.2.1 bt793.2.2.1 bt793.2.2.2.1 bt793.2.2.2.2))))) = some r := H; have A7 := Aside0.mk A70; clear A70; replace H := Option.bind_eq_some_iff.mp H; obtain ⟨⟨t791, t792⟩, A80, H⟩ := H; replace H : ((laws_toTrie.f k a0_0 l0_1 a0_2 l0_3 a0_4).bind fun bt793 => ((impl_NodesOf.f k bt793.1 bt793.2.1 bt793.2.2.1 bt793.2.2.2.1 bt793.2.2.2.2).bind fun bt803 => (if bt803.1 = t791 then (laws_FnExactNodesOf.j0 k (bt803.2 != t792) a0_0 l0_1 a0_2 l0_3 a0_4 bt793.1 bt793.2.1 bt793.2.2.1 bt793.2.2.2.1 bt793.2.2.2.2) else (laws_FnExactNodesOf.j0 k true a0_0 l0_1 a0_2 l0_3 a0_4 bt793.1 bt793.2.1 bt793.2.2.1 bt793.2.2.2.1 bt793.2.2.2.2)))) = some r := H; have A8 := Aside0.mk A80; clear A80; replace H := Option.bind_eq_some_iff.mp H; obtain ⟨⟨t793, t794, t797, t798, t801⟩, A90, H⟩ := H; replace H : ((impl_NodesOf.f k t793 t794 t797 t798 t801).bind fun bt803 => (if bt803.1 = t791 then (laws_FnExactNodesOf.j0 k (bt803.2 != t792) a0_0 l0_1 a0_2 l0_3 a0_4 t793 t794 t797 t798 t801) else (laws_FnExactNodesOf.j0 k true a0_0 l0_1 a0_2 l0_3 a0_4 t793 t794 t797 t798 t801))) = some r := H; have A9 := Aside0.mk A90; clear A90; replace H := Option.bind_eq_some_iff.mp H; obtain ⟨⟨t803, t804⟩, A100, H⟩ := H; replace H : (if t803 = t791 then (laws_FnExactNodesOf.j0 k (t804 != t792) a0_0 l0_1 a0_2 l0_3 a0_4 t793 t794 t797 t798 t801) else (laws_FnExactNodesOf.j0 k true a0_0 l0_1 a0_2 l0_3 a0_4 t793 t794 t797 t798 t801)) = some r := H; have A10 := Aside0.mk A100; clear A100; have HC11 := Aside0.mk H; clear H
  go_enter Try.func8, Try.ntmps8
  go_upto_region 8 with (first | ((with_reducible refine gate_dst (N := 1) rfl ?_); refine bE 1 #[.int .i64 a0_0, .slice A0_1 l0_1.length c0_1, .int .i64 a0_2, .slice A0_3 l0_3.length c0_3, .string a0_4] 26 ?_; intro gb780 hg w12 hbox hb; have n0_ := Bb HB hb; have n1_ := Aside0.mk (hbox); have n2_ := Gl HB hg; have n3_ := Gl HB hg; clear HB; revert n0_ n1_ n2_ n3_; intro HB BK780 GW780 GE780; clear hb hbox hg; obtain ⟨hcz13_0, hcz13_1, hcz13_2, hcz13_3, hcz13_4, hfz13_0, hfz13_1, hfz13_2, hfz13_3, hfz13_4⟩ := cf5 (w := w12) BK780) | ((with_reducible refine gate_callee (f := 12) rfl ?_); refine gL (some 11) Try.func12 #[.agg #[.int .i64 a0_0, .slice A0_1 l0_1.length c0_1, .int .i64 a0_2, .slice A0_3 l0_3.length c0_3, .string a0_4], .int .i64 1048576] ?_; (with_reducible refine (laws_szTrie.calls a0_0 _ _ l0_1 a0_2 _ _ l0_3 a0_4 1048576 t781 _ ?side1 ?side2 ?side3 ?side4 A2.out).mono ?_); (case side1 => exact Cz (Kd.C_below HR0_1.out HB.out)); (case side2 => exact HC0_1.out); (case side3 => exact Cz (Kd.C_below HR0_3.out HB.out)); (case side4 => exact HC0_3.out); rintro e w14 ⟨rfl, hb⟩; refine ⟨_, rfl, ?_⟩; have n0_ := Kb BK780 hb; have n1_ := Bc HB hb; clear BK780 HB; revert n0_ n1_; intro BK780 HB; (try clear hb); (try clear hb2); (try clear hk); (try clear hi); obtain ⟨hcz15_0, hcz15_1, hcz15_2, hcz15_3, hcz15_4, hfz15_0, hfz15_1, hfz15_2, hfz15_3, hfz15_4⟩ := cf5 (w := w14) BK780) | ((with_reducible refine gate_callee (f := 14) rfl ?_); refine gL (some 16) Try.func14 #[.agg #[.int .i64 a0_0, .slice A0_1 l0_1.length c0_1, .int .i64 a0_2, .slice A0_3 l0_3.length c0_3, .string a0_4]] ?_; (with_reducible refine (laws_toTrie.calls k a0_0 _ _ l0_1 a0_2 _ _ l0_3 a0_4 t782 t783 t786 t787 t790 _ ?side1 ?side2 ?side3 ?side4 A7.out).mono ?_); (case side1 => exact Cz (Kd.C_below HR0_1.out HB.out)); (case side2 => exact HC0_1.out); (case side3 => exact Cz (Kd.C_below HR0_3.out HB.out)); (case side4 => exact HC0_3.out); rintro e w16 ⟨v784, v788, rfl, ho0, ho1, hb⟩; refine ⟨_, rfl, ?_⟩; have n0_ := Rm ho0 HB; have n1_ := Rm ho1 HB; have n2_ := Kb BK780 hb; have n3_ := Bc HB hb; clear BK780 HB; revert n0_ n1_ n2_ n3_; intro HO785 HO789 BK780 HB; (try clear hb); (try clear hb2); (try clear hk); (try clear hi); (try clear ho0); (try clear ho1); obtain ⟨Ao17, co17, eo17⟩ := Kd.R_slice HO785.out; subst eo17; obtain ⟨Ao18, co18, eo18⟩ := Kd.R_slice HO789.out; subst eo18) | ((with_reducible refine gate_callee (f := 31) rfl ?_); refine gL (some 17) Try.func31 #[.agg #[.int .i64 t782, .slice Ao17 t783.length co17, .int .i64 t786, .slice Ao18 t787.length co18, .string t790]] ?_; (with_reducible refine (spec_NodesOf.calls k t782 _ _ t783 t786 _ _ t787 t790 t791 t792 _ ?side1 ?side2 ?side3 ?side4 A8.out).mono ?_); (case side1 => exact Cz ((Kd.R_reads' HO785.out).2.2)); (case side2 => exact (Kd.R_reads' HO785.out).2.1); (case side3 => exact Cz ((Kd.R_reads' HO789.out).2.2)); (case side4 => exact (Kd.R_reads' HO789.out).2.1); rintro e w19 ⟨rfl, hb⟩; refine ⟨_, rfl, ?_⟩; have n0_ := Rb HO785 hb; have n1_ := Rb HO789 hb; have n2_ := Kb BK780 hb; have n3_ := Bc HB hb; clear HO785 HO789 BK780 HB; revert n0_ n1_ n2_ n3_; intro HO785 HO789 BK780 HB; (try clear hb); (try clear hb2); (try clear hk); (try clear hi); obtain ⟨hcz20_0, hcz20_1, hcz20_2, hcz20_3, hcz20_4, hfz20_0, hfz20_1, hfz20_2, hfz20_3, hfz20_4⟩ := cf5 (w := w19) BK780) | ((with_reducible refine gate_callee (f := 14) rfl ?_); refine gL (some 21) Try.func14 #[.agg #[.int .i64 a0_0, .slice A0_1 l0_1.length c0_1, .int .i64 a0_2, .slice A0_3 l0_3.length c0_3, .string a0_4]] ?_; (with_reducible refine (laws_toTrie.calls k a0_0 _ _ l0_1 a0_2 _ _ l0_3 a0_4 t793 t794 t797 t798 t801 _ ?side1 ?side2 ?side3 ?side4 A9.out).mono ?_); (case side1 => exact Cz (Kd.C_below HR0_1.out HB.out)); (case side2 => exact HC0_1.out); (case side3 => exact Cz (Kd.C_below HR0_3.out HB.out)); (case side4 => exact HC0_3.out); rintro e w21 ⟨v795, v799, rfl, ho0, ho1, hb⟩; refine ⟨_, rfl, ?_⟩; have n0_ := Aside0.mk (Kd.R_mono (Kd.R_told (Kd.R_told (Kd.R_old (Rz HO785.out) hb) (Kd.R_base ho0)) (Kd.R_base ho1)) (fun _ h_ => h_.1)); have n1_ := Aside0.mk (Kd.R_mono (Kd.R_told (Kd.R_told (Kd.R_old (Rz HO789.out) hb) (Kd.R_base ho0)) (Kd.R_base ho1)) (fun _ h_ => h_.1)); have n2_ := Rm (Kd.R_new' (Kd.R_new' ho0 (Kd.R_lt (Rz HO785.out))) (Kd.R_lt (Rz HO789.out))) HB; have n3_ := Rm (Kd.R_new' (Kd.R_new' ho1 (Kd.R_lt (Rz HO785.out))) (Kd.R_lt (Rz HO789.out))) HB; have n4_ := Kb BK780 hb; have n5_ := Bc HB hb; clear HO785 HO789 BK780 HB; revert n0_ n1_ n2_ n3_ n4_ n5_; intro HO785 HO789 HO796 HO800 BK780 HB; (try clear hb); (try clear hb2); (try clear hk); (try clear hi); (try clear ho0); (try clear ho1)) | ((with_reducible refine gate_dst (N := 6) rfl ?_); refine bE 6 #[.int .i64 0, .slice none 0 0, .int .i64 0, .slice none 0 0, .string (⟨#[]⟩ : ByteArray)] 32 ?_; intro gb802 hg w22 hbox hb; have n0_ := Rb HO785 hb; have n1_ := Rb HO789 hb; have n2_ := Rb HO796 hb; have n3_ := Rb HO800 hb; have n4_ := Kb BK780 hb; have n5_ := Bc HB hb; have n6_ := Aside0.mk (hbox); have n7_ := Gm HB hg; have n8_ := Gm HB hg; have n9_ := Nl BK780 hg; have n10_ := Ng BK780 hg; clear HO785 HO789 HO796 HO800 BK780 HB; revert n0_ n1_ n2_ n3_ n4_ n5_ n6_ n7_ n8_ n9_ n10_; intro HO785 HO789 HO796 HO800 BK780 HB BK802 GW802 GE802 NB780_802 NB802_780; clear hb hbox hg; have hnb23 := NB802_780.out; have hnc23 := NB780_802.out; obtain ⟨hcz24_0, hcz24_1, hcz24_2, hcz24_3, hcz24_4, hfz24_0, hfz24_1, hfz24_2, hfz24_3, hfz24_4⟩ := cf5 (w := w22) BK802; obtain ⟨Ao25, co25, eo25⟩ := Kd.R_slice HO796.out; subst eo25; obtain ⟨Ao26, co26, eo26⟩ := Kd.R_slice HO800.out; subst eo26) | ((with_reducible refine gate_callee (f := 32) rfl ?_); refine gL (some 24) Try.func32 #[.agg #[.int .i64 t793, .slice Ao25 t794.length co25, .int .i64 t797, .slice Ao26 t798.length co26, .string t801]] ?_; (with_reducible refine (impl_NodesOf.calls k t793 _ _ t794 t797 _ _ t798 t801 t803 t804 _ ?side1 ?side2 ?side3 ?side4 A10.out).mono ?_); (case side1 => refine (Kd.R_reads' (e := 3) (base := w.heap.size) (ok := fun k_ => ((some k_ ≠ (.slice Ao26 t798.length co26 : Value).ownBlock ∧ some k_ ≠ (.slice Ao17 t783.length co17 : Value).ownBlock) ∧ some k_ ≠ (.slice Ao18 t787.length co18 : Value).ownBlock)) (n := t794.length) (c := co25) ?_).2.2; exact (Rz (Kd.R_mono (Kd.R_far (p := ⟨gb802, 4, none⟩) (Kd.R_far (p := ⟨gb802, 3, none⟩) (Kd.R_far (p := ⟨gb802, 2, none⟩) (Kd.R_far (p := ⟨gb802, 1, none⟩) (Kd.R_far (p := ⟨gb802, 0, none⟩) (Kd.R_types HO796.out BK802.out (by decide)) (fun _ hk => hk.2) (.int .i64 t793)) (fun _ hk => hk.2) (.slice Ao25 t794.length co25)) (fun _ hk => hk.2) (.int .i64 t797)) (fun _ hk => hk.2) (.slice Ao26 t798.length co26)) (fun _ hk => hk.2) (.string t801)) (fun _ h_ => h_.1)))); (case side2 => exact (Kd.R_reads' HO796.out).2.1); (case side3 => refine (Kd.R_reads' (e := 3) (base := w.heap.size) (ok := fun k_ => ((some k_ ≠ (.slice Ao25 t794.length co25 : Value).ownBlock ∧ some k_ ≠ (.slice Ao17 t783.length co17 : Value).ownBlock) ∧ some k_ ≠ (.slice Ao18 t787.length co18 : Value).ownBlock)) (n := t798.length) (c := co26) ?_).2.2; exact (Rz (Kd.R_mono (Kd.R_far (p := ⟨gb802, 4, none⟩) (Kd.R_far (p := ⟨gb802, 3, none⟩) (Kd.R_far (p := ⟨gb802, 2, none⟩) (Kd.R_far (p := ⟨gb802, 1, none⟩) (Kd.R_far (p := ⟨gb802, 0, none⟩) (Kd.R_types HO800.out BK802.out (by decide)) (fun _ hk => hk.2) (.int .i64 t793)) (fun _ hk => hk.2) (.slice Ao25 t794.length co25)) (fun _ hk => hk.2) (.int .i64 t797)) (fun _ hk => hk.2) (.slice Ao26 t798.length co26)) (fun _ hk => hk.2) (.string t801)) (fun _ h_ => h_.1)))); (case side4 => exact (Kd.R_reads' HO800.out).2.1); rintro e w27 ⟨rfl, hb⟩; refine ⟨_, rfl, ?_⟩; have n0_ := Aside0.mk (Kd.R_below (Rz (Kd.R_mono (Kd.R_far (p := ⟨gb802, 4, none⟩) (Kd.R_far (p := ⟨gb802, 3, none⟩) (Kd.R_far (p := ⟨gb802, 2, none⟩) (Kd.R_far (p := ⟨gb802, 1, none⟩) (Kd.R_far (p := ⟨gb802, 0, none⟩) (Kd.R_types HO785.out BK802.out (by decide)) (fun _ hk => hk.2) (.int .i64 t793)) (fun _ hk => hk.2) (.slice Ao25 t794.length co25)) (fun _ hk => hk.2) (.int .i64 t797)) (fun _ hk => hk.2) (.slice Ao26 t798.length co26)) (fun _ hk => hk.2) (.string t801)) (fun _ h_ => h_.1))) hb); have n1_ := Aside0.mk (Kd.R_below (Rz (Kd.R_mono (Kd.R_far (p := ⟨gb802, 4, none⟩) (Kd.R_far (p := ⟨gb802, 3, none⟩) (Kd.R_far (p := ⟨gb802, 2, none⟩) (Kd.R_far (p := ⟨gb802, 1, none⟩) (Kd.R_far (p := ⟨gb802, 0, none⟩) (Kd.R_types HO789.out BK802.out (by decide)) (fun _ hk => hk.2) (.int .i64 t793)) (fun _ hk => hk.2) (.slice Ao25 t794.length co25)) (fun _ hk => hk.2) (.int .i64 t797)) (fun _ hk => hk.2) (.slice Ao26 t798.length co26)) (fun _ hk => hk.2) (.string t801)) (fun _ h_ => h_.1))) hb); have n2_ := Aside0.mk (Kd.R_below (Rz (Kd.R_mono (Kd.R_far (p := ⟨gb802, 4, none⟩) (Kd.R_far (p := ⟨gb802, 3, none⟩) (Kd.R_far (p := ⟨gb802, 2, none⟩) (Kd.R_far (p := ⟨gb802, 1, none⟩) (Kd.R_far (p := ⟨gb802, 0, none⟩) (Kd.R_types HO796.out BK802.out (by decide)) (fun _ hk => hk.2) (.int .i64 t793)) (fun _ hk => hk.2) (.slice Ao25 t794.length co25)) (fun _ hk => hk.2) (.int .i64 t797)) (fun _ hk => hk.2) (.slice Ao26 t798.length co26)) (fun _ hk => hk.2) (.string t801)) (fun _ h_ => h_.1))) hb); have n3_ := Aside0.mk (Kd.R_below (Rz (Kd.R_mono (Kd.R_far (p := ⟨gb802, 4, none⟩) (Kd.R_far (p := ⟨gb802, 3, none⟩) (Kd.R_far (p := ⟨gb802, 2, none⟩) (Kd.R_far (p := ⟨gb802, 1, none⟩) (Kd.R_far (p := ⟨gb802, 0, none⟩) (Kd.R_types HO800.out BK802.out (by decide)) (fun _ hk => hk.2) (.int .i64 t793)) (fun _ hk => hk.2) (.slice Ao25 t794.length co25)) (fun _ hk => hk.2) (.int .i64 t797)) (fun _ hk => hk.2) (.slice Ao26 t798.length co26)) (fun _ hk => hk.2) (.string t801)) (fun _ h_ => h_.1))) hb); have n4_ := Aside0.mk (blk_below (g := gb780) (o := .cells #[.int .i64 a0_0, .slice A0_1 l0_1.length c0_1, .int .i64 a0_2, .slice A0_3 l0_3.length c0_3, .string a0_4] 26 (0, 0)) (by (with_reducible repeat (first | refine blk_drewN ?_ _ | refine blk_drew ?_ | refine blk_alloc ?_ _)); refine blk_far ?_ NB780_802.out _; (with_reducible repeat (first | refine blk_drewN ?_ _ | refine blk_drew ?_ | refine blk_alloc ?_ _)); refine blk_far ?_ NB780_802.out _; (with_reducible repeat (first | refine blk_drewN ?_ _ | refine blk_drew ?_ | refine blk_alloc ?_ _)); refine blk_far ?_ NB780_802.out _; (with_reducible repeat (first | refine blk_drewN ?_ _ | refine blk_drew ?_ | refine blk_alloc ?_ _)); refine blk_far ?_ NB780_802.out _; (with_reducible repeat (first | refine blk_drewN ?_ _ | refine blk_drew ?_ | refine blk_alloc ?_ _)); refine blk_far ?_ NB780_802.out _; (with_reducible repeat (first | refine blk_drewN ?_ _ | refine blk_drew ?_ | refine blk_alloc ?_ _)); exact BK780.out) hb); have n5_ := Aside0.mk (blk_below (g := gb802) (o := .cells #[.int .i64 t793, .slice Ao25 t794.length co25, .int .i64 t797, .slice Ao26 t798.length co26, .string t801] 32 (0, 0)) (by (with_reducible repeat (first | refine blk_drewN ?_ _ | refine blk_drew ?_ | refine blk_alloc ?_ _)); refine blk_put (cs := #[.int .i64 t793, .slice Ao25 t794.length co25, .int .i64 t797, .slice Ao26 t798.length co26, .string (⟨#[]⟩ : ByteArray)]) ?_ 4 _ rfl; (with_reducible repeat (first | refine blk_drewN ?_ _ | refine blk_drew ?_ | refine blk_alloc ?_ _)); refine blk_put (cs := #[.int .i64 t793, .slice Ao25 t794.length co25, .int .i64 t797, .slice none 0 0, .string (⟨#[]⟩ : ByteArray)]) ?_ 3 _ rfl; (with_reducible repeat (first | refine blk_drewN ?_ _ | refine blk_drew ?_ | refine blk_alloc ?_ _)); refine blk_put (cs := #[.int .i64 t793, .slice Ao25 t794.length co25, .int .i64 0, .slice none 0 0, .string (⟨#[]⟩ : ByteArray)]) ?_ 2 _ rfl; (with_reducible repeat (first | refine blk_drewN ?_ _ | refine blk_drew ?_ | refine blk_alloc ?_ _)); refine blk_put (cs := #[.int .i64 t793, .slice none 0 0, .int .i64 0, .slice none 0 0, .string (⟨#[]⟩ : ByteArray)]) ?_ 1 _ rfl; (with_reducible repeat (first | refine blk_drewN ?_ _ | refine blk_drew ?_ | refine blk_alloc ?_ _)); refine blk_put (cs := #[.int .i64 0, .slice none 0 0, .int .i64 0, .slice none 0 0, .string (⟨#[]⟩ : ByteArray)]) ?_ 0 _ rfl; (with_reducible repeat (first | refine blk_drewN ?_ _ | refine blk_drew ?_ | refine blk_alloc ?_ _)); exact BK802.out) hb); have n6_ := Bc HB hb; clear HO785 HO789 HO796 HO800 BK780 BK802 HB; revert n0_ n1_ n2_ n3_ n4_ n5_ n6_; intro HO785 HO789 HO796 HO800 BK780 BK802 HB; (try clear hb); (try clear hb2); (try clear hk); (try clear hi)))
  (try simp only [Act.put, List.setIfInBounds_toArray, List.set_cons_zero, List.set_cons_succ])
  go_cut [34] (fun v34 wc => ∃ (kq : Nat) (x34_10 : Bool), v34 = .bool x34_10 ∧ Aside0 (laws_FnExactNodesOf.j0 kq x34_10 a0_0 l0_1 a0_2 l0_3 a0_4 t793 t794 t797 t798 t801 = some r) ∧ Aside0 (kq ≤ k) ∧ Aside0 (Kd.R (Kd.int .i64) 3 wc w.heap.size (fun k_ => some k_ ≠ ((.slice Ao26 t798.length co26) : Value).ownBlock) (.slice Ao25 t794.length co25) t794) ∧ Aside0 (Kd.R (Kd.int .i64) 3 wc w.heap.size (fun k_ => some k_ ≠ ((.slice Ao25 t794.length co25) : Value).ownBlock) (.slice Ao26 t798.length co26) t798) ∧ Aside0 (wc.heap[gb780]? = some (.cells #[.int .i64 a0_0, (.slice A0_1 l0_1.length c0_1), .int .i64 a0_2, (.slice A0_3 l0_3.length c0_3), .string a0_4] 26 (0, 0))) ∧ Aside0 (wc.heap[gb802]? = some (.cells #[.int .i64 t793, (.slice Ao25 t794.length co25), .int .i64 t797, (.slice Ao26 t798.length co26), .string t801] 32 (0, 0))) ∧ Aside0 (Below w.heap.size w wc))
  case first =>
   have H := HC11.out; clear HC11
   by_cases c28 : t803 = t791
   ·rw [if_pos c28] at H
    have c28b0 : (t803 == t791) = true := beq_iff_eq.mpr c28; have c28b1 : (t803 != t791) = false := bne_eq_false_iff_eq.mpr c28; clear c28
    (first | rw [c28b0] | (simp only [i64_w, i32_w]; rw [c28b0]) | skip)
    have H' := Aside0.mk H; clear H
    go_wp2
    go_meet
    case rel => exact ⟨_, ((t804 != t792)), (by first | rfl | (simp; done) | (simp [*]; done)), H', ⟨by first | omega | exact Nat.le_refl _⟩, ⟨Rz (Kd.R_mono HO796.out (fun _ hk => hk.1.1))⟩, ⟨Rz (Kd.R_mono HO800.out (fun _ hk => hk.1.1))⟩, ⟨Kz BK780.out⟩, ⟨Kz BK802.out⟩, ⟨Bq⟩⟩
   ·rw [if_neg c28] at H
    have c28b0 : (t803 == t791) = false := beq_eq_false_iff_ne.mpr c28; have c28b1 : (t803 != t791) = true := bne_iff_ne.mpr c28
    (first | rw [c28b0] | (simp only [i64_w, i32_w]; rw [c28b0]) | skip)
    have H' := Aside0.mk H; clear H
    go_wp2
    go_meet
    case rel => exact ⟨_, (true), (by first | rfl | (simp; done) | (simp [*]; done)), H', ⟨by first | omega | exact Nat.le_refl _⟩, ⟨Rz (Kd.R_mono HO796.out (fun _ hk => hk.1.1))⟩, ⟨Rz (Kd.R_mono HO800.out (fun _ hk => hk.1.1))⟩, ⟨Kz BK780.out⟩, ⟨Kz BK802.out⟩, ⟨Bq⟩⟩
  case rest =>
   clear HC11
   try clear c1
   try clear c2
   try clear p2
   try clear c3
   try clear c3b0
   try clear c8
   try clear c12
   try clear c14
   try clear c23
   try clear c28
   try clear c28b0
   try clear c28b1
   try clear hcz13_0
   try clear hcz13_1
   try clear hcz13_2
   try clear hcz13_3
   try clear hcz13_4
   try clear hcz15_0
   try clear hcz15_1
   try clear hcz15_2
   try clear hcz15_3
   try clear hcz15_4
   try clear hcz20_0
   try clear hcz20_1
   try clear hcz20_2
   try clear hcz20_3
   try clear hcz20_4
   try clear hcz24_0
   try clear hcz24_1
   try clear hcz24_2
   try clear hcz24_3
   try clear hcz24_4
   try clear hcz5_0
   try clear hcz5_1
   try clear hcz5_2
   try clear hcz5_3
   try clear hcz5_4
   try clear hfz13_0
   try clear hfz13_1
   try clear hfz13_2
   try clear hfz13_3
   try clear hfz13_4
   try clear hfz15_0
   try clear hfz15_1
   try clear hfz15_2
   try clear hfz15_3
   try clear hfz15_4
   try clear hfz20_0
   try clear hfz20_1
   try clear hfz20_2
   try clear hfz20_3
   try clear hfz20_4
   try clear hfz24_0
   try clear hfz24_1
   try clear hfz24_2
   try clear hfz24_3
   try clear hfz24_4
   try clear hfz5_0
   try clear hfz5_1
   try clear hfz5_2
   try clear hfz5_3
   try clear hfz5_4
   obtain ⟨kq, x34_10, rfl, HA, HJ10, HO_803001, HO_803003, BK780, BK802, HB⟩ := hcut; cases kq with
   | zero => exact absurd HA.out (by simp [laws_FnExactNodesOf.j0])
   | succ kj10 =>
    have H := HA.out; clear HA
    simp only [laws_FnExactNodesOf.j0] at H
    by_cases c29 : x34_10 = true
    ·subst c29
     have H1 : (some false) = some r := by rw [if_pos rfl] at H; exact H
     clear H; have H := H1; clear H1; obtain rfl := Option.some.inj H
     go_wp2
     go_ret
     exact ⟨by first | rfl | (simp [errW_none, errW_some] <;> rfl) | (simp [*, errW_none, errW_some] <;> rfl), Bq⟩
    ·replace c29 := Bool.eq_false_iff.mpr c29
     subst c29
     have H1 : ((laws_toTrie.f kj10 a0_0 l0_1 a0_2 l0_3 a0_4).bind fun bt805 => ((laws_eqTrie.f kj10 t793 t794 t797 t798 t801 bt805.1 bt805.2.1 bt805.2.2.1 bt805.2.2.2.1 bt805.2.2.2.2).bind fun t814 => (if t814 = true then (some true) else (some false)))) = some r := by rw [if_neg (show ¬ (false = true) by decide)] at H; exact H
     clear H; have H := H1; clear H1; replace H := Option.bind_eq_some_iff.mp H; obtain ⟨⟨t805, t806, t809, t810, t813⟩, A300, H⟩ := H; replace H : ((laws_eqTrie.f kj10 t793 t794 t797 t798 t801 t805 t806 t809 t810 t813).bind fun t814 => (if t814 = true then (some true) else (some false))) = some r := H; have A30 := Aside0.mk A300; clear A300; replace H := Option.bind_eq_some_iff.mp H; obtain ⟨t814, A310, H⟩ := H; replace H : (if t814 = true then (some true) else (some false)) = some r := H; have A31 := Aside0.mk A310; clear A310
     by_cases c32 : t814 = true
     ·subst c32
      have H1 : (some true) = some r := by rw [if_pos rfl] at H; exact H
      clear H; have H := H1; clear H1; obtain rfl := Option.some.inj H
      try go_wp2
      have n0_ := Aside0.mk (Kd.R_drew HO_803001.out); have n1_ := Aside0.mk (Kd.R_drew HO_803003.out); have n2_ := Aside0.mk (blk_drew BK780.out); have n3_ := Aside0.mk (blk_drew BK802.out); have n4_ := Aside0.mk (below_drew1 HB.out); clear HO_803001 HO_803003 BK780 BK802 HB; revert n0_ n1_ n2_ n3_ n4_; intro HO_803001 HO_803003 BK780 BK802 HB; refine start_ (n := 5) (S := fun w' => w'.cell? ⟨gb802, 0, none⟩ = some (.int .i64 t793) ∧ w'.cell? ⟨gb802, 1, none⟩ = some (.slice Ao25 t794.length co25) ∧ w'.cell? ⟨gb802, 2, none⟩ = some (.int .i64 t797) ∧ w'.cell? ⟨gb802, 3, none⟩ = some (.slice Ao26 t798.length co26) ∧ w'.cell? ⟨gb802, 4, none⟩ = some (.string t801) ∧ w'.cell? ⟨gb780, 0, none⟩ = some (.int .i64 a0_0) ∧ w'.cell? ⟨gb780, 1, none⟩ = some (.slice A0_1 l0_1.length c0_1) ∧ w'.cell? ⟨gb780, 2, none⟩ = some (.int .i64 a0_2) ∧ w'.cell? ⟨gb780, 3, none⟩ = some (.slice A0_3 l0_3.length c0_3) ∧ w'.cell? ⟨gb780, 4, none⟩ = some (.string a0_4)) (ds := []) (bA 5 0) (by kernel_rfl) rfl rfl ⟨cz BK802 0, cz BK802 1, cz BK802 2, cz BK802 3, cz BK802 4, cz BK780 0, cz BK780 1, cz BK780 2, cz BK780 3, cz BK780 4⟩ (fun hHeld => ?_); generalize wc.drew = w33 at HO_803001 HO_803003 BK780 BK802 HB hHeld ⊢; refine take_ (i := 0) (N := some 35) (v := ?_) (a' := ?_) (bA 5 1) rfl rfl (by kernel_rfl) (fun _ _ _ h => h) (Or.inl ⟨by rfl, ?_⟩) hHeld ?_ ?_
      rotate_left
      ·rintro w' ⟨s0, s1, s2, s3, s4, s5, s6, s7, s8, s9⟩
       go_simp
       with_reducible rfl
      rotate_left
      ·simp only [Act.put, List.setIfInBounds_toArray, List.set_cons_zero, List.set_cons_succ, i64_w, i32_w]
       rfl
      refine take_ (i := 1) (N := some 36) (v := ?_) (a' := ?_) (bA 5 3) rfl rfl (by kernel_rfl) (fun _ _ _ h => h) (Or.inl ⟨by rfl, ?_⟩) hHeld ?_ ?_
      rotate_left
      ·rintro w' ⟨s0, s1, s2, s3, s4, s5, s6, s7, s8, s9⟩
       go_simp
       with_reducible rfl
      rotate_left
      ·simp only [Act.put, List.setIfInBounds_toArray, List.set_cons_zero, List.set_cons_succ, i64_w, i32_w]
       rfl
      refine one_ (i := 2) (N := some 37) (bA 5 7) rfl rfl (by kernel_rfl) (by decide) (fun K hK => ?_); refine gZ Try.func14 #[.agg #[.int .i64 a0_0, .slice A0_1 l0_1.length c0_1, .int .i64 a0_2, .slice A0_3 l0_3.length c0_3, .string a0_4]] ?_
      with_reducible refine (laws_toTrie.calls kj10 a0_0 _ _ l0_1 a0_2 _ _ l0_3 a0_4 t805 t806 t809 t810 t813 _ ?side1 ?side2 ?side3 ?side4 A30.out).mono ?_
      (case side1 => exact Cz (Kd.C_below HR0_1.out HB.out))
      (case side2 => exact HC0_1.out)
      (case side3 => exact Cz (Kd.C_below HR0_3.out HB.out))
      (case side4 => exact HC0_3.out)
      rintro e w34 ⟨v807, v811, rfl, ho0, ho1, hb⟩; refine ⟨_, rfl, ?_⟩; have n0_ := Aside0.mk (Kd.R_mono (Kd.R_told (Kd.R_told (Kd.R_old (Rz HO_803001.out) hb) (Kd.R_base ho0)) (Kd.R_base ho1)) (fun _ h_ => h_.1)); have n1_ := Aside0.mk (Kd.R_mono (Kd.R_told (Kd.R_told (Kd.R_old (Rz HO_803003.out) hb) (Kd.R_base ho0)) (Kd.R_base ho1)) (fun _ h_ => h_.1)); have n2_ := Rm (Kd.R_new' (Kd.R_new' ho0 (Kd.R_lt (Rz HO_803001.out))) (Kd.R_lt (Rz HO_803003.out))) HB; have n3_ := Rm (Kd.R_new' (Kd.R_new' ho1 (Kd.R_lt (Rz HO_803001.out))) (Kd.R_lt (Rz HO_803003.out))) HB; have n4_ := Kb BK780 hb; have n5_ := Kb BK802 hb; have n6_ := Bc HB hb; clear HO_803001 HO_803003 BK780 BK802 HB; revert n0_ n1_ n2_ n3_ n4_ n5_ n6_; intro HO_803001 HO_803003 HO808 HO812 BK780 BK802 HB
      (try clear hb)
      (try clear hb2)
      (try clear hk)
      (try clear hi)
      (try clear ho0)
      (try clear ho1)
      obtain ⟨Ao35, co35, eo35⟩ := Kd.R_slice HO808.out
      (first | subst eo35 | (injection eo35 with f1_ f2_ f3_; have f4_ := f1_.symm; have f5_ := f3_.symm; clear f1_ f2_ f3_; subst f4_; subst f5_))
      obtain ⟨Ao36, co36, eo36⟩ := Kd.R_slice HO812.out
      (first | subst eo36 | (injection eo36 with f1_ f2_ f3_; have f4_ := f1_.symm; have f5_ := f3_.symm; clear f1_ f2_ f3_; subst f4_; subst f5_))
      refine hK.out _ _ ⟨cz BK802 0, cz BK802 1, cz BK802 2, cz BK802 3, cz BK802 4, cz BK780 0, cz BK780 1, cz BK780 2, cz BK780 3, cz BK780 4⟩ (fun hHeld => ?_); clear hK K; refine norm_ (a' := ?_) ?_ ?_
      rotate_left
      ·show Act.put _ (some 37) _ = _
       simp only [Act.put, List.setIfInBounds_toArray, List.set_cons_zero, List.set_cons_succ, i64_w, i32_w]
       rfl
      refine one_ (i := 3) (N := some 38) (bA 5 15) rfl rfl (by kernel_rfl) (by decide) (fun K hK => ?_); refine gZ Try.func16 #[.agg #[.int .i64 t793, .slice Ao25 t794.length co25, .int .i64 t797, .slice Ao26 t798.length co26, .string t801], .agg #[.int .i64 t805, .slice Ao35 t806.length co35, .int .i64 t809, .slice Ao36 t810.length co36, .string t813]] ?_
      with_reducible refine (laws_eqTrie.calls kj10 t793 _ _ t794 t797 _ _ t798 t801 t805 _ _ t806 t809 _ _ t810 t813 true _ ?side1 ?side2 ?side3 ?side4 ?side5 ?side6 ?side7 ?side8 A31.out).mono ?_
      (case side1 => exact Cz ((Kd.R_reads' HO_803001.out).2.2))
      (case side2 => exact (Kd.R_reads' HO_803001.out).2.1)
      (case side3 => exact Cz ((Kd.R_reads' HO_803003.out).2.2))
      (case side4 => exact (Kd.R_reads' HO_803003.out).2.1)
      (case side5 => exact Cz ((Kd.R_reads' HO808.out).2.2))
      (case side6 => exact (Kd.R_reads' HO808.out).2.1)
      (case side7 => exact Cz ((Kd.R_reads' HO812.out).2.2))
      (case side8 => exact (Kd.R_reads' HO812.out).2.1)
      rintro e w37 ⟨rfl, hb⟩; refine ⟨_, rfl, ?_⟩; have n0_ := Rb HO_803001 hb; have n1_ := Rb HO_803003 hb; have n2_ := Rb HO808 hb; have n3_ := Rb HO812 hb; have n4_ := Kb BK780 hb; have n5_ := Kb BK802 hb; have n6_ := Bc HB hb; clear HO_803001 HO_803003 HO808 HO812 BK780 BK802 HB; revert n0_ n1_ n2_ n3_ n4_ n5_ n6_; intro HO_803001 HO_803003 HO808 HO812 BK780 BK802 HB
      (try clear hb)
      (try clear hb2)
      (try clear hk)
      (try clear hi)
      refine hK.out _ _ ⟨cz BK802 0, cz BK802 1, cz BK802 2, cz BK802 3, cz BK802 4, cz BK780 0, cz BK780 1, cz BK780 2, cz BK780 3, cz BK780 4⟩ (fun hHeld => ?_); clear hK K; refine norm_ (a' := ?_) ?_ ?_
      rotate_left
      ·show Act.put _ (some 38) _ = _
       simp only [Act.put, List.setIfInBounds_toArray, List.set_cons_zero, List.set_cons_succ, i64_w, i32_w]
       rfl
      refine pure_ (i := 4) (N := some 39) (v := ?_) (a' := ?_) (bA 5 31) rfl rfl (by kernel_rfl) (fun _ _ _ h => h) (Or.inl ⟨by rfl, ?_⟩) ?_ ?_
      rotate_left
      ·intro w'
       go_simp
       with_reducible rfl
      rotate_left
      ·simp only [Act.put, List.setIfInBounds_toArray, List.set_cons_zero, List.set_cons_succ, i64_w, i32_w]
       rfl
      refine done_ (by kernel_rfl) ?_
      try go_wp2
      go_ret
      exact ⟨by first | rfl | (simp [errW_none, errW_some] <;> rfl) | (simp [*, errW_none, errW_some] <;> rfl), Bq⟩
     ·replace c32 := Bool.eq_false_iff.mpr c32
      subst c32
      have H1 : (some false) = some r := by rw [if_neg (show ¬ (false = true) by decide)] at H; exact H
      clear H; have H := H1; clear H1; obtain rfl := Option.some.inj H
      try go_wp2
      have n0_ := Aside0.mk (Kd.R_drew HO_803001.out); have n1_ := Aside0.mk (Kd.R_drew HO_803003.out); have n2_ := Aside0.mk (blk_drew BK780.out); have n3_ := Aside0.mk (blk_drew BK802.out); have n4_ := Aside0.mk (below_drew1 HB.out); clear HO_803001 HO_803003 BK780 BK802 HB; revert n0_ n1_ n2_ n3_ n4_; intro HO_803001 HO_803003 BK780 BK802 HB; refine start_ (n := 5) (S := fun w' => w'.cell? ⟨gb802, 0, none⟩ = some (.int .i64 t793) ∧ w'.cell? ⟨gb802, 1, none⟩ = some (.slice Ao25 t794.length co25) ∧ w'.cell? ⟨gb802, 2, none⟩ = some (.int .i64 t797) ∧ w'.cell? ⟨gb802, 3, none⟩ = some (.slice Ao26 t798.length co26) ∧ w'.cell? ⟨gb802, 4, none⟩ = some (.string t801) ∧ w'.cell? ⟨gb780, 0, none⟩ = some (.int .i64 a0_0) ∧ w'.cell? ⟨gb780, 1, none⟩ = some (.slice A0_1 l0_1.length c0_1) ∧ w'.cell? ⟨gb780, 2, none⟩ = some (.int .i64 a0_2) ∧ w'.cell? ⟨gb780, 3, none⟩ = some (.slice A0_3 l0_3.length c0_3) ∧ w'.cell? ⟨gb780, 4, none⟩ = some (.string a0_4)) (ds := []) (bA 5 0) (by kernel_rfl) rfl rfl ⟨cz BK802 0, cz BK802 1, cz BK802 2, cz BK802 3, cz BK802 4, cz BK780 0, cz BK780 1, cz BK780 2, cz BK780 3, cz BK780 4⟩ (fun hHeld => ?_); generalize wc.drew = w38 at HO_803001 HO_803003 BK780 BK802 HB hHeld ⊢; refine take_ (i := 0) (N := some 35) (v := ?_) (a' := ?_) (bA 5 1) rfl rfl (by kernel_rfl) (fun _ _ _ h => h) (Or.inl ⟨by rfl, ?_⟩) hHeld ?_ ?_
      rotate_left
      ·rintro w' ⟨s0, s1, s2, s3, s4, s5, s6, s7, s8, s9⟩
       go_simp
       with_reducible rfl
      rotate_left
      ·simp only [Act.put, List.setIfInBounds_toArray, List.set_cons_zero, List.set_cons_succ, i64_w, i32_w]
       rfl
      refine take_ (i := 1) (N := some 36) (v := ?_) (a' := ?_) (bA 5 3) rfl rfl (by kernel_rfl) (fun _ _ _ h => h) (Or.inl ⟨by rfl, ?_⟩) hHeld ?_ ?_
      rotate_left
      ·rintro w' ⟨s0, s1, s2, s3, s4, s5, s6, s7, s8, s9⟩
       go_simp
       with_reducible rfl
      rotate_left
      ·simp only [Act.put, List.setIfInBounds_toArray, List.set_cons_zero, List.set_cons_succ, i64_w, i32_w]
       rfl
      refine one_ (i := 2) (N := some 37) (bA 5 7) rfl rfl (by kernel_rfl) (by decide) (fun K hK => ?_); refine gZ Try.func14 #[.agg #[.int .i64 a0_0, .slice A0_1 l0_1.length c0_1, .int .i64 a0_2, .slice A0_3 l0_3.length c0_3, .string a0_4]] ?_
      with_reducible refine (laws_toTrie.calls kj10 a0_0 _ _ l0_1 a0_2 _ _ l0_3 a0_4 t805 t806 t809 t810 t813 _ ?side1 ?side2 ?side3 ?side4 A30.out).mono ?_
      (case side1 => exact Cz (Kd.C_below HR0_1.out HB.out))
      (case side2 => exact HC0_1.out)
      (case side3 => exact Cz (Kd.C_below HR0_3.out HB.out))
      (case side4 => exact HC0_3.out)
      rintro e w39 ⟨v807, v811, rfl, ho0, ho1, hb⟩; refine ⟨_, rfl, ?_⟩; have n0_ := Aside0.mk (Kd.R_mono (Kd.R_told (Kd.R_told (Kd.R_old (Rz HO_803001.out) hb) (Kd.R_base ho0)) (Kd.R_base ho1)) (fun _ h_ => h_.1)); have n1_ := Aside0.mk (Kd.R_mono (Kd.R_told (Kd.R_told (Kd.R_old (Rz HO_803003.out) hb) (Kd.R_base ho0)) (Kd.R_base ho1)) (fun _ h_ => h_.1)); have n2_ := Rm (Kd.R_new' (Kd.R_new' ho0 (Kd.R_lt (Rz HO_803001.out))) (Kd.R_lt (Rz HO_803003.out))) HB; have n3_ := Rm (Kd.R_new' (Kd.R_new' ho1 (Kd.R_lt (Rz HO_803001.out))) (Kd.R_lt (Rz HO_803003.out))) HB; have n4_ := Kb BK780 hb; have n5_ := Kb BK802 hb; have n6_ := Bc HB hb; clear HO_803001 HO_803003 BK780 BK802 HB; revert n0_ n1_ n2_ n3_ n4_ n5_ n6_; intro HO_803001 HO_803003 HO808 HO812 BK780 BK802 HB
      (try clear hb)
      (try clear hb2)
      (try clear hk)
      (try clear hi)
      (try clear ho0)
      (try clear ho1)
      obtain ⟨Ao40, co40, eo40⟩ := Kd.R_slice HO808.out
      (first | subst eo40 | (injection eo40 with f1_ f2_ f3_; have f4_ := f1_.symm; have f5_ := f3_.symm; clear f1_ f2_ f3_; subst f4_; subst f5_))
      obtain ⟨Ao41, co41, eo41⟩ := Kd.R_slice HO812.out
      (first | subst eo41 | (injection eo41 with f1_ f2_ f3_; have f4_ := f1_.symm; have f5_ := f3_.symm; clear f1_ f2_ f3_; subst f4_; subst f5_))
      refine hK.out _ _ ⟨cz BK802 0, cz BK802 1, cz BK802 2, cz BK802 3, cz BK802 4, cz BK780 0, cz BK780 1, cz BK780 2, cz BK780 3, cz BK780 4⟩ (fun hHeld => ?_); clear hK K; refine norm_ (a' := ?_) ?_ ?_
      rotate_left
      ·show Act.put _ (some 37) _ = _
       simp only [Act.put, List.setIfInBounds_toArray, List.set_cons_zero, List.set_cons_succ, i64_w, i32_w]
       rfl
      refine one_ (i := 3) (N := some 38) (bA 5 15) rfl rfl (by kernel_rfl) (by decide) (fun K hK => ?_); refine gZ Try.func16 #[.agg #[.int .i64 t793, .slice Ao25 t794.length co25, .int .i64 t797, .slice Ao26 t798.length co26, .string t801], .agg #[.int .i64 t805, .slice Ao40 t806.length co40, .int .i64 t809, .slice Ao41 t810.length co41, .string t813]] ?_
      with_reducible refine (laws_eqTrie.calls kj10 t793 _ _ t794 t797 _ _ t798 t801 t805 _ _ t806 t809 _ _ t810 t813 false _ ?side1 ?side2 ?side3 ?side4 ?side5 ?side6 ?side7 ?side8 A31.out).mono ?_
      (case side1 => exact Cz ((Kd.R_reads' HO_803001.out).2.2))
      (case side2 => exact (Kd.R_reads' HO_803001.out).2.1)
      (case side3 => exact Cz ((Kd.R_reads' HO_803003.out).2.2))
      (case side4 => exact (Kd.R_reads' HO_803003.out).2.1)
      (case side5 => exact Cz ((Kd.R_reads' HO808.out).2.2))
      (case side6 => exact (Kd.R_reads' HO808.out).2.1)
      (case side7 => exact Cz ((Kd.R_reads' HO812.out).2.2))
      (case side8 => exact (Kd.R_reads' HO812.out).2.1)
      rintro e w42 ⟨rfl, hb⟩; refine ⟨_, rfl, ?_⟩; have n0_ := Rb HO_803001 hb; have n1_ := Rb HO_803003 hb; have n2_ := Rb HO808 hb; have n3_ := Rb HO812 hb; have n4_ := Kb BK780 hb; have n5_ := Kb BK802 hb; have n6_ := Bc HB hb; clear HO_803001 HO_803003 HO808 HO812 BK780 BK802 HB; revert n0_ n1_ n2_ n3_ n4_ n5_ n6_; intro HO_803001 HO_803003 HO808 HO812 BK780 BK802 HB
      (try clear hb)
      (try clear hb2)
      (try clear hk)
      (try clear hi)
      refine hK.out _ _ ⟨cz BK802 0, cz BK802 1, cz BK802 2, cz BK802 3, cz BK802 4, cz BK780 0, cz BK780 1, cz BK780 2, cz BK780 3, cz BK780 4⟩ (fun hHeld => ?_); clear hK K; refine norm_ (a' := ?_) ?_ ?_
      rotate_left
      ·show Act.put _ (some 38) _ = _
       simp only [Act.put, List.setIfInBounds_toArray, List.set_cons_zero, List.set_cons_succ, i64_w, i32_w]
       rfl
      refine pure_ (i := 4) (N := some 39) (v := ?_) (a' := ?_) (bA 5 31) rfl rfl (by kernel_rfl) (fun _ _ _ h => h) (Or.inl ⟨by rfl, ?_⟩) ?_ ?_
      rotate_left
      ·intro w'
       go_simp
       with_reducible rfl
      rotate_left
      ·simp only [Act.put, List.setIfInBounds_toArray, List.set_cons_zero, List.set_cons_succ, i64_w, i32_w]
       rfl
      refine done_ (by kernel_rfl) ?_
      try go_wp2
      go_ret
      exact ⟨by first | rfl | (simp [errW_none, errW_some] <;> rfl) | (simp [*, errW_none, errW_some] <;> rfl), Bq⟩

def laws_FnExactNodesOf.Pure : Prop := ∀ (a0_0 : Int) (l0_1 : List Int) (a0_2 : Int) (l0_3 : List Int) (a0_4 : ByteArray), (Lit.int .i64 a0_0).wf = true → l0_1.length ≤ maxLen → (∀ x ∈ l0_1, (Lit.int .i64 x).wf = true) → (Lit.int .i64 a0_2).wf = true → l0_3.length ≤ maxLen → (∀ x ∈ l0_3, (Lit.int .i64 x).wf = true) → a0_4.size ≤ maxLen → ∃ k, laws_FnExactNodesOf.f k a0_0 l0_1 a0_2 l0_3 a0_4 = some true
theorem laws_FnExactNodesOf.walk (P : laws_FnExactNodesOf.Pure) (a0_0 : Int) (A0_1 : Option Addr) (c0_1 : Nat) (l0_1 : List Int) (a0_2 : Int) (A0_3 : Option Addr) (c0_3 : Nat) (l0_3 : List Int) (a0_4 : ByteArray) (w : World) (hw0_0 : (Lit.int .i64 a0_0).wf = true) (hr0_1 : Kd.C (Kd.int .i64) w A0_1 l0_1.length l0_1) (hc0_1 : l0_1.length ≤ c0_1) (hm0_1 : l0_1.length ≤ maxLen) (hw0_1 : ∀ x ∈ l0_1, (Lit.int .i64 x).wf = true) (hw0_2 : (Lit.int .i64 a0_2).wf = true) (hr0_3 : Kd.C (Kd.int .i64) w A0_3 l0_3.length l0_3) (hc0_3 : l0_3.length ≤ c0_3) (hm0_3 : l0_3.length ≤ maxLen) (hw0_3 : ∀ x ∈ l0_3, (Lit.int .i64 x).wf = true) (hw0_4 : a0_4.size ≤ maxLen) :
  Calls Try.prog 8 #[.agg #[.int .i64 a0_0, .slice A0_1 l0_1.length c0_1, .int .i64 a0_2, .slice A0_3 l0_3.length c0_3, .string a0_4]] w fun e w' => e = .returned (.bool true) ∧ Below w.heap.size w w' := by
 obtain ⟨k, h⟩ := P a0_0 l0_1 a0_2 l0_3 a0_4 hw0_0 hm0_1 hw0_1 hw0_2 hm0_3 hw0_3 hw0_4; refine (laws_FnExactNodesOf.calls k a0_0 A0_1 c0_1 l0_1 a0_2 A0_3 c0_3 l0_3 a0_4 true w hr0_1 hc0_1 hr0_3 hc0_3 h).mono ?_; rintro e w' ⟨rfl, hd⟩; exact ⟨rfl, hd⟩

end Go.Proofs.Ytalfkfddpamnjaa.PA
namespace Go.Proofs.Ytalfkfddpamnjaa.Pure
open Go Go.RowKit Go.Proofs.YtalfkfddpamnjaaW.PrintWords Go.Proofs.YtalfkfddpamnjaaW.PrintMore Go.Proofs.YtalfkfddpamnjaaGp Go.Proofs.Ytalfkfddpamnjaa.PA Go.Proofs.YtalfkfddpamnjaaQ

theorem FnExactNodesOf : laws_FnExactNodesOf.Pure := by
  intro nB lB nE lE lab hnB hlB hwB hnE hlE hwE hlab
  refine Ev.rounds (r := true) ?_
  unfold laws_FnExactNodesOf.f
  obtain ⟨v, ev, hv⟩ := szTrie_f nB lB nE lE lab hlB hlE hlab
  rw [ev]
  refine ev_bind _ (Ev.now _) ?_
  by_cases c : v < 0
  · exact ev_pos c (Ev.now _)
  obtain ⟨hB, hE, hL⟩ := hv c
  have hT := toTrie_f nB lB nE lE lab hB hE
  have hK := kept_f nB lB nE lE lab hB hE
  refine ev_neg c (ev_bind _ hT ?_)
  rcases trie_both nB lB nE lE lab hB hE with ⟨K, Y⟩ | ⟨KS, Y⟩
  · have hS : Ev (fun k => spec_NodesOf.f k nB lB nE lE lab) ((((nodesL (bytesL K)).map mkS).length : Int), true) := by
      unfold spec_NodesOf.f
      exact ev_bind _ Y.sO (Ev.now _)
    have hI : Ev (fun k => impl_NodesOf.f k nB lB nE lE lab) ((((nodesL (bytesL K)).map mkS).length : Int), true) := by
      unfold impl_NodesOf.f
      have := (nodes_len Y.keys).1
      exact ev_bind _ Y.iN (ev_neg (by omega) (Ev.now _))
    refine ev_bind _ hS (ev_bind _ hT (ev_bind _ hI (ev_pos rfl (ev_succ ?_))))
    simp only [laws_FnExactNodesOf.j0]
    exact ev_neg (by simp) hK
  · have hS : Ev (fun k => spec_NodesOf.f k nB lB nE lE lab) ((0 : Int), false) := by
      unfold spec_NodesOf.f
      exact ev_bind _ Y.sO (Ev.now _)
    have hI : Ev (fun k => impl_NodesOf.f k nB lB nE lE lab) ((0 : Int), false) := by
      unfold impl_NodesOf.f
      exact ev_bind _ Y.iN (ev_pos rfl (Ev.now _))
    refine ev_bind _ hS (ev_bind _ hT (ev_bind _ hI (ev_pos rfl (ev_succ ?_))))
    simp only [laws_FnExactNodesOf.j0]
    exact ev_neg (by simp) hK
end Go.Proofs.Ytalfkfddpamnjaa.Pure
