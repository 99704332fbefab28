import Derived.Test.YtalfkfddpamnjaaCA2
import Derived.Test.YtalfkfddpamnjaaCA4
import Derived.Test.YtalfkfddpamnjaaCA6
import Derived.Test.YtalfkfddpamnjaaCA3
import Derived.Test.YtalfkfddpamnjaaCA5
import Derived.Test.YtalfkfddpamnjaaCA9
import Derived.Test.YtalfkfddpamnjaaCA10
-- printed by a program of this session (wip/gp) out of the translation; Lean checks it
namespace Go.Proofs.Ytalfkfddpamnjaa.PA
open Go.RowKit Go.Proofs.YtalfkfddpamnjaaW.PrintWords Go.Proofs.YtalfkfddpamnjaaW.PrintLast Go.Proofs.YtalfkfddpamnjaaW.PrintMore Go.Proofs.YtalfkfddpamnjaaSq
attribute [local go_sem] max2_int min2_int max_two min_two max_three min_three max_four min_four   -- for this text's walks alone
attribute [local go_sem] Go.Proofs.YtalfkfddpamnjaaGp.str_geq Go.Proofs.YtalfkfddpamnjaaGp.str_gtr Go.Proofs.YtalfkfddpamnjaaGp.str_leq
set_option linter.unusedVariables false
set_option linter.unusedSimpArgs false

def spec_TrieHas.f (k : Nat) (a0_0 : Int) (l0_1 : List Int) (a0_2 : Int) (l0_3 : List Int) (a0_4 : ByteArray) (a1 : ByteArray) : Option (Bool × Bool) := (spec_trKeys.f k a0_0 l0_1 a0_2 l0_3 a0_4).bind fun bt855 => (if bt855.2 = true then ((spec_l1HasS.f k bt855.1 a1).bind fun t859 => (some (t859, true))) else (some (false, false)))
theorem spec_TrieHas.mono : ∀ a0 a1 a2 a3 a4 a5 k, LeO (spec_TrieHas.f k a0 a1 a2 a3 a4 a5) (spec_TrieHas.f (k + 1) a0 a1 a2 a3 a4 a5) := by
 intro a0 a1 a2 a3 a4 a5 k
 unfold spec_TrieHas.f
 repeat' first | (with_reducible first | exact spec_l1HasS.mono _ _ _ | exact spec_trKeys.mono _ _ _ _ _ _ | exact LeO.refl _ | exact LeO.none _ | refine LeO.ite ?_ ?_ | refine LeO.bind ?_ (fun _ => ?_)) | exact LeO.none _ | refine LeO.ite ?_ ?_ | refine LeO.bind ?_ (fun _ => ?_)
set_option maxHeartbeats 8000000 in
set_option maxRecDepth 100000 in
theorem spec_TrieHas.calls (k : Nat) (a0_0 : Int) (A0_1 : Option Addr) (c0_1 : Nat) (l0_1 : List Int) (a0_2 : Int) (A0_3 : Option Addr) (c0_3 : Nat) (l0_3 : List Int) (a0_4 : ByteArray) (a1 : ByteArray) (r1 : Bool) (r2 : Bool) (w : World) (hr0_1 : Kd.C (Kd.int .i64) w A0_1 l0_1.length l0_1) (hc0_1 : l0_1.length ≤ c0_1) (hr0_3 : Kd.C (Kd.int .i64) w A0_3 l0_3.length l0_3) (hc0_3 : l0_3.length ≤ c0_3) (h : spec_TrieHas.f k a0_0 l0_1 a0_2 l0_3 a0_4 a1 = some (r1, r2)) :
  Calls Try.prog 35 #[.agg #[.int .i64 a0_0, .slice A0_1 l0_1.length c0_1, .int .i64 a0_2, .slice A0_3 l0_3.length c0_3, .string a0_4], .string a1] w fun e w' => e = .returned (.tuple #[.bool r1, .bool r2]) ∧ Below w.heap.size w w' := by
 have hu32 := Try.underlying32; have HR0_1 := Aside0.mk hr0_1; have HC0_1 := Aside0.mk hc0_1; clear hr0_1 hc0_1; have HR0_3 := Aside0.mk hr0_3; have HC0_3 := Aside0.mk hc0_3; clear hr0_3 hc0_3; have HB := Aside0.mk (Below.refl w.heap.size w); have H : ((spec_trKeys.f k a0_0 l0_1 a0_2 l0_3 a0_4).bind fun bt855 => (if bt855.2 = true then ((spec_l1HasS.f k bt855.1 a1).bind fun t859 => (some (t859, true))) else (some (false, false)))) = some (r1, r2) := h; clear h; replace H := Option.bind_eq_some_iff.mp H; obtain ⟨⟨t855, t858⟩, A30, H⟩ := H; replace H : (if t858 = true then ((spec_l1HasS.f k t855 a1).bind fun t859 => (some (t859, true))) else (some (false, false))) = some (r1, r2) := H; have A3 := Aside0.mk A30; clear A30
 by_cases c4 : t858 = true
 ·subst c4
  have H1 : ((spec_l1HasS.f k t855 a1).bind fun t859 => (some (t859, true))) = some (r1, r2) := by rw [if_pos rfl] at H; exact H
  clear H; have H := H1; clear H1; replace H := Option.bind_eq_some_iff.mp H; obtain ⟨t859, A50, H⟩ := H; replace H : (some (t859, true)) = some (r1, r2) := H; have A5 := Aside0.mk A50; clear A50
  simp only [Option.some.injEq, Prod.mk.injEq] at H
  obtain ⟨rfl, rfl⟩ := H
  go_enter Try.func35, Try.ntmps35
  go_wp2_with (first | ((with_reducible refine gate_dst (N := 2) rfl ?_); refine bE 2 #[.int .i64 a0_0, .slice A0_1 l0_1.length c0_1, .int .i64 a0_2, .slice A0_3 l0_3.length c0_3, .string a0_4] 32 ?_; intro gb854 hg w6 hbox hb; have n0_ := Bb HB hb; have n1_ := Aside0.mk (hbox); have n2_ := Gl HB hg; have n3_ := Gl HB hg; clear HB; revert n0_ n1_ n2_ n3_; intro HB BK854 GW854 GE854; clear hb hbox hg; obtain ⟨hcz7_0, hcz7_1, hcz7_2, hcz7_3, hcz7_4, hfz7_0, hfz7_1, hfz7_2, hfz7_3, hfz7_4⟩ := cf5 (w := w6) BK854) | ((with_reducible refine gate_callee (f := 40) rfl ?_); refine gL (some 10) Try.func40 #[.agg #[.int .i64 a0_0, .slice A0_1 l0_1.length c0_1, .int .i64 a0_2, .slice A0_3 l0_3.length c0_3, .string a0_4]] ?_; (with_reducible refine (spec_trKeys.calls k a0_0 _ _ l0_1 a0_2 _ _ l0_3 a0_4 t855 true _ ?side1 ?side2 ?side3 ?side4 A3.out).mono ?_); (case side1 => exact Cz (Kd.C_below HR0_1.out HB.out)); (case side2 => exact HC0_1.out); (case side3 => exact Cz (Kd.C_below HR0_3.out HB.out)); (case side4 => exact HC0_3.out); rintro e w8 ⟨v856, rfl, ho0, hb⟩; refine ⟨_, rfl, ?_⟩; have n0_ := Rm ho0 HB; have n1_ := Kb BK854 hb; have n2_ := Bc HB hb; clear BK854 HB; revert n0_ n1_ n2_; intro HO857 BK854 HB; (try clear hb); (try clear hb2); (try clear hk); (try clear hi); (try clear ho0); obtain ⟨Ao9, co9, eo9⟩ := Kd.R_slice HO857.out; subst eo9) | ((with_reducible refine gate_callee (f := 60) rfl ?_); refine gL (some 17) Try.func60 #[.slice Ao9 t855.length co9, .string a1] ?_; (with_reducible refine (spec_l1HasS.calls k _ _ t855 a1 t859 _ ?side1 ?side2 A5.out).mono ?_); (case side1 => exact Cz ((Kd.R_reads' HO857.out).2.2)); (case side2 => exact (Kd.R_reads' HO857.out).2.1); rintro e w' ⟨rfl, ⟨nd, rfl⟩⟩; refine ⟨_, rfl, ?_⟩))
  go_ret2
  exact ⟨by first | rfl | (simp [errW_none, errW_some] <;> rfl) | (simp [*, errW_none, errW_some] <;> rfl), Bq⟩
 ·replace c4 := Bool.eq_false_iff.mpr c4
  subst c4
  have H1 : (some (false, false)) = some (r1, r2) := by rw [if_neg (show ¬ (false = true) by decide)] at H; exact H
  clear H; have H := H1; clear H1
  simp only [Option.some.injEq, Prod.mk.injEq] at H
  obtain ⟨rfl, rfl⟩ := H
  go_enter Try.func35, Try.ntmps35
  go_wp2_with (first | ((with_reducible refine gate_dst (N := 2) rfl ?_); refine bE 2 #[.int .i64 a0_0, .slice A0_1 l0_1.length c0_1, .int .i64 a0_2, .slice A0_3 l0_3.length c0_3, .string a0_4] 32 ?_; intro gb854 hg w10 hbox hb; have n0_ := Bb HB hb; have n1_ := Aside0.mk (hbox); have n2_ := Gl HB hg; have n3_ := Gl HB hg; clear HB; revert n0_ n1_ n2_ n3_; intro HB BK854 GW854 GE854; clear hb hbox hg; obtain ⟨hcz11_0, hcz11_1, hcz11_2, hcz11_3, hcz11_4, hfz11_0, hfz11_1, hfz11_2, hfz11_3, hfz11_4⟩ := cf5 (w := w10) BK854) | ((with_reducible refine gate_callee (f := 40) rfl ?_); refine gL (some 10) Try.func40 #[.agg #[.int .i64 a0_0, .slice A0_1 l0_1.length c0_1, .int .i64 a0_2, .slice A0_3 l0_3.length c0_3, .string a0_4]] ?_; (with_reducible refine (spec_trKeys.calls k a0_0 _ _ l0_1 a0_2 _ _ l0_3 a0_4 t855 false _ ?side1 ?side2 ?side3 ?side4 A3.out).mono ?_); (case side1 => exact Cz (Kd.C_below HR0_1.out HB.out)); (case side2 => exact HC0_1.out); (case side3 => exact Cz (Kd.C_below HR0_3.out HB.out)); (case side4 => exact HC0_3.out); rintro e w12 ⟨v856, rfl, ho0, hb⟩; refine ⟨_, rfl, ?_⟩; have n0_ := Rm ho0 HB; have n1_ := Kb BK854 hb; have n2_ := Bc HB hb; clear BK854 HB; revert n0_ n1_ n2_; intro HO857 BK854 HB; (try clear hb); (try clear hb2); (try clear hk); (try clear hi); (try clear ho0)))
  go_ret2
  exact ⟨by first | rfl | (simp [errW_none, errW_some] <;> rfl) | (simp [*, errW_none, errW_some] <;> rfl), Bq⟩

def impl_TrieHas.f (k : Nat) (a0_0 : Int) (l0_1 : List Int) (a0_2 : Int) (l0_3 : List Int) (a0_4 : ByteArray) (a1 : ByteArray) : Option (Bool × Bool) := (impl_Trie_keys.f k a0_0 l0_1 a0_2 l0_3 a0_4).bind fun bt861 => ((slices_Contains_string_string.f k bt861.1 a1).bind fun t865 => (some (t865, bt861.2)))
theorem impl_TrieHas.mono : ∀ a0 a1 a2 a3 a4 a5 k, LeO (impl_TrieHas.f k a0 a1 a2 a3 a4 a5) (impl_TrieHas.f (k + 1) a0 a1 a2 a3 a4 a5) := by
 intro a0 a1 a2 a3 a4 a5 k
 unfold impl_TrieHas.f
 repeat' first | (with_reducible first | exact impl_Trie_keys.mono _ _ _ _ _ _ | exact slices_Contains_string_string.mono _ _ _ | exact LeO.refl _ | exact LeO.none _ | refine LeO.ite ?_ ?_ | refine LeO.bind ?_ (fun _ => ?_)) | exact LeO.none _ | refine LeO.ite ?_ ?_ | refine LeO.bind ?_ (fun _ => ?_)
set_option maxHeartbeats 8000000 in
set_option maxRecDepth 100000 in
theorem impl_TrieHas.calls (k : Nat) (a0_0 : Int) (A0_1 : Option Addr) (c0_1 : Nat) (l0_1 : List Int) (a0_2 : Int) (A0_3 : Option Addr) (c0_3 : Nat) (l0_3 : List Int) (a0_4 : ByteArray) (a1 : ByteArray) (r1 : Bool) (r2 : Bool) (w : World) (hr0_1 : Kd.C (Kd.int .i64) w A0_1 l0_1.length l0_1) (hc0_1 : l0_1.length ≤ c0_1) (hr0_3 : Kd.C (Kd.int .i64) w A0_3 l0_3.length l0_3) (hc0_3 : l0_3.length ≤ c0_3) (h : impl_TrieHas.f k a0_0 l0_1 a0_2 l0_3 a0_4 a1 = some (r1, r2)) :
  Calls Try.prog 36 #[.agg #[.int .i64 a0_0, .slice A0_1 l0_1.length c0_1, .int .i64 a0_2, .slice A0_3 l0_3.length c0_3, .string a0_4], .string a1] w fun e w' => e = .returned (.tuple #[.bool r1, .bool r2]) ∧ Below w.heap.size w w' := by
 have hu32 := Try.underlying32; have HR0_1 := Aside0.mk hr0_1; have HC0_1 := Aside0.mk hc0_1; clear hr0_1 hc0_1; have HR0_3 := Aside0.mk hr0_3; have HC0_3 := Aside0.mk hc0_3; clear hr0_3 hc0_3; have HB := Aside0.mk (Below.refl w.heap.size w); have H : ((impl_Trie_keys.f k a0_0 l0_1 a0_2 l0_3 a0_4).bind fun bt861 => ((slices_Contains_string_string.f k bt861.1 a1).bind fun t865 => (some (t865, bt861.2)))) = some (r1, r2) := h; clear h; replace H := Option.bind_eq_some_iff.mp H; obtain ⟨⟨t861, t862⟩, A30, H⟩ := H; replace H : ((slices_Contains_string_string.f k t861 a1).bind fun t865 => (some (t865, t862))) = some (r1, r2) := H; have A3 := Aside0.mk A30; clear A30; replace H := Option.bind_eq_some_iff.mp H; obtain ⟨t865, A40, H⟩ := H; replace H : (some (t865, t862)) = some (r1, r2) := H; have A4 := Aside0.mk A40; clear A40
 simp only [Option.some.injEq, Prod.mk.injEq] at H
 obtain ⟨rfl, rfl⟩ := H
 go_enter Try.func36, Try.ntmps36
 go_wp2_with (first | ((with_reducible refine gate_dst (N := 2) rfl ?_); refine bE 2 #[.int .i64 a0_0, .slice A0_1 l0_1.length c0_1, .int .i64 a0_2, .slice A0_3 l0_3.length c0_3, .string a0_4] 32 ?_; intro gb860 hg w5 hbox hb; have n0_ := Bb HB hb; have n1_ := Aside0.mk (hbox); have n2_ := Gl HB hg; have n3_ := Gl HB hg; clear HB; revert n0_ n1_ n2_ n3_; intro HB BK860 GW860 GE860; clear hb hbox hg) | ((with_reducible refine gate_callee (f := 43) rfl ?_); refine gL (some 9) Try.func43 #[.pointer (some ⟨gb860, 0, none⟩)] ?_; (with_reducible refine (impl_Trie_keys.calls k gb860 a0_0 A0_1 c0_1 l0_1 a0_2 A0_3 c0_3 l0_3 a0_4 t861 t862 _ ?side1 ?side2 ?side3 ?side4 ?side5 A3.out).mono ?_); (case side1 => (with_reducible repeat (first | refine blk_drewN ?_ _ | refine blk_drew ?_ | refine blk_alloc ?_ _)); exact BK860.out); (case side2 => exact Cz (Kd.C_below HR0_1.out HB.out)); (case side3 => exact HC0_1.out); (case side4 => exact Cz (Kd.C_below HR0_3.out HB.out)); (case side5 => exact HC0_3.out); rintro e w6 ⟨v863, rfl, ho0, hb⟩; refine ⟨_, rfl, ?_⟩; have n0_ := Rm ho0 HB; have n1_ := Kb BK860 hb; have n2_ := Bc HB hb; clear BK860 HB; revert n0_ n1_ n2_; intro HO864 BK860 HB; (try clear hb); (try clear hb2); (try clear hk); (try clear hi); (try clear ho0); obtain ⟨Ao7, co7, eo7⟩ := Kd.R_slice HO864.out; subst eo7) | ((with_reducible refine gate_callee (f := 61) rfl ?_); refine gL (some 14) Try.func61 #[.slice Ao7 t861.length co7, .string a1] ?_; (with_reducible refine (slices_Contains_string_string.calls k _ _ t861 a1 t865 _ ?side1 ?side2 A4.out).mono ?_); (case side1 => exact Cz ((Kd.R_reads' HO864.out).2.2)); (case side2 => exact (Kd.R_reads' HO864.out).2.1); rintro e w' ⟨rfl, ⟨nd, rfl⟩⟩; refine ⟨_, rfl, ?_⟩))
 go_ret2
 exact ⟨by first | rfl | (simp [errW_none, errW_some] <;> rfl) | (simp [*, errW_none, errW_some] <;> rfl), Bq⟩

def laws_FnExactTrieHas.j0 : Nat → Bool → Int → List Int → Int → List Int → ByteArray → Int → List Int → Int → List Int → ByteArray → Option (Bool)
 | 0, _, _, _, _, _, _, _, _, _, _, _ => none
 | k + 1, x41, x867000, x867001, x867002, x867003, x867004, x889000, x889001, x889002, x889003, x889004 => if x41 = true then (some false) else ((laws_toTrie.f k x867000 x867001 x867002 x867003 x867004).bind fun bt891 => ((laws_eqTrie.f k x889000 x889001 x889002 x889003 x889004 bt891.1 bt891.2.1 bt891.2.2.1 bt891.2.2.2.1 bt891.2.2.2.2).bind fun t900 => (if t900 = true then (some true) else (some false))))
def laws_FnExactTrieHas.f (k : Nat) (a0_0 : Int) (l0_1 : List Int) (a0_2 : Int) (l0_3 : List Int) (a0_4 : ByteArray) (a1 : ByteArray) : Option (Bool) := if (a1.size : Int) > 1048576 then (some true) else ((laws_szTrie.f a0_0 l0_1 a0_2 l0_3 a0_4 1048576).bind fun t867 => (if t867 < 0 then (some true) else ((laws_toTrie.f k a0_0 l0_1 a0_2 l0_3 a0_4).bind fun bt868 => ((spec_TrieHas.f k bt868.1 bt868.2.1 bt868.2.2.1 bt868.2.2.2.1 bt868.2.2.2.2 a1).bind fun bt877 => ((laws_toTrie.f k a0_0 l0_1 a0_2 l0_3 a0_4).bind fun bt879 => ((impl_TrieHas.f k bt879.1 bt879.2.1 bt879.2.2.1 bt879.2.2.2.1 bt879.2.2.2.2 a1).bind fun bt889 => (if (bt889.1 != bt877.1) = true then (laws_FnExactTrieHas.j0 k true a0_0 l0_1 a0_2 l0_3 a0_4 bt879.1 bt879.2.1 bt879.2.2.1 bt879.2.2.2.1 bt879.2.2.2.2) else (laws_FnExactTrieHas.j0 k (bt889.2 != bt877.2) a0_0 l0_1 a0_2 l0_3 a0_4 bt879.1 bt879.2.1 bt879.2.2.1 bt879.2.2.2.1 bt879.2.2.2.2))))))))
theorem laws_FnExactTrieHas.mono_l : ∀ k, (∀ y0 y1 y2 y3 y4 y5 y6 y7 y8 y9 y10, LeO (laws_FnExactTrieHas.j0 k y0 y1 y2 y3 y4 y5 y6 y7 y8 y9 y10) (laws_FnExactTrieHas.j0 (k + 1) y0 y1 y2 y3 y4 y5 y6 y7 y8 y9 y10))
 | 0 => fun _ _ _ _ _ _ _ _ _ _ _ r h => by simp [laws_FnExactTrieHas.j0] at h
 | k + 1 => by
  have ih0 := laws_FnExactTrieHas.mono_l k
  ·intro y0 y1 y2 y3 y4 y5 y6 y7 y8 y9 y10
   unfold laws_FnExactTrieHas.j0
   repeat' first | (with_reducible first | exact ih0 _ _ _ _ _ _ _ _ _ _ _ | exact impl_TrieHas.mono _ _ _ _ _ _ _ | exact laws_eqTrie.mono _ _ _ _ _ _ _ _ _ _ _ | exact laws_toTrie.mono _ _ _ _ _ _ | exact spec_TrieHas.mono _ _ _ _ _ _ _ | exact LeO.refl _ | exact LeO.none _ | refine LeO.ite ?_ ?_ | refine LeO.bind ?_ (fun _ => ?_)) | exact LeO.none _ | refine LeO.ite ?_ ?_ | refine LeO.bind ?_ (fun _ => ?_)
theorem laws_FnExactTrieHas.mono : ∀ a0 a1 a2 a3 a4 a5 k, LeO (laws_FnExactTrieHas.f k a0 a1 a2 a3 a4 a5) (laws_FnExactTrieHas.f (k + 1) a0 a1 a2 a3 a4 a5) := by
 intro a0 a1 a2 a3 a4 a5 k; have ih0 := laws_FnExactTrieHas.mono_l k
 unfold laws_FnExactTrieHas.f
 repeat' first | (with_reducible first | exact ih0 _ _ _ _ _ _ _ _ _ _ _ | exact impl_TrieHas.mono _ _ _ _ _ _ _ | exact laws_eqTrie.mono _ _ _ _ _ _ _ _ _ _ _ | exact laws_toTrie.mono _ _ _ _ _ _ | exact spec_TrieHas.mono _ _ _ _ _ _ _ | exact LeO.refl _ | exact LeO.none _ | refine LeO.ite ?_ ?_ | refine LeO.bind ?_ (fun _ => ?_)) | exact LeO.none _ | refine LeO.ite ?_ ?_ | refine LeO.bind ?_ (fun _ => ?_)
set_option maxHeartbeats 8000000 in
set_option maxRecDepth 100000 in
theorem laws_FnExactTrieHas.calls (k : Nat) (a0_0 : Int) (A0_1 : Option Addr) (c0_1 : Nat) (l0_1 : List Int) (a0_2 : Int) (A0_3 : Option Addr) (c0_3 : Nat) (l0_3 : List Int) (a0_4 : ByteArray) (a1 : ByteArray) (r : Bool) (w : World) (hr0_1 : Kd.C (Kd.int .i64) w A0_1 l0_1.length l0_1) (hc0_1 : l0_1.length ≤ c0_1) (hr0_3 : Kd.C (Kd.int .i64) w A0_3 l0_3.length l0_3) (hc0_3 : l0_3.length ≤ c0_3) (h : laws_FnExactTrieHas.f k a0_0 l0_1 a0_2 l0_3 a0_4 a1 = some r) :
  Calls Try.prog 10 #[.agg #[.int .i64 a0_0, .slice A0_1 l0_1.length c0_1, .int .i64 a0_2, .slice A0_3 l0_3.length c0_3, .string a0_4], .string a1] w fun e w' => e = .returned (.bool r) ∧ Below w.heap.size w w' := by
 have hu26 := Try.underlying26; have hu32 := Try.underlying32; have HR0_1 := Aside0.mk hr0_1; have HC0_1 := Aside0.mk hc0_1; clear hr0_1 hc0_1; have HR0_3 := Aside0.mk hr0_3; have HC0_3 := Aside0.mk hc0_3; clear hr0_3 hc0_3; have HB := Aside0.mk (Below.refl w.heap.size w); have H : (if (a1.size : Int) > 1048576 then (some true) else ((laws_szTrie.f a0_0 l0_1 a0_2 l0_3 a0_4 1048576).bind fun t867 => (if t867 < 0 then (some true) else ((laws_toTrie.f k a0_0 l0_1 a0_2 l0_3 a0_4).bind fun bt868 => ((spec_TrieHas.f k bt868.1 bt868.2.1 bt868.2.2.1 bt868.2.2.2.1 bt868.2.2.2.2 a1).bind fun bt877 => ((laws_toTrie.f k a0_0 l0_1 a0_2 l0_3 a0_4).bind fun bt879 => ((impl_TrieHas.f k bt879.1 bt879.2.1 bt879.2.2.1 bt879.2.2.2.1 bt879.2.2.2.2 a1).bind fun bt889 => (if (bt889.1 != bt877.1) = true then (laws_FnExactTrieHas.j0 k true a0_0 l0_1 a0_2 l0_3 a0_4 bt879.1 bt879.2.1 bt879.2.2.1 bt879.2.2.2.1 bt879.2.2.2.2) else (laws_FnExactTrieHas.j0 k (bt889.2 != bt877.2) a0_0 l0_1 a0_2 l0_3 a0_4 bt879.1 bt879.2.1 bt879.2.2.1 bt879.2.2.2.1 bt879.2.2.2.2))))))))) = some r := h; clear h
 by_cases c3 : (a1.size : Int) > 1048576
 ·rw [if_pos c3] at H
  have c3b0 : decide (1048576 < (a1.size : Int)) = true := decide_eq_true c3; have c3b1 : decide (1048576 < a1.size) = true := decide_eq_true (by omega); clear c3; obtain rfl := Option.some.inj H
  go_enter Try.func10, Try.ntmps10
  go_wp2_with (first | ((with_reducible refine gate_dst (N := 2) rfl ?_); refine bE 2 #[.int .i64 a0_0, .slice A0_1 l0_1.length c0_1, .int .i64 a0_2, .slice A0_3 l0_3.length c0_3, .string a0_4] 26 ?_; intro gb866 hg w4 hbox hb; have n0_ := Bb HB hb; have n1_ := Aside0.mk (hbox); have n2_ := Gl HB hg; have n3_ := Gl HB hg; clear HB; revert n0_ n1_ n2_ n3_; intro HB BK866 GW866 GE866; clear hb hbox hg))
  go_ret
  exact ⟨by first | rfl | (simp [errW_none, errW_some] <;> rfl) | (simp [*, errW_none, errW_some] <;> rfl), Bq⟩
 ·rw [if_neg c3] at H
  have c3b0 : decide (1048576 < (a1.size : Int)) = false := decide_eq_false c3; have c3b1 : decide (1048576 < a1.size) = false := decide_eq_false (by omega); clear c3; replace H := Option.bind_eq_some_iff.mp H; obtain ⟨t867, A50, H⟩ := H; replace H : (if t867 < 0 then (some true) else ((laws_toTrie.f k a0_0 l0_1 a0_2 l0_3 a0_4).bind fun bt868 => ((spec_TrieHas.f k bt868.1 bt868.2.1 bt868.2.2.1 bt868.2.2.2.1 bt868.2.2.2.2 a1).bind fun bt877 => ((laws_toTrie.f k a0_0 l0_1 a0_2 l0_3 a0_4).bind fun bt879 => ((impl_TrieHas.f k bt879.1 bt879.2.1 bt879.2.2.1 bt879.2.2.2.1 bt879.2.2.2.2 a1).bind fun bt889 => (if (bt889.1 != bt877.1) = true then (laws_FnExactTrieHas.j0 k true a0_0 l0_1 a0_2 l0_3 a0_4 bt879.1 bt879.2.1 bt879.2.2.1 bt879.2.2.2.1 bt879.2.2.2.2) else (laws_FnExactTrieHas.j0 k (bt889.2 != bt877.2) a0_0 l0_1 a0_2 l0_3 a0_4 bt879.1 bt879.2.1 bt879.2.2.1 bt879.2.2.2.1 bt879.2.2.2.2))))))) = some r := H; have A5 := Aside0.mk A50; clear A50
  by_cases c6 : t867 < 0
  ·rw [if_pos c6] at H
   have c6b0 : decide (t867 < 0) = true := decide_eq_true c6; clear c6; obtain rfl := Option.some.inj H
   go_enter Try.func10, Try.ntmps10
   go_wp2_with (first | ((with_reducible refine gate_dst (N := 2) rfl ?_); refine bE 2 #[.int .i64 a0_0, .slice A0_1 l0_1.length c0_1, .int .i64 a0_2, .slice A0_3 l0_3.length c0_3, .string a0_4] 26 ?_; intro gb866 hg w7 hbox hb; have n0_ := Bb HB hb; have n1_ := Aside0.mk (hbox); have n2_ := Gl HB hg; have n3_ := Gl HB hg; clear HB; revert n0_ n1_ n2_ n3_; intro HB BK866 GW866 GE866; clear hb hbox hg; obtain ⟨hcz8_0, hcz8_1, hcz8_2, hcz8_3, hcz8_4, hfz8_0, hfz8_1, hfz8_2, hfz8_3, hfz8_4⟩ := cf5 (w := w7) BK866) | ((with_reducible refine gate_callee (f := 12) rfl ?_); refine gL (some 16) Try.func12 #[.agg #[.int .i64 a0_0, .slice A0_1 l0_1.length c0_1, .int .i64 a0_2, .slice A0_3 l0_3.length c0_3, .string a0_4], .int .i64 1048576] ?_; (with_reducible refine (laws_szTrie.calls a0_0 _ _ l0_1 a0_2 _ _ l0_3 a0_4 1048576 t867 _ ?side1 ?side2 ?side3 ?side4 A5.out).mono ?_); (case side1 => exact Cz (Kd.C_below HR0_1.out HB.out)); (case side2 => exact HC0_1.out); (case side3 => exact Cz (Kd.C_below HR0_3.out HB.out)); (case side4 => exact HC0_3.out); rintro e w9 ⟨rfl, hb⟩; refine ⟨_, rfl, ?_⟩; have n0_ := Kb BK866 hb; have n1_ := Bc HB hb; clear BK866 HB; revert n0_ n1_; intro BK866 HB; (try clear hb); (try clear hb2); (try clear hk); (try clear hi)))
   go_ret
   exact ⟨by first | rfl | (simp [errW_none, errW_some] <;> rfl) | (simp [*, errW_none, errW_some] <;> rfl), Bq⟩
  ·rw [if_neg c6] at H
   have c6b0 : decide (t867 < 0) = false := decide_eq_false c6; clear c6; replace H := Option.bind_eq_some_iff.mp H; obtain ⟨⟨t868, t869, t872, t873, t876⟩, A100, H⟩ := H; replace H : ((spec_TrieHas.f k t868 t869 t872 t873 t876 a1).bind fun bt877 => ((laws_toTrie.f k a0_0 l0_1 a0_2 l0_3 a0_4).bind fun bt879 => ((impl_TrieHas.f k bt879.1 bt879.2.1 bt879.2.2.1 bt879.2.2.2.1 bt879.2.2.2.2 a1).bind fun bt889 => (if (bt889.1 != bt877.1) = true then (laws_FnExactTrieHas.j0 k true a0_0 l0_1 a0_2 l0_3 a0_4 bt879.1 bt879.2.1 bt879.2.2.1 bt879.2.2.2.1 bt879.2.2.2.2) else (laws_FnExactTrieHas.j0 k (bt889.2 != bt877.2) a0_0 l0_1 a0_2 l0_3 a0_4 bt879.1 bt879.2.1 bt879.2.2.1 bt879.2.2.2.1 bt879.2.2.2.2))))) = some r := H; have A10 := Aside0.mk A100; clear A100; replace H := Option.bind_eq_some_iff.mp H; obtain ⟨⟨t877, t878⟩, A110, H⟩ := H; replace H : ((laws_toTrie.f k a0_0 l0_1 a0_2 l0_3 a0_4).bind fun bt879 => ((impl_TrieHas.f k bt879.1 bt879.2.1 bt879.2.2.1 bt879.2.2.2.1 bt879.2.2.2.2 a1).bind fun bt889 => (if (bt889.1 != t877) = true then (laws_FnExactTrieHas.j0 k true a0_0 l0_1 a0_2 l0_3 a0_4 bt879.1 bt879.2.1 bt879.2.2.1 bt879.2.2.2.1 bt879.2.2.2.2) else (laws_FnExactTrieHas.j0 k (bt889.2 != t878) a0_0 l0_1 a0_2 l0_3 a0_4 bt879.1 bt879.2.1 bt879.2.2.1 bt879.2.2.2.1 bt879.2.2.2.2)))) = some r := H; have A11 := Aside0.mk A110; clear A110; replace H := Option.bind_eq_some_iff.mp H; obtain ⟨⟨t879, t880, t883, t884, t887⟩, A120, H⟩ := H; replace H : ((impl_TrieHas.f k t879 t880 t883 t884 t887 a1).bind fun bt889 => (if (bt889.1 != t877) = true then (laws_FnExactTrieHas.j0 k true a0_0 l0_1 a0_2 l0_3 a0_4 t879 t880 t883 t884 t887) else (laws_FnExactTrieHas.j0 k (bt889.2 != t878) a0_0 l0_1 a0_2 l0_3 a0_4 t879 t880 t883 t884 t887))) = some r := H; have A12 := Aside0.mk A120; clear A120; replace H := Option.bind_eq_some_iff.mp H; obtain ⟨⟨t889, t890⟩, A130, H⟩ := H; replace H : (if (t889 != t877) = true then (laws_FnExactTrieHas.j0 k true a0_0 l0_1 a0_2 l0_3 a0_4 t879 t880 t883 t884 t887) else (laws_FnExactTrieHas.j0 k (t890 != t878) a0_0 l0_1 a0_2 l0_3 a0_4 t879 t880 t883 t884 t887)) = some r := H; have A13 := Aside0.mk A130; clear A130; have HC14 := Aside0.mk H; clear H
   go_enter Try.func10, Try.ntmps10
   go_upto_region 10 with (first | ((with_reducible refine gate_dst (N := 2) rfl ?_); refine bE 2 #[.int .i64 a0_0, .slice A0_1 l0_1.length c0_1, .int .i64 a0_2, .slice A0_3 l0_3.length c0_3, .string a0_4] 26 ?_; intro gb866 hg w15 hbox hb; have n0_ := Bb HB hb; have n1_ := Aside0.mk (hbox); have n2_ := Gl HB hg; have n3_ := Gl HB hg; clear HB; revert n0_ n1_ n2_ n3_; intro HB BK866 GW866 GE866; clear hb hbox hg; obtain ⟨hcz16_0, hcz16_1, hcz16_2, hcz16_3, hcz16_4, hfz16_0, hfz16_1, hfz16_2, hfz16_3, hfz16_4⟩ := cf5 (w := w15) BK866) | ((with_reducible refine gate_callee (f := 12) rfl ?_); refine gL (some 16) Try.func12 #[.agg #[.int .i64 a0_0, .slice A0_1 l0_1.length c0_1, .int .i64 a0_2, .slice A0_3 l0_3.length c0_3, .string a0_4], .int .i64 1048576] ?_; (with_reducible refine (laws_szTrie.calls a0_0 _ _ l0_1 a0_2 _ _ l0_3 a0_4 1048576 t867 _ ?side1 ?side2 ?side3 ?side4 A5.out).mono ?_); (case side1 => exact Cz (Kd.C_below HR0_1.out HB.out)); (case side2 => exact HC0_1.out); (case side3 => exact Cz (Kd.C_below HR0_3.out HB.out)); (case side4 => exact HC0_3.out); rintro e w17 ⟨rfl, hb⟩; refine ⟨_, rfl, ?_⟩; have n0_ := Kb BK866 hb; have n1_ := Bc HB hb; clear BK866 HB; revert n0_ n1_; intro BK866 HB; (try clear hb); (try clear hb2); (try clear hk); (try clear hi); obtain ⟨hcz18_0, hcz18_1, hcz18_2, hcz18_3, hcz18_4, hfz18_0, hfz18_1, hfz18_2, hfz18_3, hfz18_4⟩ := cf5 (w := w17) BK866) | ((with_reducible refine gate_callee (f := 14) rfl ?_); refine gL (some 21) Try.func14 #[.agg #[.int .i64 a0_0, .slice A0_1 l0_1.length c0_1, .int .i64 a0_2, .slice A0_3 l0_3.length c0_3, .string a0_4]] ?_; (with_reducible refine (laws_toTrie.calls k a0_0 _ _ l0_1 a0_2 _ _ l0_3 a0_4 t868 t869 t872 t873 t876 _ ?side1 ?side2 ?side3 ?side4 A10.out).mono ?_); (case side1 => exact Cz (Kd.C_below HR0_1.out HB.out)); (case side2 => exact HC0_1.out); (case side3 => exact Cz (Kd.C_below HR0_3.out HB.out)); (case side4 => exact HC0_3.out); rintro e w19 ⟨v870, v874, rfl, ho0, ho1, hb⟩; refine ⟨_, rfl, ?_⟩; have n0_ := Rm ho0 HB; have n1_ := Rm ho1 HB; have n2_ := Kb BK866 hb; have n3_ := Bc HB hb; clear BK866 HB; revert n0_ n1_ n2_ n3_; intro HO871 HO875 BK866 HB; (try clear hb); (try clear hb2); (try clear hk); (try clear hi); (try clear ho0); (try clear ho1); obtain ⟨Ao20, co20, eo20⟩ := Kd.R_slice HO871.out; subst eo20; obtain ⟨Ao21, co21, eo21⟩ := Kd.R_slice HO875.out; subst eo21) | ((with_reducible refine gate_callee (f := 35) rfl ?_); refine gL (some 23) Try.func35 #[.agg #[.int .i64 t868, .slice Ao20 t869.length co20, .int .i64 t872, .slice Ao21 t873.length co21, .string t876], .string a1] ?_; (with_reducible refine (spec_TrieHas.calls k t868 _ _ t869 t872 _ _ t873 t876 a1 t877 t878 _ ?side1 ?side2 ?side3 ?side4 A11.out).mono ?_); (case side1 => exact Cz ((Kd.R_reads' HO871.out).2.2)); (case side2 => exact (Kd.R_reads' HO871.out).2.1); (case side3 => exact Cz ((Kd.R_reads' HO875.out).2.2)); (case side4 => exact (Kd.R_reads' HO875.out).2.1); rintro e w22 ⟨rfl, hb⟩; refine ⟨_, rfl, ?_⟩; have n0_ := Rb HO871 hb; have n1_ := Rb HO875 hb; have n2_ := Kb BK866 hb; have n3_ := Bc HB hb; clear HO871 HO875 BK866 HB; revert n0_ n1_ n2_ n3_; intro HO871 HO875 BK866 HB; (try clear hb); (try clear hb2); (try clear hk); (try clear hi); obtain ⟨hcz23_0, hcz23_1, hcz23_2, hcz23_3, hcz23_4, hfz23_0, hfz23_1, hfz23_2, hfz23_3, hfz23_4⟩ := cf5 (w := w22) BK866) | ((with_reducible refine gate_callee (f := 14) rfl ?_); refine gL (some 27) Try.func14 #[.agg #[.int .i64 a0_0, .slice A0_1 l0_1.length c0_1, .int .i64 a0_2, .slice A0_3 l0_3.length c0_3, .string a0_4]] ?_; (with_reducible refine (laws_toTrie.calls k a0_0 _ _ l0_1 a0_2 _ _ l0_3 a0_4 t879 t880 t883 t884 t887 _ ?side1 ?side2 ?side3 ?side4 A12.out).mono ?_); (case side1 => exact Cz (Kd.C_below HR0_1.out HB.out)); (case side2 => exact HC0_1.out); (case side3 => exact Cz (Kd.C_below HR0_3.out HB.out)); (case side4 => exact HC0_3.out); rintro e w24 ⟨v881, v885, rfl, ho0, ho1, hb⟩; refine ⟨_, rfl, ?_⟩; have n0_ := Aside0.mk (Kd.R_mono (Kd.R_told (Kd.R_told (Kd.R_old (Rz HO871.out) hb) (Kd.R_base ho0)) (Kd.R_base ho1)) (fun _ h_ => h_.1)); have n1_ := Aside0.mk (Kd.R_mono (Kd.R_told (Kd.R_told (Kd.R_old (Rz HO875.out) hb) (Kd.R_base ho0)) (Kd.R_base ho1)) (fun _ h_ => h_.1)); have n2_ := Rm (Kd.R_new' (Kd.R_new' ho0 (Kd.R_lt (Rz HO871.out))) (Kd.R_lt (Rz HO875.out))) HB; have n3_ := Rm (Kd.R_new' (Kd.R_new' ho1 (Kd.R_lt (Rz HO871.out))) (Kd.R_lt (Rz HO875.out))) HB; have n4_ := Kb BK866 hb; have n5_ := Bc HB hb; clear HO871 HO875 BK866 HB; revert n0_ n1_ n2_ n3_ n4_ n5_; intro HO871 HO875 HO882 HO886 BK866 HB; (try clear hb); (try clear hb2); (try clear hk); (try clear hi); (try clear ho0); (try clear ho1)) | ((with_reducible refine gate_dst (N := 8) rfl ?_); refine bE 8 #[.int .i64 0, .slice none 0 0, .int .i64 0, .slice none 0 0, .string (⟨#[]⟩ : ByteArray)] 32 ?_; intro gb888 hg w25 hbox hb; have n0_ := Rb HO871 hb; have n1_ := Rb HO875 hb; have n2_ := Rb HO882 hb; have n3_ := Rb HO886 hb; have n4_ := Kb BK866 hb; have n5_ := Bc HB hb; have n6_ := Aside0.mk (hbox); have n7_ := Gm HB hg; have n8_ := Gm HB hg; have n9_ := Nl BK866 hg; have n10_ := Ng BK866 hg; clear HO871 HO875 HO882 HO886 BK866 HB; revert n0_ n1_ n2_ n3_ n4_ n5_ n6_ n7_ n8_ n9_ n10_; intro HO871 HO875 HO882 HO886 BK866 HB BK888 GW888 GE888 NB866_888 NB888_866; clear hb hbox hg; have hnb26 := NB888_866.out; have hnc26 := NB866_888.out; obtain ⟨hcz27_0, hcz27_1, hcz27_2, hcz27_3, hcz27_4, hfz27_0, hfz27_1, hfz27_2, hfz27_3, hfz27_4⟩ := cf5 (w := w25) BK888; obtain ⟨Ao28, co28, eo28⟩ := Kd.R_slice HO882.out; subst eo28; obtain ⟨Ao29, co29, eo29⟩ := Kd.R_slice HO886.out; subst eo29) | ((with_reducible refine gate_callee (f := 36) rfl ?_); refine gL (some 31) Try.func36 #[.agg #[.int .i64 t879, .slice Ao28 t880.length co28, .int .i64 t883, .slice Ao29 t884.length co29, .string t887], .string a1] ?_; (with_reducible refine (impl_TrieHas.calls k t879 _ _ t880 t883 _ _ t884 t887 a1 t889 t890 _ ?side1 ?side2 ?side3 ?side4 A13.out).mono ?_); (case side1 => refine (Kd.R_reads' (e := 3) (base := w.heap.size) (ok := fun k_ => ((some k_ ≠ (.slice Ao29 t884.length co29 : Value).ownBlock ∧ some k_ ≠ (.slice Ao20 t869.length co20 : Value).ownBlock) ∧ some k_ ≠ (.slice Ao21 t873.length co21 : Value).ownBlock)) (n := t880.length) (c := co28) ?_).2.2; exact (Rz (Kd.R_mono (Kd.R_far (p := ⟨gb888, 4, none⟩) (Kd.R_far (p := ⟨gb888, 3, none⟩) (Kd.R_far (p := ⟨gb888, 2, none⟩) (Kd.R_far (p := ⟨gb888, 1, none⟩) (Kd.R_far (p := ⟨gb888, 0, none⟩) (Kd.R_types HO882.out BK888.out (by decide)) (fun _ hk => hk.2) (.int .i64 t879)) (fun _ hk => hk.2) (.slice Ao28 t880.length co28)) (fun _ hk => hk.2) (.int .i64 t883)) (fun _ hk => hk.2) (.slice Ao29 t884.length co29)) (fun _ hk => hk.2) (.string t887)) (fun _ h_ => h_.1)))); (case side2 => exact (Kd.R_reads' HO882.out).2.1); (case side3 => refine (Kd.R_reads' (e := 3) (base := w.heap.size) (ok := fun k_ => ((some k_ ≠ (.slice Ao28 t880.length co28 : Value).ownBlock ∧ some k_ ≠ (.slice Ao20 t869.length co20 : Value).ownBlock) ∧ some k_ ≠ (.slice Ao21 t873.length co21 : Value).ownBlock)) (n := t884.length) (c := co29) ?_).2.2; exact (Rz (Kd.R_mono (Kd.R_far (p := ⟨gb888, 4, none⟩) (Kd.R_far (p := ⟨gb888, 3, none⟩) (Kd.R_far (p := ⟨gb888, 2, none⟩) (Kd.R_far (p := ⟨gb888, 1, none⟩) (Kd.R_far (p := ⟨gb888, 0, none⟩) (Kd.R_types HO886.out BK888.out (by decide)) (fun _ hk => hk.2) (.int .i64 t879)) (fun _ hk => hk.2) (.slice Ao28 t880.length co28)) (fun _ hk => hk.2) (.int .i64 t883)) (fun _ hk => hk.2) (.slice Ao29 t884.length co29)) (fun _ hk => hk.2) (.string t887)) (fun _ h_ => h_.1)))); (case side4 => exact (Kd.R_reads' HO886.out).2.1); rintro e w30 ⟨rfl, hb⟩; refine ⟨_, rfl, ?_⟩; have n0_ := Aside0.mk (Kd.R_below (Rz (Kd.R_mono (Kd.R_far (p := ⟨gb888, 4, none⟩) (Kd.R_far (p := ⟨gb888, 3, none⟩) (Kd.R_far (p := ⟨gb888, 2, none⟩) (Kd.R_far (p := ⟨gb888, 1, none⟩) (Kd.R_far (p := ⟨gb888, 0, none⟩) (Kd.R_types HO871.out BK888.out (by decide)) (fun _ hk => hk.2) (.int .i64 t879)) (fun _ hk => hk.2) (.slice Ao28 t880.length co28)) (fun _ hk => hk.2) (.int .i64 t883)) (fun _ hk => hk.2) (.slice Ao29 t884.length co29)) (fun _ hk => hk.2) (.string t887)) (fun _ h_ => h_.1))) hb); have n1_ := Aside0.mk (Kd.R_below (Rz (Kd.R_mono (Kd.R_far (p := ⟨gb888, 4, none⟩) (Kd.R_far (p := ⟨gb888, 3, none⟩) (Kd.R_far (p := ⟨gb888, 2, none⟩) (Kd.R_far (p := ⟨gb888, 1, none⟩) (Kd.R_far (p := ⟨gb888, 0, none⟩) (Kd.R_types HO875.out BK888.out (by decide)) (fun _ hk => hk.2) (.int .i64 t879)) (fun _ hk => hk.2) (.slice Ao28 t880.length co28)) (fun _ hk => hk.2) (.int .i64 t883)) (fun _ hk => hk.2) (.slice Ao29 t884.length co29)) (fun _ hk => hk.2) (.string t887)) (fun _ h_ => h_.1))) hb); have n2_ := Aside0.mk (Kd.R_below (Rz (Kd.R_mono (Kd.R_far (p := ⟨gb888, 4, none⟩) (Kd.R_far (p := ⟨gb888, 3, none⟩) (Kd.R_far (p := ⟨gb888, 2, none⟩) (Kd.R_far (p := ⟨gb888, 1, none⟩) (Kd.R_far (p := ⟨gb888, 0, none⟩) (Kd.R_types HO882.out BK888.out (by decide)) (fun _ hk => hk.2) (.int .i64 t879)) (fun _ hk => hk.2) (.slice Ao28 t880.length co28)) (fun _ hk => hk.2) (.int .i64 t883)) (fun _ hk => hk.2) (.slice Ao29 t884.length co29)) (fun _ hk => hk.2) (.string t887)) (fun _ h_ => h_.1))) hb); have n3_ := Aside0.mk (Kd.R_below (Rz (Kd.R_mono (Kd.R_far (p := ⟨gb888, 4, none⟩) (Kd.R_far (p := ⟨gb888, 3, none⟩) (Kd.R_far (p := ⟨gb888, 2, none⟩) (Kd.R_far (p := ⟨gb888, 1, none⟩) (Kd.R_far (p := ⟨gb888, 0, none⟩) (Kd.R_types HO886.out BK888.out (by decide)) (fun _ hk => hk.2) (.int .i64 t879)) (fun _ hk => hk.2) (.slice Ao28 t880.length co28)) (fun _ hk => hk.2) (.int .i64 t883)) (fun _ hk => hk.2) (.slice Ao29 t884.length co29)) (fun _ hk => hk.2) (.string t887)) (fun _ h_ => h_.1))) hb); have n4_ := Aside0.mk (blk_below (g := gb866) (o := .cells #[.int .i64 a0_0, .slice A0_1 l0_1.length c0_1, .int .i64 a0_2, .slice A0_3 l0_3.length c0_3, .string a0_4] 26 (0, 0)) (by (with_reducible repeat (first | refine blk_drewN ?_ _ | refine blk_drew ?_ | refine blk_alloc ?_ _)); refine blk_far ?_ NB866_888.out _; (with_reducible repeat (first | refine blk_drewN ?_ _ | refine blk_drew ?_ | refine blk_alloc ?_ _)); refine blk_far ?_ NB866_888.out _; (with_reducible repeat (first | refine blk_drewN ?_ _ | refine blk_drew ?_ | refine blk_alloc ?_ _)); refine blk_far ?_ NB866_888.out _; (with_reducible repeat (first | refine blk_drewN ?_ _ | refine blk_drew ?_ | refine blk_alloc ?_ _)); refine blk_far ?_ NB866_888.out _; (with_reducible repeat (first | refine blk_drewN ?_ _ | refine blk_drew ?_ | refine blk_alloc ?_ _)); refine blk_far ?_ NB866_888.out _; (with_reducible repeat (first | refine blk_drewN ?_ _ | refine blk_drew ?_ | refine blk_alloc ?_ _)); exact BK866.out) hb); have n5_ := Aside0.mk (blk_below (g := gb888) (o := .cells #[.int .i64 t879, .slice Ao28 t880.length co28, .int .i64 t883, .slice Ao29 t884.length co29, .string t887] 32 (0, 0)) (by (with_reducible repeat (first | refine blk_drewN ?_ _ | refine blk_drew ?_ | refine blk_alloc ?_ _)); refine blk_put (cs := #[.int .i64 t879, .slice Ao28 t880.length co28, .int .i64 t883, .slice Ao29 t884.length co29, .string (⟨#[]⟩ : ByteArray)]) ?_ 4 _ rfl; (with_reducible repeat (first | refine blk_drewN ?_ _ | refine blk_drew ?_ | refine blk_alloc ?_ _)); refine blk_put (cs := #[.int .i64 t879, .slice Ao28 t880.length co28, .int .i64 t883, .slice none 0 0, .string (⟨#[]⟩ : ByteArray)]) ?_ 3 _ rfl; (with_reducible repeat (first | refine blk_drewN ?_ _ | refine blk_drew ?_ | refine blk_alloc ?_ _)); refine blk_put (cs := #[.int .i64 t879, .slice Ao28 t880.length co28, .int .i64 0, .slice none 0 0, .string (⟨#[]⟩ : ByteArray)]) ?_ 2 _ rfl; (with_reducible repeat (first | refine blk_drewN ?_ _ | refine blk_drew ?_ | refine blk_alloc ?_ _)); refine blk_put (cs := #[.int .i64 t879, .slice none 0 0, .int .i64 0, .slice none 0 0, .string (⟨#[]⟩ : ByteArray)]) ?_ 1 _ rfl; (with_reducible repeat (first | refine blk_drewN ?_ _ | refine blk_drew ?_ | refine blk_alloc ?_ _)); refine blk_put (cs := #[.int .i64 0, .slice none 0 0, .int .i64 0, .slice none 0 0, .string (⟨#[]⟩ : ByteArray)]) ?_ 0 _ rfl; (with_reducible repeat (first | refine blk_drewN ?_ _ | refine blk_drew ?_ | refine blk_alloc ?_ _)); exact BK888.out) hb); have n6_ := Bc HB hb; clear HO871 HO875 HO882 HO886 BK866 BK888 HB; revert n0_ n1_ n2_ n3_ n4_ n5_ n6_; intro HO871 HO875 HO882 HO886 BK866 BK888 HB; (try clear hb); (try clear hb2); (try clear hk); (try clear hi)))
   (try simp only [Act.put, List.setIfInBounds_toArray, List.set_cons_zero, List.set_cons_succ])
   go_cut [41] (fun v41 wc => ∃ (kq : Nat) (x41_13 : Bool), v41 = .bool x41_13 ∧ Aside0 (laws_FnExactTrieHas.j0 kq x41_13 a0_0 l0_1 a0_2 l0_3 a0_4 t879 t880 t883 t884 t887 = some r) ∧ Aside0 (kq ≤ k) ∧ Aside0 (Kd.R (Kd.int .i64) 3 wc w.heap.size (fun k_ => some k_ ≠ ((.slice Ao29 t884.length co29) : Value).ownBlock) (.slice Ao28 t880.length co28) t880) ∧ Aside0 (Kd.R (Kd.int .i64) 3 wc w.heap.size (fun k_ => some k_ ≠ ((.slice Ao28 t880.length co28) : Value).ownBlock) (.slice Ao29 t884.length co29) t884) ∧ Aside0 (wc.heap[gb866]? = some (.cells #[.int .i64 a0_0, (.slice A0_1 l0_1.length c0_1), .int .i64 a0_2, (.slice A0_3 l0_3.length c0_3), .string a0_4] 26 (0, 0))) ∧ Aside0 (wc.heap[gb888]? = some (.cells #[.int .i64 t879, (.slice Ao28 t880.length co28), .int .i64 t883, (.slice Ao29 t884.length co29), .string t887] 32 (0, 0))) ∧ Aside0 (Below w.heap.size w wc))
   case first =>
    have H := HC14.out; clear HC14
    by_cases c31 : (t889 != t877) = true
    ·rw [if_pos c31] at H
     have c31b0 : (t889 != t877) = true := c31
     (try (have c31b1 : decide (t889 = t877) = false := by simpa using c31))
     (try (have c31b2 : (t889 == t877) = false := by simpa using c31))
     (try (have c31b3 : ¬ (t889 = t877) := by simpa using c31))
     clear c31
     (first | rw [c31b0] | (simp only [i64_w, i32_w]; rw [c31b0]) | skip)
     have H' := Aside0.mk H; clear H
     go_wp2
     go_meet
     case rel => exact ⟨_, (true), (by first | rfl | (simp; done) | (simp [*]; done)), H', ⟨by first | omega | exact Nat.le_refl _⟩, ⟨Rz (Kd.R_mono HO882.out (fun _ hk => hk.1.1))⟩, ⟨Rz (Kd.R_mono HO886.out (fun _ hk => hk.1.1))⟩, ⟨Kz BK866.out⟩, ⟨Kz BK888.out⟩, ⟨Bq⟩⟩
    ·rw [if_neg c31] at H
     have c31b0 : (t889 != t877) = false := by simpa using c31
     (try (have c31b1 : decide (t889 = t877) = true := by simpa using c31))
     (try (have c31b2 : (t889 == t877) = true := by simpa using c31))
     clear c31
     (first | rw [c31b0] | (simp only [i64_w, i32_w]; rw [c31b0]) | skip)
     have H' := Aside0.mk H; clear H
     go_wp2
     go_meet
     case rel => exact ⟨_, ((t890 != t878)), (by first | rfl | (simp; done) | (simp [*]; done)), H', ⟨by first | omega | exact Nat.le_refl _⟩, ⟨Rz (Kd.R_mono HO882.out (fun _ hk => hk.1.1))⟩, ⟨Rz (Kd.R_mono HO886.out (fun _ hk => hk.1.1))⟩, ⟨Kz BK866.out⟩, ⟨Kz BK888.out⟩, ⟨Bq⟩⟩
   case rest =>
    clear HC14
    try clear c1
    try clear c2
    try clear p2
    try clear c3
    try clear c3b0
    try clear c3b1
    try clear c6
    try clear c6b0
    try clear c10
    try clear c12
    try clear c14
    try clear c26
    try clear c31
    try clear c31b0
    try clear c31b1
    try clear c31b2
    try clear hcz16_0
    try clear hcz16_1
    try clear hcz16_2
    try clear hcz16_3
    try clear hcz16_4
    try clear hcz18_0
    try clear hcz18_1
    try clear hcz18_2
    try clear hcz18_3
    try clear hcz18_4
    try clear hcz23_0
    try clear hcz23_1
    try clear hcz23_2
    try clear hcz23_3
    try clear hcz23_4
    try clear hcz27_0
    try clear hcz27_1
    try clear hcz27_2
    try clear hcz27_3
    try clear hcz27_4
    try clear hcz8_0
    try clear hcz8_1
    try clear hcz8_2
    try clear hcz8_3
    try clear hcz8_4
    try clear hfz16_0
    try clear hfz16_1
    try clear hfz16_2
    try clear hfz16_3
    try clear hfz16_4
    try clear hfz18_0
    try clear hfz18_1
    try clear hfz18_2
    try clear hfz18_3
    try clear hfz18_4
    try clear hfz23_0
    try clear hfz23_1
    try clear hfz23_2
    try clear hfz23_3
    try clear hfz23_4
    try clear hfz27_0
    try clear hfz27_1
    try clear hfz27_2
    try clear hfz27_3
    try clear hfz27_4
    try clear hfz8_0
    try clear hfz8_1
    try clear hfz8_2
    try clear hfz8_3
    try clear hfz8_4
    obtain ⟨kq, x41_13, rfl, HA, HJ13, HO_889001, HO_889003, BK866, BK888, HB⟩ := hcut; cases kq with
    | zero => exact absurd HA.out (by simp [laws_FnExactTrieHas.j0])
    | succ kj13 =>
     have H := HA.out; clear HA
     simp only [laws_FnExactTrieHas.j0] at H
     by_cases c32 : x41_13 = true
     ·subst c32
      have H1 : (some false) = some r := by rw [if_pos rfl] at H; exact H
      clear H; have H := H1; clear H1; obtain rfl := Option.some.inj H
      go_wp2
      go_ret
      exact ⟨by first | rfl | (simp [errW_none, errW_some] <;> rfl) | (simp [*, errW_none, errW_some] <;> rfl), Bq⟩
     ·replace c32 := Bool.eq_false_iff.mpr c32
      subst c32
      have H1 : ((laws_toTrie.f kj13 a0_0 l0_1 a0_2 l0_3 a0_4).bind fun bt891 => ((laws_eqTrie.f kj13 t879 t880 t883 t884 t887 bt891.1 bt891.2.1 bt891.2.2.1 bt891.2.2.2.1 bt891.2.2.2.2).bind fun t900 => (if t900 = true then (some true) else (some false)))) = some r := by rw [if_neg (show ¬ (false = true) by decide)] at H; exact H
      clear H; have H := H1; clear H1; replace H := Option.bind_eq_some_iff.mp H; obtain ⟨⟨t891, t892, t895, t896, t899⟩, A330, H⟩ := H; replace H : ((laws_eqTrie.f kj13 t879 t880 t883 t884 t887 t891 t892 t895 t896 t899).bind fun t900 => (if t900 = true then (some true) else (some false))) = some r := H; have A33 := Aside0.mk A330; clear A330; replace H := Option.bind_eq_some_iff.mp H; obtain ⟨t900, A340, H⟩ := H; replace H : (if t900 = true then (some true) else (some false)) = some r := H; have A34 := Aside0.mk A340; clear A340
      by_cases c35 : t900 = true
      ·subst c35
       have H1 : (some true) = some r := by rw [if_pos rfl] at H; exact H
       clear H; have H := H1; clear H1; obtain rfl := Option.some.inj H
       try go_wp2
       have n0_ := Aside0.mk (Kd.R_drew HO_889001.out); have n1_ := Aside0.mk (Kd.R_drew HO_889003.out); have n2_ := Aside0.mk (blk_drew BK866.out); have n3_ := Aside0.mk (blk_drew BK888.out); have n4_ := Aside0.mk (below_drew1 HB.out); clear HO_889001 HO_889003 BK866 BK888 HB; revert n0_ n1_ n2_ n3_ n4_; intro HO_889001 HO_889003 BK866 BK888 HB; refine start_ (n := 5) (S := fun w' => w'.cell? ⟨gb888, 0, none⟩ = some (.int .i64 t879) ∧ w'.cell? ⟨gb888, 1, none⟩ = some (.slice Ao28 t880.length co28) ∧ w'.cell? ⟨gb888, 2, none⟩ = some (.int .i64 t883) ∧ w'.cell? ⟨gb888, 3, none⟩ = some (.slice Ao29 t884.length co29) ∧ w'.cell? ⟨gb888, 4, none⟩ = some (.string t887) ∧ w'.cell? ⟨gb866, 0, none⟩ = some (.int .i64 a0_0) ∧ w'.cell? ⟨gb866, 1, none⟩ = some (.slice A0_1 l0_1.length c0_1) ∧ w'.cell? ⟨gb866, 2, none⟩ = some (.int .i64 a0_2) ∧ w'.cell? ⟨gb866, 3, none⟩ = some (.slice A0_3 l0_3.length c0_3) ∧ w'.cell? ⟨gb866, 4, none⟩ = some (.string a0_4)) (ds := []) (bA 5 0) (by kernel_rfl) rfl rfl ⟨cz BK888 0, cz BK888 1, cz BK888 2, cz BK888 3, cz BK888 4, cz BK866 0, cz BK866 1, cz BK866 2, cz BK866 3, cz BK866 4⟩ (fun hHeld => ?_); generalize wc.drew = w36 at HO_889001 HO_889003 BK866 BK888 HB hHeld ⊢; refine take_ (i := 0) (N := some 42) (v := ?_) (a' := ?_) (bA 5 1) rfl rfl (by kernel_rfl) (fun _ _ _ h => h) (Or.inl ⟨by rfl, ?_⟩) hHeld ?_ ?_
       rotate_left
       ·rintro w' ⟨s0, s1, s2, s3, s4, s5, s6, s7, s8, s9⟩
        go_simp
        with_reducible rfl
       rotate_left
       ·simp only [Act.put, List.setIfInBounds_toArray, List.set_cons_zero, List.set_cons_succ, i64_w, i32_w]
        rfl
       refine take_ (i := 1) (N := some 43) (v := ?_) (a' := ?_) (bA 5 3) rfl rfl (by kernel_rfl) (fun _ _ _ h => h) (Or.inl ⟨by rfl, ?_⟩) hHeld ?_ ?_
       rotate_left
       ·rintro w' ⟨s0, s1, s2, s3, s4, s5, s6, s7, s8, s9⟩
        go_simp
        with_reducible rfl
       rotate_left
       ·simp only [Act.put, List.setIfInBounds_toArray, List.set_cons_zero, List.set_cons_succ, i64_w, i32_w]
        rfl
       refine one_ (i := 2) (N := some 44) (bA 5 7) rfl rfl (by kernel_rfl) (by decide) (fun K hK => ?_); refine gZ Try.func14 #[.agg #[.int .i64 a0_0, .slice A0_1 l0_1.length c0_1, .int .i64 a0_2, .slice A0_3 l0_3.length c0_3, .string a0_4]] ?_
       with_reducible refine (laws_toTrie.calls kj13 a0_0 _ _ l0_1 a0_2 _ _ l0_3 a0_4 t891 t892 t895 t896 t899 _ ?side1 ?side2 ?side3 ?side4 A33.out).mono ?_
       (case side1 => exact Cz (Kd.C_below HR0_1.out HB.out))
       (case side2 => exact HC0_1.out)
       (case side3 => exact Cz (Kd.C_below HR0_3.out HB.out))
       (case side4 => exact HC0_3.out)
       rintro e w37 ⟨v893, v897, rfl, ho0, ho1, hb⟩; refine ⟨_, rfl, ?_⟩; have n0_ := Aside0.mk (Kd.R_mono (Kd.R_told (Kd.R_told (Kd.R_old (Rz HO_889001.out) hb) (Kd.R_base ho0)) (Kd.R_base ho1)) (fun _ h_ => h_.1)); have n1_ := Aside0.mk (Kd.R_mono (Kd.R_told (Kd.R_told (Kd.R_old (Rz HO_889003.out) hb) (Kd.R_base ho0)) (Kd.R_base ho1)) (fun _ h_ => h_.1)); have n2_ := Rm (Kd.R_new' (Kd.R_new' ho0 (Kd.R_lt (Rz HO_889001.out))) (Kd.R_lt (Rz HO_889003.out))) HB; have n3_ := Rm (Kd.R_new' (Kd.R_new' ho1 (Kd.R_lt (Rz HO_889001.out))) (Kd.R_lt (Rz HO_889003.out))) HB; have n4_ := Kb BK866 hb; have n5_ := Kb BK888 hb; have n6_ := Bc HB hb; clear HO_889001 HO_889003 BK866 BK888 HB; revert n0_ n1_ n2_ n3_ n4_ n5_ n6_; intro HO_889001 HO_889003 HO894 HO898 BK866 BK888 HB
       (try clear hb)
       (try clear hb2)
       (try clear hk)
       (try clear hi)
       (try clear ho0)
       (try clear ho1)
       obtain ⟨Ao38, co38, eo38⟩ := Kd.R_slice HO894.out
       (first | subst eo38 | (injection eo38 with f1_ f2_ f3_; have f4_ := f1_.symm; have f5_ := f3_.symm; clear f1_ f2_ f3_; subst f4_; subst f5_))
       obtain ⟨Ao39, co39, eo39⟩ := Kd.R_slice HO898.out
       (first | subst eo39 | (injection eo39 with f1_ f2_ f3_; have f4_ := f1_.symm; have f5_ := f3_.symm; clear f1_ f2_ f3_; subst f4_; subst f5_))
       refine hK.out _ _ ⟨cz BK888 0, cz BK888 1, cz BK888 2, cz BK888 3, cz BK888 4, cz BK866 0, cz BK866 1, cz BK866 2, cz BK866 3, cz BK866 4⟩ (fun hHeld => ?_); clear hK K; refine norm_ (a' := ?_) ?_ ?_
       rotate_left
       ·show Act.put _ (some 44) _ = _
        simp only [Act.put, List.setIfInBounds_toArray, List.set_cons_zero, List.set_cons_succ, i64_w, i32_w]
        rfl
       refine one_ (i := 3) (N := some 45) (bA 5 15) rfl rfl (by kernel_rfl) (by decide) (fun K hK => ?_); refine gZ Try.func16 #[.agg #[.int .i64 t879, .slice Ao28 t880.length co28, .int .i64 t883, .slice Ao29 t884.length co29, .string t887], .agg #[.int .i64 t891, .slice Ao38 t892.length co38, .int .i64 t895, .slice Ao39 t896.length co39, .string t899]] ?_
       with_reducible refine (laws_eqTrie.calls kj13 t879 _ _ t880 t883 _ _ t884 t887 t891 _ _ t892 t895 _ _ t896 t899 true _ ?side1 ?side2 ?side3 ?side4 ?side5 ?side6 ?side7 ?side8 A34.out).mono ?_
       (case side1 => exact Cz ((Kd.R_reads' HO_889001.out).2.2))
       (case side2 => exact (Kd.R_reads' HO_889001.out).2.1)
       (case side3 => exact Cz ((Kd.R_reads' HO_889003.out).2.2))
       (case side4 => exact (Kd.R_reads' HO_889003.out).2.1)
       (case side5 => exact Cz ((Kd.R_reads' HO894.out).2.2))
       (case side6 => exact (Kd.R_reads' HO894.out).2.1)
       (case side7 => exact Cz ((Kd.R_reads' HO898.out).2.2))
       (case side8 => exact (Kd.R_reads' HO898.out).2.1)
       rintro e w40 ⟨rfl, hb⟩; refine ⟨_, rfl, ?_⟩; have n0_ := Rb HO_889001 hb; have n1_ := Rb HO_889003 hb; have n2_ := Rb HO894 hb; have n3_ := Rb HO898 hb; have n4_ := Kb BK866 hb; have n5_ := Kb BK888 hb; have n6_ := Bc HB hb; clear HO_889001 HO_889003 HO894 HO898 BK866 BK888 HB; revert n0_ n1_ n2_ n3_ n4_ n5_ n6_; intro HO_889001 HO_889003 HO894 HO898 BK866 BK888 HB
       (try clear hb)
       (try clear hb2)
       (try clear hk)
       (try clear hi)
       refine hK.out _ _ ⟨cz BK888 0, cz BK888 1, cz BK888 2, cz BK888 3, cz BK888 4, cz BK866 0, cz BK866 1, cz BK866 2, cz BK866 3, cz BK866 4⟩ (fun hHeld => ?_); clear hK K; refine norm_ (a' := ?_) ?_ ?_
       rotate_left
       ·show Act.put _ (some 45) _ = _
        simp only [Act.put, List.setIfInBounds_toArray, List.set_cons_zero, List.set_cons_succ, i64_w, i32_w]
        rfl
       refine pure_ (i := 4) (N := some 46) (v := ?_) (a' := ?_) (bA 5 31) rfl rfl (by kernel_rfl) (fun _ _ _ h => h) (Or.inl ⟨by rfl, ?_⟩) ?_ ?_
       rotate_left
       ·intro w'
        go_simp
        with_reducible rfl
       rotate_left
       ·simp only [Act.put, List.setIfInBounds_toArray, List.set_cons_zero, List.set_cons_succ, i64_w, i32_w]
        rfl
       refine done_ (by kernel_rfl) ?_
       try go_wp2
       go_ret
       exact ⟨by first | rfl | (simp [errW_none, errW_some] <;> rfl) | (simp [*, errW_none, errW_some] <;> rfl), Bq⟩
      ·replace c35 := Bool.eq_false_iff.mpr c35
       subst c35
       have H1 : (some false) = some r := by rw [if_neg (show ¬ (false = true) by decide)] at H; exact H
       clear H; have H := H1; clear H1; obtain rfl := Option.some.inj H
       try go_wp2
       have n0_ := Aside0.mk (Kd.R_drew HO_889001.out); have n1_ := Aside0.mk (Kd.R_drew HO_889003.out); have n2_ := Aside0.mk (blk_drew BK866.out); have n3_ := Aside0.mk (blk_drew BK888.out); have n4_ := Aside0.mk (below_drew1 HB.out); clear HO_889001 HO_889003 BK866 BK888 HB; revert n0_ n1_ n2_ n3_ n4_; intro HO_889001 HO_889003 BK866 BK888 HB; refine start_ (n := 5) (S := fun w' => w'.cell? ⟨gb888, 0, none⟩ = some (.int .i64 t879) ∧ w'.cell? ⟨gb888, 1, none⟩ = some (.slice Ao28 t880.length co28) ∧ w'.cell? ⟨gb888, 2, none⟩ = some (.int .i64 t883) ∧ w'.cell? ⟨gb888, 3, none⟩ = some (.slice Ao29 t884.length co29) ∧ w'.cell? ⟨gb888, 4, none⟩ = some (.string t887) ∧ w'.cell? ⟨gb866, 0, none⟩ = some (.int .i64 a0_0) ∧ w'.cell? ⟨gb866, 1, none⟩ = some (.slice A0_1 l0_1.length c0_1) ∧ w'.cell? ⟨gb866, 2, none⟩ = some (.int .i64 a0_2) ∧ w'.cell? ⟨gb866, 3, none⟩ = some (.slice A0_3 l0_3.length c0_3) ∧ w'.cell? ⟨gb866, 4, none⟩ = some (.string a0_4)) (ds := []) (bA 5 0) (by kernel_rfl) rfl rfl ⟨cz BK888 0, cz BK888 1, cz BK888 2, cz BK888 3, cz BK888 4, cz BK866 0, cz BK866 1, cz BK866 2, cz BK866 3, cz BK866 4⟩ (fun hHeld => ?_); generalize wc.drew = w41 at HO_889001 HO_889003 BK866 BK888 HB hHeld ⊢; refine take_ (i := 0) (N := some 42) (v := ?_) (a' := ?_) (bA 5 1) rfl rfl (by kernel_rfl) (fun _ _ _ h => h) (Or.inl ⟨by rfl, ?_⟩) hHeld ?_ ?_
       rotate_left
       ·rintro w' ⟨s0, s1, s2, s3, s4, s5, s6, s7, s8, s9⟩
        go_simp
        with_reducible rfl
       rotate_left
       ·simp only [Act.put, List.setIfInBounds_toArray, List.set_cons_zero, List.set_cons_succ, i64_w, i32_w]
        rfl
       refine take_ (i := 1) (N := some 43) (v := ?_) (a' := ?_) (bA 5 3) rfl rfl (by kernel_rfl) (fun _ _ _ h => h) (Or.inl ⟨by rfl, ?_⟩) hHeld ?_ ?_
       rotate_left
       ·rintro w' ⟨s0, s1, s2, s3, s4, s5, s6, s7, s8, s9⟩
        go_simp
        with_reducible rfl
       rotate_left
       ·simp only [Act.put, List.setIfInBounds_toArray, List.set_cons_zero, List.set_cons_succ, i64_w, i32_w]
        rfl
       refine one_ (i := 2) (N := some 44) (bA 5 7) rfl rfl (by kernel_rfl) (by decide) (fun K hK => ?_); refine gZ Try.func14 #[.agg #[.int .i64 a0_0, .slice A0_1 l0_1.length c0_1, .int .i64 a0_2, .slice A0_3 l0_3.length c0_3, .string a0_4]] ?_
       with_reducible refine (laws_toTrie.calls kj13 a0_0 _ _ l0_1 a0_2 _ _ l0_3 a0_4 t891 t892 t895 t896 t899 _ ?side1 ?side2 ?side3 ?side4 A33.out).mono ?_
       (case side1 => exact Cz (Kd.C_below HR0_1.out HB.out))
       (case side2 => exact HC0_1.out)
       (case side3 => exact Cz (Kd.C_below HR0_3.out HB.out))
       (case side4 => exact HC0_3.out)
       rintro e w42 ⟨v893, v897, rfl, ho0, ho1, hb⟩; refine ⟨_, rfl, ?_⟩; have n0_ := Aside0.mk (Kd.R_mono (Kd.R_told (Kd.R_told (Kd.R_old (Rz HO_889001.out) hb) (Kd.R_base ho0)) (Kd.R_base ho1)) (fun _ h_ => h_.1)); have n1_ := Aside0.mk (Kd.R_mono (Kd.R_told (Kd.R_told (Kd.R_old (Rz HO_889003.out) hb) (Kd.R_base ho0)) (Kd.R_base ho1)) (fun _ h_ => h_.1)); have n2_ := Rm (Kd.R_new' (Kd.R_new' ho0 (Kd.R_lt (Rz HO_889001.out))) (Kd.R_lt (Rz HO_889003.out))) HB; have n3_ := Rm (Kd.R_new' (Kd.R_new' ho1 (Kd.R_lt (Rz HO_889001.out))) (Kd.R_lt (Rz HO_889003.out))) HB; have n4_ := Kb BK866 hb; have n5_ := Kb BK888 hb; have n6_ := Bc HB hb; clear HO_889001 HO_889003 BK866 BK888 HB; revert n0_ n1_ n2_ n3_ n4_ n5_ n6_; intro HO_889001 HO_889003 HO894 HO898 BK866 BK888 HB
       (try clear hb)
       (try clear hb2)
       (try clear hk)
       (try clear hi)
       (try clear ho0)
       (try clear ho1)
       obtain ⟨Ao43, co43, eo43⟩ := Kd.R_slice HO894.out
       (first | subst eo43 | (injection eo43 with f1_ f2_ f3_; have f4_ := f1_.symm; have f5_ := f3_.symm; clear f1_ f2_ f3_; subst f4_; subst f5_))
       obtain ⟨Ao44, co44, eo44⟩ := Kd.R_slice HO898.out
       (first | subst eo44 | (injection eo44 with f1_ f2_ f3_; have f4_ := f1_.symm; have f5_ := f3_.symm; clear f1_ f2_ f3_; subst f4_; subst f5_))
       refine hK.out _ _ ⟨cz BK888 0, cz BK888 1, cz BK888 2, cz BK888 3, cz BK888 4, cz BK866 0, cz BK866 1, cz BK866 2, cz BK866 3, cz BK866 4⟩ (fun hHeld => ?_); clear hK K; refine norm_ (a' := ?_) ?_ ?_
       rotate_left
       ·show Act.put _ (some 44) _ = _
        simp only [Act.put, List.setIfInBounds_toArray, List.set_cons_zero, List.set_cons_succ, i64_w, i32_w]
        rfl
       refine one_ (i := 3) (N := some 45) (bA 5 15) rfl rfl (by kernel_rfl) (by decide) (fun K hK => ?_); refine gZ Try.func16 #[.agg #[.int .i64 t879, .slice Ao28 t880.length co28, .int .i64 t883, .slice Ao29 t884.length co29, .string t887], .agg #[.int .i64 t891, .slice Ao43 t892.length co43, .int .i64 t895, .slice Ao44 t896.length co44, .string t899]] ?_
       with_reducible refine (laws_eqTrie.calls kj13 t879 _ _ t880 t883 _ _ t884 t887 t891 _ _ t892 t895 _ _ t896 t899 false _ ?side1 ?side2 ?side3 ?side4 ?side5 ?side6 ?side7 ?side8 A34.out).mono ?_
       (case side1 => exact Cz ((Kd.R_reads' HO_889001.out).2.2))
       (case side2 => exact (Kd.R_reads' HO_889001.out).2.1)
       (case side3 => exact Cz ((Kd.R_reads' HO_889003.out).2.2))
       (case side4 => exact (Kd.R_reads' HO_889003.out).2.1)
       (case side5 => exact Cz ((Kd.R_reads' HO894.out).2.2))
       (case side6 => exact (Kd.R_reads' HO894.out).2.1)
       (case side7 => exact Cz ((Kd.R_reads' HO898.out).2.2))
       (case side8 => exact (Kd.R_reads' HO898.out).2.1)
       rintro e w45 ⟨rfl, hb⟩; refine ⟨_, rfl, ?_⟩; have n0_ := Rb HO_889001 hb; have n1_ := Rb HO_889003 hb; have n2_ := Rb HO894 hb; have n3_ := Rb HO898 hb; have n4_ := Kb BK866 hb; have n5_ := Kb BK888 hb; have n6_ := Bc HB hb; clear HO_889001 HO_889003 HO894 HO898 BK866 BK888 HB; revert n0_ n1_ n2_ n3_ n4_ n5_ n6_; intro HO_889001 HO_889003 HO894 HO898 BK866 BK888 HB
       (try clear hb)
       (try clear hb2)
       (try clear hk)
       (try clear hi)
       refine hK.out _ _ ⟨cz BK888 0, cz BK888 1, cz BK888 2, cz BK888 3, cz BK888 4, cz BK866 0, cz BK866 1, cz BK866 2, cz BK866 3, cz BK866 4⟩ (fun hHeld => ?_); clear hK K; refine norm_ (a' := ?_) ?_ ?_
       rotate_left
       ·show Act.put _ (some 45) _ = _
        simp only [Act.put, List.setIfInBounds_toArray, List.set_cons_zero, List.set_cons_succ, i64_w, i32_w]
        rfl
       refine pure_ (i := 4) (N := some 46) (v := ?_) (a' := ?_) (bA 5 31) rfl rfl (by kernel_rfl) (fun _ _ _ h => h) (Or.inl ⟨by rfl, ?_⟩) ?_ ?_
       rotate_left
       ·intro w'
        go_simp
        with_reducible rfl
       rotate_left
       ·simp only [Act.put, List.setIfInBounds_toArray, List.set_cons_zero, List.set_cons_succ, i64_w, i32_w]
        rfl
       refine done_ (by kernel_rfl) ?_
       try go_wp2
       go_ret
       exact ⟨by first | rfl | (simp [errW_none, errW_some] <;> rfl) | (simp [*, errW_none, errW_some] <;> rfl), Bq⟩

def laws_FnExactTrieHas.Pure : Prop := ∀ (a0_0 : Int) (l0_1 : List Int) (a0_2 : Int) (l0_3 : List Int) (a0_4 : ByteArray) (a1 : ByteArray), (Lit.int .i64 a0_0).wf = true → l0_1.length ≤ maxLen → (∀ x ∈ l0_1, (Lit.int .i64 x).wf = true) → (Lit.int .i64 a0_2).wf = true → l0_3.length ≤ maxLen → (∀ x ∈ l0_3, (Lit.int .i64 x).wf = true) → a0_4.size ≤ maxLen → a1.size ≤ maxLen → ∃ k, laws_FnExactTrieHas.f k a0_0 l0_1 a0_2 l0_3 a0_4 a1 = some true
theorem laws_FnExactTrieHas.walk (P : laws_FnExactTrieHas.Pure) (a0_0 : Int) (A0_1 : Option Addr) (c0_1 : Nat) (l0_1 : List Int) (a0_2 : Int) (A0_3 : Option Addr) (c0_3 : Nat) (l0_3 : List Int) (a0_4 : ByteArray) (a1 : ByteArray) (w : World) (hw0_0 : (Lit.int .i64 a0_0).wf = true) (hr0_1 : Kd.C (Kd.int .i64) w A0_1 l0_1.length l0_1) (hc0_1 : l0_1.length ≤ c0_1) (hm0_1 : l0_1.length ≤ maxLen) (hw0_1 : ∀ x ∈ l0_1, (Lit.int .i64 x).wf = true) (hw0_2 : (Lit.int .i64 a0_2).wf = true) (hr0_3 : Kd.C (Kd.int .i64) w A0_3 l0_3.length l0_3) (hc0_3 : l0_3.length ≤ c0_3) (hm0_3 : l0_3.length ≤ maxLen) (hw0_3 : ∀ x ∈ l0_3, (Lit.int .i64 x).wf = true) (hw0_4 : a0_4.size ≤ maxLen) (hw1 : a1.size ≤ maxLen) :
  Calls Try.prog 10 #[.agg #[.int .i64 a0_0, .slice A0_1 l0_1.length c0_1, .int .i64 a0_2, .slice A0_3 l0_3.length c0_3, .string a0_4], .string a1] w fun e w' => e = .returned (.bool true) ∧ Below w.heap.size w w' := by
 obtain ⟨k, h⟩ := P a0_0 l0_1 a0_2 l0_3 a0_4 a1 hw0_0 hm0_1 hw0_1 hw0_2 hm0_3 hw0_3 hw0_4 hw1; refine (laws_FnExactTrieHas.calls k a0_0 A0_1 c0_1 l0_1 a0_2 A0_3 c0_3 l0_3 a0_4 a1 true w hr0_1 hc0_1 hr0_3 hc0_3 h).mono ?_; rintro e w' ⟨rfl, hd⟩; exact ⟨rfl, hd⟩

end Go.Proofs.Ytalfkfddpamnjaa.PA
namespace Go.Proofs.Ytalfkfddpamnjaa.Pure
open Go Go.RowKit Go.Proofs.YtalfkfddpamnjaaW.PrintWords Go.Proofs.YtalfkfddpamnjaaW.PrintMore Go.Proofs.YtalfkfddpamnjaaGp Go.Proofs.Ytalfkfddpamnjaa.PA Go.Proofs.YtalfkfddpamnjaaQ

theorem FnExactTrieHas : laws_FnExactTrieHas.Pure := by
  intro nB lB nE lE lab a1 hnB hlB hwB hnE hlE hwE hlab ha1
  refine Ev.rounds (r := true) ?_
  unfold laws_FnExactTrieHas.f
  by_cases big : (a1.size : Int) > 1048576
  · exact ev_pos big (Ev.now _)
  obtain ⟨v, ev, hv⟩ := szTrie_f nB lB nE lE lab hlB hlE hlab
  rw [ev]
  refine ev_neg big (ev_bind _ (Ev.now _) ?_)
  by_cases c : v < 0
  · exact ev_pos c (Ev.now _)
  obtain ⟨hB, hE, hL⟩ := hv c
  have hT := toTrie_f nB lB nE lE lab hB hE
  have hK := kept_f nB lB nE lE lab hB hE
  refine ev_neg c (ev_bind _ hT ?_)
  have both : ∃ r, Ev (fun k => spec_TrieHas.f k nB lB nE lE lab a1) r ∧ Ev (fun k => impl_TrieHas.f k nB lB nE lE lab a1) r := by
    rcases trie_both nB lB nE lE lab hB hE with ⟨K, Y⟩ | ⟨KS, Y⟩
    · have := areKeysB_len Y.keys
      refine ⟨(hasS K a1, true), ?_, ?_⟩
      · unfold spec_TrieHas.f
        exact ev_bind _ Y.sK (ev_pos rfl (ev_bind _ (spec_l1HasS_f K a1 (by omega)) (Ev.now _)))
      · unfold impl_TrieHas.f
        exact ev_bind _ Y.iK (ev_bind _ (slices_Contains_string_string_f K a1 (by omega)) (Ev.now _))
    · refine ⟨(false, false), ?_, ?_⟩
      · unfold spec_TrieHas.f
        exact ev_bind _ Y.sK (ev_neg (by simp) (Ev.now _))
      · unfold impl_TrieHas.f
        exact ev_bind _ Y.iK (ev_bind _ (slices_Contains_string_string_f [] a1 (by simp)) (Ev.now _))
  obtain ⟨r, hS, hI⟩ := both
  refine ev_bind _ hS (ev_bind _ hT (ev_bind _ hI (ev_neg (by simp) (ev_succ ?_))))
  simp only [laws_FnExactTrieHas.j0]
  exact ev_neg (by simp) hK
end Go.Proofs.Ytalfkfddpamnjaa.Pure
