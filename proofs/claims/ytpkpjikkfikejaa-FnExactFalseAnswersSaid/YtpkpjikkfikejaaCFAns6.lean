import Derived.Test.YtpkpjikkfikejaaCFAns1
import Derived.Test.YtpkpjikkfikejaaCFAns5
import Derived.Test.YtpkpjikkfikejaaCFAns2
import Derived.Test.YtpkpjikkfikejaaCFAns3
import Derived.Test.YtpkpjikkfikejaaCFAns4
-- printed by a program of this session (wip/gp) out of the translation; Lean checks it
namespace Go.Proofs.Ytpkpjikkfikejaa.PA
open Go.RowKit Go.Proofs.YtpkpjikkfikejaaW.PrintWords Go.Proofs.YtpkpjikkfikejaaW.PrintLast Go.Proofs.YtpkpjikkfikejaaW.PrintMore
attribute [local go_sem] max2_int min2_int max_two min_two max_three min_three max_four min_four   -- for this text's walks alone
attribute [local go_sem] Go.Proofs.YtpkpjikkfikejaaGp.str_geq Go.Proofs.YtpkpjikkfikejaaGp.str_gtr Go.Proofs.YtpkpjikkfikejaaGp.str_leq
set_option linter.unusedVariables false
set_option linter.unusedSimpArgs false

/-! ### laws_heldBits: function 92 -/
def laws_heldBits.f (k : Nat) (a0_0 : Int) (l0_1 : List Int) (a1 : Int) : Option (Int) := (laws_heldIntS.f k l0_1 a1).bind fun t242 => (if t242 < 0 then (some (-1)) else (some t242))
theorem laws_heldBits.mono : ∀ a0 a1 a2 k, LeO (laws_heldBits.f k a0 a1 a2) (laws_heldBits.f (k + 1) a0 a1 a2) := by
 intro a0 a1 a2 k
 unfold laws_heldBits.f
 repeat' first
   | (with_reducible exact laws_heldIntS.mono _ _ _)
   | (with_reducible exact LeO.refl _)
   | (with_reducible exact LeO.none _)
   | (with_reducible refine LeO.ite ?_ ?_)
   | (with_reducible refine LeO.bind ?_ (fun _ => ?_))
   | exact laws_heldIntS.mono _ _ _
   | exact LeO.none _
   | refine LeO.ite ?_ ?_
   | refine LeO.bind ?_ (fun _ => ?_)
set_option maxHeartbeats 8000000 in
set_option maxRecDepth 100000 in
theorem laws_heldBits.calls (k : Nat) (a0_0 : Int) (A0_1 : Option Addr) (c0_1 : Nat) (l0_1 : List Int) (a1 : Int) (r : Int) (w : World) (hr0_1 : Kd.C (Kd.int .i64) w A0_1 l0_1.length l0_1) (hc0_1 : l0_1.length ≤ c0_1) (h : laws_heldBits.f k a0_0 l0_1 a1 = some r) :
  Calls Try.prog 92 #[.agg #[.int .i64 a0_0, .slice A0_1 l0_1.length c0_1], .int .i64 a1] w fun e w' => e = .returned (.int .i64 r) ∧ Below w.heap.size w w' := by
 have hu26 := Try.underlying26
 have HR0_1 := Aside0.mk hr0_1
 have HC0_1 := Aside0.mk hc0_1
 clear hr0_1 hc0_1
 have HB := Aside0.mk (Below.refl w.heap.size w)
 have H : ((laws_heldIntS.f k l0_1 a1).bind fun t242 => (if t242 < 0 then (some (-1)) else (some t242))) = some r := h
 clear h
 replace H := Option.bind_eq_some_iff.mp H
 obtain ⟨t242, A30, H⟩ := H
 replace H : (if t242 < 0 then (some (-1)) else (some t242)) = some r := H
 have A3 := Aside0.mk A30
 clear A30
 by_cases c4 : t242 < 0
 ·rw [if_pos c4] at H
  have c4b0 : decide (t242 < 0) = true := decide_eq_true c4
  clear c4
  obtain rfl := Option.some.inj H
  go_enter Try.func92, Try.ntmps92
  go_wp2_with (first | ((with_reducible refine gate_dst (N := 2) rfl ?_); refine box_event ?hg (N := 2) ?hd (cs := #[.int .i64 a0_0, .slice A0_1 l0_1.length c0_1]) (t := 26) ?hr ?_; (case hd => rfl); (case hg => rfl); (case hr => first | (go_simp; done) | (go_simp; rfl)); intro gb241 hg w5 hbox hb; have n0_ := Aside0.mk (below_step (by repeat (first | (with_reducible first | exact HB.out | apply below_alloc | apply pw_below_drewN | apply below_drew1) | exact HB.out)) hb); have n1_ := Aside0.mk (hbox); have n2_ := Aside0.mk ((by rw [hg]; exact (below_size (by repeat (first | (with_reducible first | exact HB.out | apply below_alloc | apply pw_below_drewN | apply below_drew1) | exact HB.out))) : w.heap.size ≤ gb241)); have n3_ := Aside0.mk ((by rw [hg]; exact (below_size (by repeat (first | (with_reducible first | exact HB.out | apply below_alloc | apply pw_below_drewN | apply below_drew1) | exact HB.out))) : w.heap.size ≤ gb241)); clear HB; have HB := n0_; have BK241 := n1_; have GW241 := n2_; have GE241 := n3_; clear n0_ n1_ n2_ n3_; clear hb hbox hg; have hcz6_0 : w5.cell? ⟨gb241, 0, none⟩ = some (.int .i64 a0_0) := (blk_cell BK241.out 0).trans rfl; have hcz6_1 : w5.cell? ⟨gb241, 1, none⟩ = some (.slice A0_1 l0_1.length c0_1) := (blk_cell BK241.out 1).trans rfl; have hfz6_0 := blk_frozen BK241.out 0; have hfz6_1 := blk_frozen BK241.out 1) | ((with_reducible refine gate_callee (f := 42) rfl ?_); refine goesL_ (some 8) rfl rfl Try.func42 (by kernel_rfl) rfl #[.slice A0_1 l0_1.length c0_1, .int .i64 a1] rfl (by (try simp only [List.map_toArray, List.map_cons, List.map_nil]); first | done | rfl | (simp only [List.length_drop, List.length_take]; rfl)) ?_; (with_reducible refine (laws_heldIntS.calls k _ _ l0_1 a1 t242 _ ?side1 ?side2 A3.out).mono ?_); (case side1 => repeat (first | exact (Kd.C_below HR0_1.out HB.out) | (with_reducible refine Kd.C_alloc ?_ _) | (with_reducible refine Kd.C_drewN ?_ _) | (with_reducible refine Kd.C_drew ?_))); (case side2 => exact HC0_1.out); rintro e w' ⟨rfl, ⟨nd, rfl⟩⟩; refine ⟨_, rfl, ?_⟩))
  go_ret
  exact ⟨by first | rfl | (simp [errW_none, errW_some] <;> rfl) | (simp [*, errW_none, errW_some] <;> rfl), by repeat (first | (with_reducible first | exact HB.out | apply below_alloc | apply pw_below_drewN | apply below_drew1 | refine below_set ?_ GE241.out) | exact HB.out)⟩
 ·rw [if_neg c4] at H
  have c4b0 : decide (t242 < 0) = false := decide_eq_false c4
  clear c4
  obtain rfl := Option.some.inj H
  go_enter Try.func92, Try.ntmps92
  go_wp2_with (first | ((with_reducible refine gate_dst (N := 2) rfl ?_); refine box_event ?hg (N := 2) ?hd (cs := #[.int .i64 a0_0, .slice A0_1 l0_1.length c0_1]) (t := 26) ?hr ?_; (case hd => rfl); (case hg => rfl); (case hr => first | (go_simp; done) | (go_simp; rfl)); intro gb241 hg w7 hbox hb; have n0_ := Aside0.mk (below_step (by repeat (first | (with_reducible first | exact HB.out | apply below_alloc | apply pw_below_drewN | apply below_drew1) | exact HB.out)) hb); have n1_ := Aside0.mk (hbox); have n2_ := Aside0.mk ((by rw [hg]; exact (below_size (by repeat (first | (with_reducible first | exact HB.out | apply below_alloc | apply pw_below_drewN | apply below_drew1) | exact HB.out))) : w.heap.size ≤ gb241)); have n3_ := Aside0.mk ((by rw [hg]; exact (below_size (by repeat (first | (with_reducible first | exact HB.out | apply below_alloc | apply pw_below_drewN | apply below_drew1) | exact HB.out))) : w.heap.size ≤ gb241)); clear HB; have HB := n0_; have BK241 := n1_; have GW241 := n2_; have GE241 := n3_; clear n0_ n1_ n2_ n3_; clear hb hbox hg; have hcz8_0 : w7.cell? ⟨gb241, 0, none⟩ = some (.int .i64 a0_0) := (blk_cell BK241.out 0).trans rfl; have hcz8_1 : w7.cell? ⟨gb241, 1, none⟩ = some (.slice A0_1 l0_1.length c0_1) := (blk_cell BK241.out 1).trans rfl; have hfz8_0 := blk_frozen BK241.out 0; have hfz8_1 := blk_frozen BK241.out 1) | ((with_reducible refine gate_callee (f := 42) rfl ?_); refine goesL_ (some 8) rfl rfl Try.func42 (by kernel_rfl) rfl #[.slice A0_1 l0_1.length c0_1, .int .i64 a1] rfl (by (try simp only [List.map_toArray, List.map_cons, List.map_nil]); first | done | rfl | (simp only [List.length_drop, List.length_take]; rfl)) ?_; (with_reducible refine (laws_heldIntS.calls k _ _ l0_1 a1 t242 _ ?side1 ?side2 A3.out).mono ?_); (case side1 => repeat (first | exact (Kd.C_below HR0_1.out HB.out) | (with_reducible refine Kd.C_alloc ?_ _) | (with_reducible refine Kd.C_drewN ?_ _) | (with_reducible refine Kd.C_drew ?_))); (case side2 => exact HC0_1.out); rintro e w' ⟨rfl, ⟨nd, rfl⟩⟩; refine ⟨_, rfl, ?_⟩))
  go_ret
  exact ⟨by first | rfl | (simp [errW_none, errW_some] <;> rfl) | (simp [*, errW_none, errW_some] <;> rfl), by repeat (first | (with_reducible first | exact HB.out | apply below_alloc | apply pw_below_drewN | apply below_drew1 | refine below_set ?_ GE241.out) | exact HB.out)⟩

/-! ### laws_heldBloom: function 22 -/
def laws_heldBloom.f (k : Nat) (a0_0 : Int) (a0_1 : Int) (a0_2 : Int) (l0_3 : List Int) (a1 : Int) : Option (Int) := (laws_heldBits.f k a0_2 l0_3 a1).bind fun t244 => (if t244 < 0 then (some (-1)) else (some t244))
theorem laws_heldBloom.mono : ∀ a0 a1 a2 a3 a4 k, LeO (laws_heldBloom.f k a0 a1 a2 a3 a4) (laws_heldBloom.f (k + 1) a0 a1 a2 a3 a4) := by
 intro a0 a1 a2 a3 a4 k
 unfold laws_heldBloom.f
 repeat' first
   | (with_reducible exact laws_heldBits.mono _ _ _ _)
   | (with_reducible exact LeO.refl _)
   | (with_reducible exact LeO.none _)
   | (with_reducible refine LeO.ite ?_ ?_)
   | (with_reducible refine LeO.bind ?_ (fun _ => ?_))
   | exact laws_heldBits.mono _ _ _ _
   | exact LeO.none _
   | refine LeO.ite ?_ ?_
   | refine LeO.bind ?_ (fun _ => ?_)
set_option maxHeartbeats 8000000 in
set_option maxRecDepth 100000 in
theorem laws_heldBloom.calls (k : Nat) (a0_0 : Int) (a0_1 : Int) (a0_2 : Int) (A0_3 : Option Addr) (c0_3 : Nat) (l0_3 : List Int) (a1 : Int) (r : Int) (w : World) (hr0_3 : Kd.C (Kd.int .i64) w A0_3 l0_3.length l0_3) (hc0_3 : l0_3.length ≤ c0_3) (h : laws_heldBloom.f k a0_0 a0_1 a0_2 l0_3 a1 = some r) :
  Calls Try.prog 22 #[.agg #[.int .i64 a0_0, .int .i64 a0_1, .int .i64 a0_2, .slice A0_3 l0_3.length c0_3], .int .i64 a1] w fun e w' => e = .returned (.int .i64 r) ∧ Below w.heap.size w w' := by
 have hu28 := Try.underlying28
 have hu26 := Try.underlying26
 have HR0_3 := Aside0.mk hr0_3
 have HC0_3 := Aside0.mk hc0_3
 clear hr0_3 hc0_3
 have HB := Aside0.mk (Below.refl w.heap.size w)
 have H : ((laws_heldBits.f k a0_2 l0_3 a1).bind fun t244 => (if t244 < 0 then (some (-1)) else (some t244))) = some r := h
 clear h
 replace H := Option.bind_eq_some_iff.mp H
 obtain ⟨t244, A30, H⟩ := H
 replace H : (if t244 < 0 then (some (-1)) else (some t244)) = some r := H
 have A3 := Aside0.mk A30
 clear A30
 by_cases c4 : t244 < 0
 ·rw [if_pos c4] at H
  have c4b0 : decide (t244 < 0) = true := decide_eq_true c4
  clear c4
  obtain rfl := Option.some.inj H
  go_enter Try.func22, Try.ntmps22
  go_wp2_with (first | ((with_reducible refine gate_dst (N := 2) rfl ?_); refine box_event ?hg (N := 2) ?hd (cs := #[.int .i64 a0_0, .int .i64 a0_1, .int .i64 a0_2, .slice A0_3 l0_3.length c0_3]) (t := 28) ?hr ?_; (case hd => rfl); (case hg => rfl); (case hr => first | (go_simp; done) | (go_simp; rfl)); intro gb243 hg w5 hbox hb; have n0_ := Aside0.mk (below_step (by repeat (first | (with_reducible first | exact HB.out | apply below_alloc | apply pw_below_drewN | apply below_drew1) | exact HB.out)) hb); have n1_ := Aside0.mk (hbox); have n2_ := Aside0.mk ((by rw [hg]; exact (below_size (by repeat (first | (with_reducible first | exact HB.out | apply below_alloc | apply pw_below_drewN | apply below_drew1) | exact HB.out))) : w.heap.size ≤ gb243)); have n3_ := Aside0.mk ((by rw [hg]; exact (below_size (by repeat (first | (with_reducible first | exact HB.out | apply below_alloc | apply pw_below_drewN | apply below_drew1) | exact HB.out))) : w.heap.size ≤ gb243)); clear HB; have HB := n0_; have BK243 := n1_; have GW243 := n2_; have GE243 := n3_; clear n0_ n1_ n2_ n3_; clear hb hbox hg; have hcz6_0 : w5.cell? ⟨gb243, 0, none⟩ = some (.int .i64 a0_0) := (blk_cell BK243.out 0).trans rfl; have hcz6_1 : w5.cell? ⟨gb243, 1, none⟩ = some (.int .i64 a0_1) := (blk_cell BK243.out 1).trans rfl; have hcz6_2 : w5.cell? ⟨gb243, 2, none⟩ = some (.int .i64 a0_2) := (blk_cell BK243.out 2).trans rfl; have hcz6_3 : w5.cell? ⟨gb243, 3, none⟩ = some (.slice A0_3 l0_3.length c0_3) := (blk_cell BK243.out 3).trans rfl; have hfz6_0 := blk_frozen BK243.out 0; have hfz6_1 := blk_frozen BK243.out 1; have hfz6_2 := blk_frozen BK243.out 2; have hfz6_3 := blk_frozen BK243.out 3) | ((with_reducible refine gate_callee (f := 92) rfl ?_); refine goesL_ (some 8) rfl rfl Try.func92 (by kernel_rfl) rfl #[.agg #[.int .i64 a0_2, .slice A0_3 l0_3.length c0_3], .int .i64 a1] rfl (by (try simp only [List.map_toArray, List.map_cons, List.map_nil]); first | done | rfl | (simp only [List.length_drop, List.length_take]; rfl)) ?_; (with_reducible refine (laws_heldBits.calls k a0_2 _ _ l0_3 a1 t244 _ ?side1 ?side2 A3.out).mono ?_); (case side1 => repeat (first | exact (Kd.C_below HR0_3.out HB.out) | (with_reducible refine Kd.C_alloc ?_ _) | (with_reducible refine Kd.C_drewN ?_ _) | (with_reducible refine Kd.C_drew ?_))); (case side2 => exact HC0_3.out); rintro e w7 ⟨rfl, hb⟩; refine ⟨_, rfl, ?_⟩; have n0_ := Aside0.mk (blk_below (g := gb243) (o := .cells #[.int .i64 a0_0, .int .i64 a0_1, .int .i64 a0_2, .slice A0_3 l0_3.length c0_3] 28 (0, 0)) (by (with_reducible repeat (first | refine blk_drewN ?_ _ | refine blk_drew ?_ | refine blk_alloc ?_ _)); exact BK243.out) hb); have n1_ := Aside0.mk (below_step (by repeat (first | (with_reducible first | exact HB.out | apply below_alloc | apply pw_below_drewN | apply below_drew1 | refine below_set ?_ GE243.out) | exact HB.out)) hb); clear BK243; clear HB; have BK243 := n0_; have HB := n1_; clear n0_ n1_; (try clear hb); (try clear hb2); (try clear hk); (try clear hi)))
  go_ret
  exact ⟨by first | rfl | (simp [errW_none, errW_some] <;> rfl) | (simp [*, errW_none, errW_some] <;> rfl), by repeat (first | (with_reducible first | exact HB.out | apply below_alloc | apply pw_below_drewN | apply below_drew1 | refine below_set ?_ GE243.out) | exact HB.out)⟩
 ·rw [if_neg c4] at H
  have c4b0 : decide (t244 < 0) = false := decide_eq_false c4
  clear c4
  obtain rfl := Option.some.inj H
  go_enter Try.func22, Try.ntmps22
  go_wp2_with (first | ((with_reducible refine gate_dst (N := 2) rfl ?_); refine box_event ?hg (N := 2) ?hd (cs := #[.int .i64 a0_0, .int .i64 a0_1, .int .i64 a0_2, .slice A0_3 l0_3.length c0_3]) (t := 28) ?hr ?_; (case hd => rfl); (case hg => rfl); (case hr => first | (go_simp; done) | (go_simp; rfl)); intro gb243 hg w8 hbox hb; have n0_ := Aside0.mk (below_step (by repeat (first | (with_reducible first | exact HB.out | apply below_alloc | apply pw_below_drewN | apply below_drew1) | exact HB.out)) hb); have n1_ := Aside0.mk (hbox); have n2_ := Aside0.mk ((by rw [hg]; exact (below_size (by repeat (first | (with_reducible first | exact HB.out | apply below_alloc | apply pw_below_drewN | apply below_drew1) | exact HB.out))) : w.heap.size ≤ gb243)); have n3_ := Aside0.mk ((by rw [hg]; exact (below_size (by repeat (first | (with_reducible first | exact HB.out | apply below_alloc | apply pw_below_drewN | apply below_drew1) | exact HB.out))) : w.heap.size ≤ gb243)); clear HB; have HB := n0_; have BK243 := n1_; have GW243 := n2_; have GE243 := n3_; clear n0_ n1_ n2_ n3_; clear hb hbox hg; have hcz9_0 : w8.cell? ⟨gb243, 0, none⟩ = some (.int .i64 a0_0) := (blk_cell BK243.out 0).trans rfl; have hcz9_1 : w8.cell? ⟨gb243, 1, none⟩ = some (.int .i64 a0_1) := (blk_cell BK243.out 1).trans rfl; have hcz9_2 : w8.cell? ⟨gb243, 2, none⟩ = some (.int .i64 a0_2) := (blk_cell BK243.out 2).trans rfl; have hcz9_3 : w8.cell? ⟨gb243, 3, none⟩ = some (.slice A0_3 l0_3.length c0_3) := (blk_cell BK243.out 3).trans rfl; have hfz9_0 := blk_frozen BK243.out 0; have hfz9_1 := blk_frozen BK243.out 1; have hfz9_2 := blk_frozen BK243.out 2; have hfz9_3 := blk_frozen BK243.out 3) | ((with_reducible refine gate_callee (f := 92) rfl ?_); refine goesL_ (some 8) rfl rfl Try.func92 (by kernel_rfl) rfl #[.agg #[.int .i64 a0_2, .slice A0_3 l0_3.length c0_3], .int .i64 a1] rfl (by (try simp only [List.map_toArray, List.map_cons, List.map_nil]); first | done | rfl | (simp only [List.length_drop, List.length_take]; rfl)) ?_; (with_reducible refine (laws_heldBits.calls k a0_2 _ _ l0_3 a1 t244 _ ?side1 ?side2 A3.out).mono ?_); (case side1 => repeat (first | exact (Kd.C_below HR0_3.out HB.out) | (with_reducible refine Kd.C_alloc ?_ _) | (with_reducible refine Kd.C_drewN ?_ _) | (with_reducible refine Kd.C_drew ?_))); (case side2 => exact HC0_3.out); rintro e w10 ⟨rfl, hb⟩; refine ⟨_, rfl, ?_⟩; have n0_ := Aside0.mk (blk_below (g := gb243) (o := .cells #[.int .i64 a0_0, .int .i64 a0_1, .int .i64 a0_2, .slice A0_3 l0_3.length c0_3] 28 (0, 0)) (by (with_reducible repeat (first | refine blk_drewN ?_ _ | refine blk_drew ?_ | refine blk_alloc ?_ _)); exact BK243.out) hb); have n1_ := Aside0.mk (below_step (by repeat (first | (with_reducible first | exact HB.out | apply below_alloc | apply pw_below_drewN | apply below_drew1 | refine below_set ?_ GE243.out) | exact HB.out)) hb); clear BK243; clear HB; have BK243 := n0_; have HB := n1_; clear n0_ n1_; (try clear hb); (try clear hb2); (try clear hk); (try clear hi)))
  go_ret
  exact ⟨by first | rfl | (simp [errW_none, errW_some] <;> rfl) | (simp [*, errW_none, errW_some] <;> rfl), by repeat (first | (with_reducible first | exact HB.out | apply below_alloc | apply pw_below_drewN | apply below_drew1 | refine below_set ?_ GE243.out) | exact HB.out)⟩

end Go.Proofs.Ytpkpjikkfikejaa.PA
namespace Go.Proofs.YtpkpjikkfikejaaQ
open Go Go.RowKit Go.Proofs.YtpkpjikkfikejaaW.PrintWords Go.Proofs.YtpkpjikkfikejaaGp Go.Proofs.Ytpkpjikkfikejaa.PA

/-! ### sizes -/
def sumSz : List ByteArray → Int
  | [] => 0
  | s :: t => (s.size : Int) + sumSz t
theorem sumSz_nonneg : ∀ l, 0 ≤ sumSz l
  | [] => Int.le_refl _
  | s :: t => by have := sumSz_nonneg t; simp only [sumSz]; omega
theorem sumSz_app : ∀ a b, sumSz (a ++ b) = sumSz a + sumSz b
  | [], b => by simp [sumSz]
  | s :: t, b => by simp only [List.cons_append, sumSz, sumSz_app t b]; omega
theorem size_le_sumSz {s : ByteArray} : ∀ {l : List ByteArray}, s ∈ l → (s.size : Int) ≤ sumSz l
  | x :: t, h => by
    have := sumSz_nonneg t
    rcases List.mem_cons.1 h with rfl | h
    · simp only [sumSz]; omega
    · have := size_le_sumSz h; simp only [sumSz]; omega

/-- A budget: -1 where it is overdrawn. -/
def neg1 (x : Int) : Int := if x < 0 then -1 else x
theorem neg1_id {x : Int} (h : 0 ≤ x) : neg1 x = x := by unfold neg1; exact if_neg (by omega)
theorem szStringS_l0 (x0 : List ByteArray) : ∀ (t pre : List ByteArray) (a : Int), x0 = pre ++ t → (∀ s ∈ t, s.size ≤ maxLen) → 0 ≤ a → a ≤ 1048576 → (x0.length : Int) ≤ 9223372036854775806 →
    Ev (fun k => laws_szStringS.l0 k x0 a (pre.length : Int)) (neg1 (a - sumSz t)) := by
  intro t
  induction t with
  | nil =>
    intro pre a h hs h0 h1 hl
    subst h
    refine ev_succ ?_
    simp only [laws_szStringS.l0, not_lt_end, if_false]
    exact ev_some (by rw [show a - sumSz [] = a from by simp [sumSz], neg1_id h0])
  | cons s t ih =>
    intro pre a h hs h0 h1 hl
    have hm : ((pre.length : Nat) : Int) < (x0.length : Int) := by rw [h]; exact lt_mid
    have hr : rdOf ByteArray.empty x0 (pre.length : Int) = s := by rw [h]; exact rdOf_mid
    have hz : s.size ≤ maxLen := hs s (by simp)
    rw [maxLen_eq] at hz
    have hp := sumSz_nonneg t
    have hw : wrap64 (a - (s.size : Int)) = a - (s.size : Int) := w64 (by omega) (by omega)
    refine ev_succ ?_
    simp only [laws_szStringS.l0, hr, hw]
    refine ev_pos hm (ev_pos (by omega) ?_)
    by_cases c : a - (s.size : Int) < 0
    · refine ev_pos c (ev_some ?_)
      unfold neg1
      rw [if_pos (by simp only [sumSz]; omega)]
    · refine ev_neg c ?_
      have := ih (pre ++ [s]) (a - (s.size : Int)) (by rw [h]; simp) (fun x hx => hs x (by simp [hx])) (by omega) (by omega) hl
      rw [winc (by omega)]
      rw [len_one] at this
      simp only [sumSz]
      rw [show a - ((s.size : Int) + sumSz t) = a - (s.size : Int) - sumSz t from by omega]
      exact this

/-- The budget left behind a list of strings, or -1. -/
def left1 (a : Int) (l : List ByteArray) : Int := neg1 (a - (l.length : Int) - sumSz l)
theorem szStringS_f (l : List ByteArray) (a : Int) (hl : l.length ≤ maxLen) (hs : ∀ s ∈ l, s.size ≤ maxLen) (h0 : 0 ≤ a) (h1 : a ≤ 1048576) : Ev (fun k => laws_szStringS.f k l a) (left1 a l) := by
  rw [maxLen_eq] at hl
  have hp := sumSz_nonneg l
  have hw : wrap64 (a - (l.length : Int)) = a - (l.length : Int) := w64 (by omega) (by omega)
  unfold laws_szStringS.f left1
  simp only [hw]
  by_cases c : a - (l.length : Int) < 0
  · exact ev_pos c (ev_some (by unfold neg1; rw [if_pos (by omega)]))
  · refine ev_neg c ?_
    have := szStringS_l0 l l [] (a - (l.length : Int)) rfl hs (by omega) (by omega) (by omega)
    exact this
theorem left1_ok {a : Int} {l : List ByteArray} (h : ¬ left1 a l < 0) : left1 a l = a - (l.length : Int) - sumSz l ∧ (l.length : Int) + sumSz l ≤ a := by
  unfold left1 neg1 at h ⊢
  split at h
  · omega
  · rename_i c; rw [if_neg c]; omega
theorem left1_le {a : Int} {l : List ByteArray} : left1 a l ≤ a ∨ left1 a l = -1 := by
  have := sumSz_nonneg l
  unfold left1 neg1
  split <;> omega

/-! ### copies -/
theorem toStringS_l0 (x0 : List ByteArray) (hl : (x0.length : Int) ≤ 1048576) : ∀ (t pre r : List ByteArray), x0 = pre ++ t → r.length = t.length →
    Ev (fun k => laws_toStringS.l0 k x0 (pre ++ r) (pre.length : Int)) x0 := by
  intro t
  induction t with
  | nil =>
    intro pre r h hr
    obtain rfl := List.length_eq_zero_iff.1 hr
    refine ev_succ ?_
    simp only [laws_toStringS.l0]
    refine ev_neg (by rw [h]; exact not_lt_end) (ev_some h.symm)
  | cons s t ih =>
    intro pre r h hr
    cases r with
    | nil => simp at hr
    | cons q r =>
      have hm : ((pre.length : Nat) : Int) < (x0.length : Int) := by rw [h]; exact lt_mid
      have hg : rdOf ByteArray.empty x0 (pre.length : Int) = s := by rw [h]; exact rdOf_mid
      refine ev_succ ?_
      simp only [laws_toStringS.l0, hg, set_mid]
      refine ev_pos hm (ev_pos (by omega) (ev_pos lt_mid ?_))
      rw [winc (by omega)]
      have := ih (pre ++ [s]) r (by rw [h]; simp) (by simpa using hr)
      rw [len_one, app_one] at this
      exact this
theorem toStringS_f (l : List ByteArray) (hl : (l.length : Int) ≤ 1048576) : Ev (fun k => laws_toStringS.f k l) l := by
  unfold laws_toStringS.f
  refine ev_pos (by omega) (ev_pos (by simp only [Int.toNat_natCast]; omega) ?_)
  simp only [Int.toNat_natCast]
  have := toStringS_l0 l hl l [] (List.replicate l.length (⟨#[]⟩ : ByteArray)) rfl (by simp)
  exact this

/-! ### comparisons -/
theorem eqStringS_l0 (x0 x1 : List ByteArray) (hl : (x0.length : Int) ≤ 9223372036854775806) : ∀ (t u pre pre' : List ByteArray), x0 = pre ++ t → x1 = pre' ++ u → pre.length = pre'.length → t.length = u.length →
    Ev (fun k => laws_eqStringS.l0 k x0 x1 (pre.length : Int)) (decide (t = u)) := by
  intro t
  induction t with
  | nil =>
    intro u pre pre' h h' hp hu
    obtain rfl := List.length_eq_zero_iff.1 hu.symm
    refine ev_succ ?_
    simp only [laws_eqStringS.l0]
    exact ev_neg (by rw [h]; exact not_lt_end) (ev_some (by simp))
  | cons s t ih =>
    intro u pre pre' h h' hp hu
    cases u with
    | nil => simp at hu
    | cons q u =>
      have hm : ((pre.length : Nat) : Int) < (x0.length : Int) := by rw [h]; exact lt_mid
      have hm' : ((pre.length : Nat) : Int) < (x1.length : Int) := by rw [h', hp]; exact lt_mid
      have hg : rdOf ByteArray.empty x0 (pre.length : Int) = s := by rw [h]; exact rdOf_mid
      have hg' : rdOf ByteArray.empty x1 (pre.length : Int) = q := by rw [h', hp]; exact rdOf_mid
      refine ev_succ ?_
      simp only [laws_eqStringS.l0, hg, hg', tl_inj]
      refine ev_pos hm (ev_pos (by omega) (ev_pos hm' ?_))
      by_cases c : s = q
      · refine ev_pos c ?_
        rw [winc (by omega)]
        have := ih u (pre ++ [s]) (pre' ++ [q]) (by rw [h]; simp) (by rw [h']; simp) (by simp [hp]) (by simpa using hu)
        rw [len_one] at this
        rw [show decide (s :: t = q :: u) = decide (t = u) from by simp [c]]
        exact this
      · exact ev_neg c (ev_some (by simp [c]))
theorem eqStringS_f (a b : List ByteArray) (hl : (a.length : Int) ≤ 9223372036854775806) : Ev (fun k => laws_eqStringS.f k a b) (decide (a = b)) := by
  unfold laws_eqStringS.f
  by_cases c : a.length = b.length
  · refine ev_pos (by omega) ?_
    exact eqStringS_l0 a b hl a b [] [] rfl rfl rfl c
  · exact ev_neg (by omega) (ev_some (by
      have : ¬ a = b := fun e => c (by rw [e])
      simp [this]))

end Go.Proofs.YtpkpjikkfikejaaQ
namespace Go.Proofs.YtpkpjikkfikejaaQ
open Go Go.RowKit Go.Proofs.YtpkpjikkfikejaaW.PrintWords Go.Proofs.YtpkpjikkfikejaaGp Go.Proofs.Ytpkpjikkfikejaa.PA

/-! ### copies -/
theorem toIntS_l0 (x0 : List Int) (hl : (x0.length : Int) ≤ 1048576) : ∀ (t pre r : List Int), x0 = pre ++ t → r.length = t.length →
    Ev (fun k => laws_toIntS.l0 k x0 (pre ++ r) (pre.length : Int)) x0 := by
  intro t
  induction t with
  | nil =>
    intro pre r h hr
    obtain rfl := List.length_eq_zero_iff.1 hr
    refine ev_succ ?_
    simp only [laws_toIntS.l0]
    refine ev_neg (by rw [h]; exact not_lt_end) (ev_some h.symm)
  | cons s t ih =>
    intro pre r h hr
    cases r with
    | nil => simp at hr
    | cons q r =>
      have hm : ((pre.length : Nat) : Int) < (x0.length : Int) := by rw [h]; exact lt_mid
      have hg : rd x0 (pre.length : Int) = s := by rw [h]; exact rd_mid
      refine ev_succ ?_
      simp only [laws_toIntS.l0, hg, set_mid]
      refine ev_pos hm (ev_pos (by omega) (ev_pos lt_mid ?_))
      rw [winc (by omega)]
      have := ih (pre ++ [s]) r (by rw [h]; simp) (by simpa using hr)
      rw [len_one, app_one] at this
      exact this
theorem toIntS_f (l : List Int) (hl : (l.length : Int) ≤ 1048576) : Ev (fun k => laws_toIntS.f k l) l := by
  unfold laws_toIntS.f
  refine ev_pos (by omega) (ev_pos (by simp only [Int.toNat_natCast]; omega) ?_)
  simp only [Int.toNat_natCast]
  have := toIntS_l0 l hl l [] (List.replicate l.length (0 : Int)) rfl (by simp)
  exact this

/-! ### comparisons -/
theorem eqIntS_l0 (x0 x1 : List Int) (hl : (x0.length : Int) ≤ 9223372036854775806) : ∀ (t u pre pre' : List Int), x0 = pre ++ t → x1 = pre' ++ u → pre.length = pre'.length → t.length = u.length →
    Ev (fun k => laws_eqIntS.l0 k x0 x1 (pre.length : Int)) (decide (t = u)) := by
  intro t
  induction t with
  | nil =>
    intro u pre pre' h h' hp hu
    obtain rfl := List.length_eq_zero_iff.1 hu.symm
    refine ev_succ ?_
    simp only [laws_eqIntS.l0]
    exact ev_neg (by rw [h]; exact not_lt_end) (ev_some (by simp))
  | cons s t ih =>
    intro u pre pre' h h' hp hu
    cases u with
    | nil => simp at hu
    | cons q u =>
      have hm : ((pre.length : Nat) : Int) < (x0.length : Int) := by rw [h]; exact lt_mid
      have hm' : ((pre.length : Nat) : Int) < (x1.length : Int) := by rw [h', hp]; exact lt_mid
      have hg : rd x0 (pre.length : Int) = s := by rw [h]; exact rd_mid
      have hg' : rd x1 (pre.length : Int) = q := by rw [h', hp]; exact rd_mid
      refine ev_succ ?_
      simp only [laws_eqIntS.l0, hg, hg']
      refine ev_pos hm (ev_pos (by omega) (ev_pos hm' ?_))
      by_cases c : s = q
      · refine ev_pos c ?_
        rw [winc (by omega)]
        have := ih u (pre ++ [s]) (pre' ++ [q]) (by rw [h]; simp) (by rw [h']; simp) (by simp [hp]) (by simpa using hu)
        rw [len_one] at this
        rw [show decide (s :: t = q :: u) = decide (t = u) from by simp [c]]
        exact this
      · exact ev_neg c (ev_some (by simp [c]))
theorem eqIntS_f (a b : List Int) (hl : (a.length : Int) ≤ 9223372036854775806) : Ev (fun k => laws_eqIntS.f k a b) (decide (a = b)) := by
  unfold laws_eqIntS.f
  by_cases c : a.length = b.length
  · refine ev_pos (by omega) ?_
    exact eqIntS_l0 a b hl a b [] [] rfl rfl rfl c
  · exact ev_neg (by omega) (ev_some (by
      have : ¬ a = b := fun e => c (by rw [e])
      simp [this]))

end Go.Proofs.YtpkpjikkfikejaaQ
namespace Go.Proofs.YtpkpjikkfikejaaQ
open Go Go.RowKit Go.Proofs.YtpkpjikkfikejaaW.PrintWords Go.Proofs.YtpkpjikkfikejaaGp Go.Proofs.Ytpkpjikkfikejaa.PA

/-! ### marks -/
/-- n numbers from one on. -/
def counts : Nat → Int → List Int
  | 0, _ => []
  | n + 1, a => a :: counts n (a + 1)
theorem counts_len : ∀ n a, (counts n a).length = n
  | 0, _ => rfl
  | n + 1, a => by simp [counts, counts_len n]
theorem markIntS_l0 : ∀ (t pre : List Int) (a : Int), 0 ≤ a → a + (t.length : Int) ≤ 4611686018427387904 → ((pre.length + t.length : Nat) : Int) ≤ 4611686018427387904 →
    Ev (fun k => laws_markIntS.l0 k (pre ++ t) a (pre.length : Int)) (a + (t.length : Int), pre ++ counts t.length a) := by
  intro t
  induction t with
  | nil =>
    intro pre a h0 h1 h2
    refine ev_succ ?_
    simp only [laws_markIntS.l0]
    exact ev_neg not_lt_end (ev_some (by simp [counts]))
  | cons s t ih =>
    intro pre a h0 h1 h2
    simp only [List.length_cons] at h1 h2
    refine ev_succ ?_
    simp only [laws_markIntS.l0]
    refine ev_pos lt_mid (ev_pos (by omega) ?_)
    simp only [set_mid]
    rw [winc (by omega), w64 (x := a + 1) (by omega) (by omega)]
    have := ih (pre ++ [a]) (a + 1) (by omega) (by omega) (by simp; omega)
    rw [len_one, app_one] at this
    simp only [List.length_cons, counts]
    rw [show ((t.length + 1 : Nat) : Int) = 1 + (t.length : Int) from by omega, ← Int.add_assoc]
    simpa using this
theorem markIntS_f (l : List Int) (a : Int) (h0 : 0 ≤ a) (h1 : a + (l.length : Int) ≤ 4611686018427387904) : Ev (fun k => laws_markIntS.f k l a) (a + (l.length : Int), counts l.length a) := by
  unfold laws_markIntS.f
  have := markIntS_l0 l [] a h0 h1 (by simp; omega)
  exact this
theorem heldIntS_l0 : ∀ (n : Nat) (pre : List Int) (a : Int), 0 ≤ a → a + (n : Int) ≤ 4611686018427387904 → ((pre.length + n : Nat) : Int) ≤ 4611686018427387904 →
    Ev (fun k => laws_heldIntS.l0 k (pre ++ counts n a) a (pre.length : Int)) (a + (n : Int)) := by
  intro n
  induction n with
  | zero =>
    intro pre a h0 h1 h2
    refine ev_succ ?_
    simp only [laws_heldIntS.l0, counts]
    exact ev_neg not_lt_end (ev_some (by simp))
  | succ n ih =>
    intro pre a h0 h1 h2
    refine ev_succ ?_
    simp only [laws_heldIntS.l0, counts, rd_mid]
    refine ev_pos lt_mid (ev_pos (by omega) (ev_pos trivial ?_))
    rw [winc (by omega), w64 (x := a + 1) (by omega) (by omega)]
    have := ih (pre ++ [a]) (a + 1) (by omega) (by omega) (by simp; omega)
    rw [len_one, app_one] at this
    rw [show a + ((n + 1 : Nat) : Int) = a + 1 + (n : Int) from by omega]
    exact this
theorem heldIntS_f (n : Nat) (a : Int) (h0 : 0 ≤ a) (h1 : a + (n : Int) ≤ 4611686018427387904) : Ev (fun k => laws_heldIntS.f k (counts n a) a) (a + (n : Int)) := by
  unfold laws_heldIntS.f
  have := heldIntS_l0 n [] a h0 h1 (by simp; omega)
  exact this
end Go.Proofs.YtpkpjikkfikejaaQ
namespace Go.Proofs.YtpkpjikkfikejaaQ
open Go Go.RowKit Go.Proofs.YtpkpjikkfikejaaW.PrintWords Go.Proofs.YtpkpjikkfikejaaGp Go.Proofs.Ytpkpjikkfikejaa.PA

theorem eqBits_same (n : Int) (l : List Int) (hl : (l.length : Int) ≤ 9223372036854775806) : Ev (fun k => laws_eqBits.f k n l n l) true := by
  unfold laws_eqBits.f
  exact ev_pos rfl (ev_bind true (by simpa using eqIntS_f l l hl) (ev_pos rfl (Ev.now _)))
theorem eqBloom_same (a0 a1 n : Int) (l : List Int) (hl : (l.length : Int) ≤ 9223372036854775806) : Ev (fun k => laws_eqBloom.f k a0 a1 n l a0 a1 n l) true := by
  unfold laws_eqBloom.f
  exact ev_pos rfl (ev_pos rfl (ev_bind true (eqBits_same n l hl) (ev_pos rfl (Ev.now _))))
theorem markBloom_f (a0 a1 n : Int) (l : List Int) (a : Int) (h0 : 0 ≤ a) (h1 : a + (l.length : Int) ≤ 4611686018427387904) : Ev (fun k => laws_markBloom.f k a0 a1 n l a) (a + (l.length : Int), counts l.length a) := by
  unfold laws_markBloom.f laws_markBits.f
  exact ev_bind _ (ev_bind _ (markIntS_f l a h0 h1) (Ev.now _)) (Ev.now _)
theorem heldBloom_f (a0 a1 n : Int) (m : Nat) (a : Int) (h0 : 0 ≤ a) (h1 : a + (m : Int) ≤ 4611686018427387904) : Ev (fun k => laws_heldBloom.f k a0 a1 n (counts m a) a) (a + (m : Int)) := by
  unfold laws_heldBloom.f laws_heldBits.f
  exact ev_bind _ (ev_bind _ (heldIntS_f m a h0 h1) (ev_neg (by omega) (Ev.now _))) (ev_neg (by omega) (Ev.now _))
end Go.Proofs.YtpkpjikkfikejaaQ
namespace Go.Proofs.YtpkpjikkfikejaaQ
open Go Go.RowKit Go.Proofs.YtpkpjikkfikejaaW.PrintWords Go.Proofs.YtpkpjikkfikejaaGp Go.Proofs.Ytpkpjikkfikejaa.PA

def leftI (a : Int) (l : List Int) : Int := neg1 (a - (l.length : Int))
theorem szIntS_f (l : List Int) (a : Int) (hl : l.length ≤ maxLen) (h0 : 0 ≤ a) (h1 : a ≤ 1048576) : laws_szIntS.f l a = some (leftI a l) := by
  have := maxLen_eq
  unfold laws_szIntS.f leftI neg1
  rw [w64 (by omega) (by omega)]
  split <;> rfl
theorem leftI_ok {a : Int} {l : List Int} (h : ¬ leftI a l < 0) : leftI a l = a - (l.length : Int) ∧ (l.length : Int) ≤ a := by
  unfold leftI neg1 at *
  split at h <;> omega
theorem szBloom_f (a0 a1 a2 : Int) (l : List Int) (a : Int) (hl : l.length ≤ maxLen) (h0 : 0 ≤ a) (h1 : a ≤ 1048576) : laws_szBloom.f a0 a1 a2 l a = some (leftI a l) := by
  unfold laws_szBloom.f laws_szBits.f
  rw [szIntS_f l a hl h0 h1]
  simp only [Option.bind_some]
  unfold leftI neg1
  split
  · rfl
  · rename_i h
    simp only [Option.bind_some, if_neg h]
theorem toBits_f (n : Int) (l : List Int) (hl : (l.length : Int) ≤ 1048576) : Ev (fun k => laws_toBits.f k n l) (n, l) := by
  unfold laws_toBits.f
  exact ev_bind _ (toIntS_f l hl) (Ev.now _)
theorem toBloom_f (a0 a1 n : Int) (l : List Int) (hl : (l.length : Int) ≤ 1048576) : Ev (fun k => laws_toBloom.f k a0 a1 n l) (a0, a1, n, l) := by
  unfold laws_toBloom.f
  exact ev_bind _ (toBits_f n l hl) (Ev.now _)
end Go.Proofs.YtpkpjikkfikejaaQ
-- printed by a program of this session (wip/gp) out of the translation; Lean checks it
namespace Go.Proofs.Ytpkpjikkfikejaa.PA
open Go.RowKit Go.Proofs.YtpkpjikkfikejaaW.PrintWords Go.Proofs.YtpkpjikkfikejaaW.PrintLast Go.Proofs.YtpkpjikkfikejaaW.PrintMore
attribute [local go_sem] max2_int min2_int max_two min_two max_three min_three max_four min_four   -- for this text's walks alone
attribute [local go_sem] Go.Proofs.YtpkpjikkfikejaaGp.str_geq Go.Proofs.YtpkpjikkfikejaaGp.str_gtr Go.Proofs.YtpkpjikkfikejaaGp.str_leq
set_option linter.unusedVariables false
set_option linter.unusedSimpArgs false

/-! ### spec_BloomOf: function 15 -/
def spec_BloomOf.j0 : Nat → Int → Int → Int → List ByteArray → Bool → Option (Int × Int × Int × List Int × Bool)
 | 0, _, _, _, _, _ => none
 | k + 1, x0, x1, x2, x3, x19 => if x19 = true then (some (0, 0, 0, ([] : List Int), false)) else ((spec_fiNew.f x0 x1 x2).bind fun bt153 => ((spec_fiAdd.f k bt153.1 bt153.2.1 bt153.2.2.1 bt153.2.2.2 x3).bind fun bt159 => (some (bt159.1, bt159.2.1, bt159.2.2.1, bt159.2.2.2, true))))
def spec_BloomOf.f (k : Nat) (a0 : Int) (a1 : Int) (a2 : Int) (l3 : List ByteArray) : Option (Int × Int × Int × List Int × Bool) := (spec_fiSize.f a0 a1 a2).bind fun t151 => (if t151 = true then ((spec_biKeys.f k l3).bind fun t152 => (spec_BloomOf.j0 k a0 a1 a2 l3 (!t152))) else (spec_BloomOf.j0 k a0 a1 a2 l3 true))
theorem spec_BloomOf.mono_l : ∀ k, (∀ y0 y1 y2 y3 y4, LeO (spec_BloomOf.j0 k y0 y1 y2 y3 y4) (spec_BloomOf.j0 (k + 1) y0 y1 y2 y3 y4))
 | 0 => fun _ _ _ _ _ r h => by simp [spec_BloomOf.j0] at h
 | k + 1 => by
  have ih0 := spec_BloomOf.mono_l k
  ·intro y0 y1 y2 y3 y4
   unfold spec_BloomOf.j0
   repeat' first
   | (with_reducible exact ih0 _ _ _ _ _)
   | (with_reducible exact spec_biKeys.mono _ _)
   | (with_reducible exact spec_fiAdd.mono _ _ _ _ _ _)
   | (with_reducible exact LeO.refl _)
   | (with_reducible exact LeO.none _)
   | (with_reducible refine LeO.ite ?_ ?_)
   | (with_reducible refine LeO.bind ?_ (fun _ => ?_))
   | exact ih0 _ _ _ _ _
   | exact spec_biKeys.mono _ _
   | exact spec_fiAdd.mono _ _ _ _ _ _
   | exact LeO.none _
   | refine LeO.ite ?_ ?_
   | refine LeO.bind ?_ (fun _ => ?_)
theorem spec_BloomOf.mono : ∀ a0 a1 a2 a3 k, LeO (spec_BloomOf.f k a0 a1 a2 a3) (spec_BloomOf.f (k + 1) a0 a1 a2 a3) := by
 intro a0 a1 a2 a3 k
 have ih0 := spec_BloomOf.mono_l k
 unfold spec_BloomOf.f
 repeat' first
   | (with_reducible exact ih0 _ _ _ _ _)
   | (with_reducible exact spec_biKeys.mono _ _)
   | (with_reducible exact spec_fiAdd.mono _ _ _ _ _ _)
   | (with_reducible exact LeO.refl _)
   | (with_reducible exact LeO.none _)
   | (with_reducible refine LeO.ite ?_ ?_)
   | (with_reducible refine LeO.bind ?_ (fun _ => ?_))
   | exact ih0 _ _ _ _ _
   | exact spec_biKeys.mono _ _
   | exact spec_fiAdd.mono _ _ _ _ _ _
   | exact LeO.none _
   | refine LeO.ite ?_ ?_
   | refine LeO.bind ?_ (fun _ => ?_)
set_option maxHeartbeats 8000000 in
set_option maxRecDepth 100000 in
theorem spec_BloomOf.calls (k : Nat) (a0 : Int) (a1 : Int) (a2 : Int) (A3 : Option Addr) (c3 : Nat) (l3 : List ByteArray) (r1 : Int) (r2 : Int) (r3 : Int) (r4 : List Int) (r5 : Bool) (w : World) (hr3 : Kd.C Kd.string w A3 l3.length l3) (hc3 : l3.length ≤ c3) (h : spec_BloomOf.f k a0 a1 a2 l3 = some (r1, r2, r3, r4, r5)) :
  Calls Try.prog 15 #[.int .i64 a0, .int .i64 a1, .int .i64 a2, .slice A3 l3.length c3] w fun e w' => ∃ v3_ : Value, e = .returned (.tuple #[.agg #[.int .i64 r1, .int .i64 r2, .int .i64 r3, v3_], .bool r5]) ∧ Kd.R (Kd.int .i64) 3 w' w.heap.size (fun _ => True) v3_ r4 ∧ Below w.heap.size w w' := by
 have hu28 := Try.underlying28
 have HR3 := Aside0.mk hr3
 have HC3 := Aside0.mk hc3
 clear hr3 hc3
 have HB := Aside0.mk (Below.refl w.heap.size w)
 have H : ((spec_fiSize.f a0 a1 a2).bind fun t151 => (if t151 = true then ((spec_biKeys.f k l3).bind fun t152 => (spec_BloomOf.j0 k a0 a1 a2 l3 (!t152))) else (spec_BloomOf.j0 k a0 a1 a2 l3 true))) = some (r1, r2, r3, r4, r5) := h
 clear h
 have HC5 := Aside0.mk H
 clear H
 go_enter Try.func15, Try.ntmps15
 go_upto_region 1 with (first | ((with_reducible refine gate_dst (N := 8) rfl ?_); refine box_event ?hg (N := 8) ?hd (cs := #[.int .i64 0, .int .i64 0, .int .i64 0, .slice none 0 0]) (t := 28) ?hr ?_; (case hd => rfl); (case hg => rfl); (case hr => first | (go_simp; done) | (go_simp; rfl)); intro gb150 hg w6 hbox hb; have n0_ := Aside0.mk (below_step (by repeat (first | (with_reducible first | exact HB.out | apply below_alloc | apply pw_below_drewN | apply below_drew1) | exact HB.out)) hb); have n1_ := Aside0.mk (hbox); have n2_ := Aside0.mk ((by rw [hg]; exact (below_size (by repeat (first | (with_reducible first | exact HB.out | apply below_alloc | apply pw_below_drewN | apply below_drew1) | exact HB.out))) : w.heap.size ≤ gb150)); have n3_ := Aside0.mk ((by rw [hg]; exact (below_size (by repeat (first | (with_reducible first | exact HB.out | apply below_alloc | apply pw_below_drewN | apply below_drew1) | exact HB.out))) : w.heap.size ≤ gb150)); clear HB; have HB := n0_; have BK150 := n1_; have GW150 := n2_; have GE150 := n3_; clear n0_ n1_ n2_ n3_; clear hb hbox hg))
 (try simp only [Act.put, List.setIfInBounds_toArray, List.set_cons_zero, List.set_cons_succ])
 go_cut [19] (fun v19 wc => ∃ (kq : Nat) (x19_4 : Bool), v19 = .bool x19_4 ∧ Aside0 (spec_BloomOf.j0 kq a0 a1 a2 l3 x19_4 = some (r1, r2, r3, r4, r5)) ∧ Aside0 (kq ≤ k) ∧ Aside0 (wc.heap[gb150]? = some (.cells #[.int .i64 0, .int .i64 0, .int .i64 0, (.slice none 0 0)] 28 (0, 0))) ∧ Aside0 (Below w.heap.size w wc))
 case first =>
  have H := HC5.out
  clear HC5
  replace H := Option.bind_eq_some_iff.mp H
  obtain ⟨t151, A70, H⟩ := H
  replace H : (if t151 = true then ((spec_biKeys.f k l3).bind fun t152 => (spec_BloomOf.j0 k a0 a1 a2 l3 (!t152))) else (spec_BloomOf.j0 k a0 a1 a2 l3 true)) = some (r1, r2, r3, r4, r5) := H
  have A7 := Aside0.mk A70
  clear A70
  by_cases c8 : t151 = true
  ·subst c8
   have H1 : ((spec_biKeys.f k l3).bind fun t152 => (spec_BloomOf.j0 k a0 a1 a2 l3 (!t152))) = some (r1, r2, r3, r4, r5) := by rw [if_pos rfl] at H; exact H
   clear H
   have H := H1
   clear H1
   replace H := Option.bind_eq_some_iff.mp H
   obtain ⟨t152, A90, H⟩ := H
   replace H : (spec_BloomOf.j0 k a0 a1 a2 l3 (!t152)) = some (r1, r2, r3, r4, r5) := H
   have A9 := Aside0.mk A90
   clear A90
   have H' := Aside0.mk H
   clear H
   go_wp2_with (first | ((with_reducible refine gate_callee (f := 83) rfl ?_); refine goesL_ (some 13) rfl rfl Try.func83 (by kernel_rfl) rfl #[.int .i64 a0, .int .i64 a1, .int .i64 a2] rfl (by (try simp only [List.map_toArray, List.map_cons, List.map_nil]); first | done | rfl | (simp only [List.length_drop, List.length_take]; rfl)) ?_; (with_reducible refine (spec_fiSize.calls a0 a1 a2 true _ A7.out).mono ?_); rintro e w' ⟨rfl, ⟨nd, rfl⟩⟩; refine ⟨_, rfl, ?_⟩) | (go_at_call 84; (with_reducible refine (spec_biKeys.calls k _ _ l3 t152 _ ?side1 ?side2 A9.out).mono ?_); (case side1 => repeat (first | exact (Kd.C_below HR3.out (by repeat (first | (with_reducible first | exact HB.out | apply below_alloc | apply pw_below_drewN | apply below_drew1 | refine below_set ?_ GE150.out) | exact HB.out))) | (with_reducible refine Kd.C_alloc ?_ _) | (with_reducible refine Kd.C_drewN ?_ _) | (with_reducible refine Kd.C_drew ?_))); (case side2 => exact HC3.out); rintro e w' ⟨rfl, ⟨nd, rfl⟩⟩))
   go_meet
   case rel => exact ⟨_, (!t152), (by first | rfl | (simp; done) | (simp [*]; done)), H', ⟨by first | omega | exact Nat.le_refl _⟩, ⟨by (with_reducible repeat (first | refine blk_drewN ?_ _ | refine blk_drew ?_ | refine blk_alloc ?_ _)); exact BK150.out⟩, ⟨by repeat (first | (with_reducible first | exact HB.out | apply below_alloc | apply pw_below_drewN | apply below_drew1 | refine below_set ?_ GE150.out) | exact HB.out)⟩⟩
  ·replace c8 := Bool.eq_false_iff.mpr c8
   subst c8
   have H1 : (spec_BloomOf.j0 k a0 a1 a2 l3 true) = some (r1, r2, r3, r4, r5) := by rw [if_neg (show ¬ (false = true) by decide)] at H; exact H
   clear H
   have H := H1
   clear H1
   have H' := Aside0.mk H
   clear H
   go_wp2_with (first | ((with_reducible refine gate_callee (f := 83) rfl ?_); refine goesL_ (some 13) rfl rfl Try.func83 (by kernel_rfl) rfl #[.int .i64 a0, .int .i64 a1, .int .i64 a2] rfl (by (try simp only [List.map_toArray, List.map_cons, List.map_nil]); first | done | rfl | (simp only [List.length_drop, List.length_take]; rfl)) ?_; (with_reducible refine (spec_fiSize.calls a0 a1 a2 false _ A7.out).mono ?_); rintro e w' ⟨rfl, ⟨nd, rfl⟩⟩; refine ⟨_, rfl, ?_⟩))
   go_meet
   case rel => exact ⟨_, (true), (by first | rfl | (simp; done) | (simp [*]; done)), H', ⟨by first | omega | exact Nat.le_refl _⟩, ⟨by (with_reducible repeat (first | refine blk_drewN ?_ _ | refine blk_drew ?_ | refine blk_alloc ?_ _)); exact BK150.out⟩, ⟨by repeat (first | (with_reducible first | exact HB.out | apply below_alloc | apply pw_below_drewN | apply below_drew1 | refine below_set ?_ GE150.out) | exact HB.out)⟩⟩
 case rest =>
  clear HC5
  try clear c1
  try clear p2
  try clear c3
  try clear c8
  obtain ⟨kq, x19_4, rfl, HA, HJ4, BK150, HB⟩ := hcut
  cases kq with
  | zero => exact absurd HA.out (by simp [spec_BloomOf.j0])
  | succ kj4 =>
   have H := HA.out
   clear HA
   simp only [spec_BloomOf.j0] at H
   by_cases c10 : x19_4 = true
   ·subst c10
    have H1 : (some (0, 0, 0, ([] : List Int), false)) = some (r1, r2, r3, r4, r5) := by rw [if_pos rfl] at H; exact H
    clear H
    have H := H1
    clear H1
    simp only [Option.some.injEq, Prod.mk.injEq] at H
    obtain ⟨rfl, rfl, rfl, rfl, rfl⟩ := H
    have hcz11_0 : wc.cell? ⟨gb150, 0, none⟩ = some (.int .i64 0) := (blk_cell BK150.out 0).trans rfl
    have hcz11_1 : wc.cell? ⟨gb150, 1, none⟩ = some (.int .i64 0) := (blk_cell BK150.out 1).trans rfl
    have hcz11_2 : wc.cell? ⟨gb150, 2, none⟩ = some (.int .i64 0) := (blk_cell BK150.out 2).trans rfl
    have hcz11_3 : wc.cell? ⟨gb150, 3, none⟩ = some (.slice none 0 0) := (blk_cell BK150.out 3).trans rfl
    have hfz11_0 := blk_frozen BK150.out 0
    have hfz11_1 := blk_frozen BK150.out 1
    have hfz11_2 := blk_frozen BK150.out 2
    have hfz11_3 := blk_frozen BK150.out 3
    go_wp2
    refine bodyPost_ret (results_ct rfl _ _ gb150 28 #[.int .i64 0, .int .i64 0, .int .i64 0, .slice none 0 0] (0, 0) _ rfl (by (with_reducible repeat (first | refine blk_drewN ?_ _ | refine blk_drew ?_ | refine blk_alloc ?_ _)); refine blk_put (cs := #[.int .i64 0, .int .i64 0, .int .i64 0, .slice none 0 0]) ?_ 3 _ rfl; (with_reducible repeat (first | refine blk_drewN ?_ _ | refine blk_drew ?_ | refine blk_alloc ?_ _)); refine blk_put (cs := #[.int .i64 0, .int .i64 0, .int .i64 0, .slice none 0 0]) ?_ 2 _ rfl; (with_reducible repeat (first | refine blk_drewN ?_ _ | refine blk_drew ?_ | refine blk_alloc ?_ _)); refine blk_put (cs := #[.int .i64 0, .int .i64 0, .int .i64 0, .slice none 0 0]) ?_ 1 _ rfl; (with_reducible repeat (first | refine blk_drewN ?_ _ | refine blk_drew ?_ | refine blk_alloc ?_ _)); refine blk_put (cs := #[.int .i64 0, .int .i64 0, .int .i64 0, .slice none 0 0]) ?_ 0 _ rfl; (with_reducible repeat (first | refine blk_drewN ?_ _ | refine blk_drew ?_ | refine blk_alloc ?_ _)); exact BK150.out) Try.underlying28 rfl (by kernel_rfl)) rfl ?_
    exact ⟨_, by first | rfl | (simp [errW_none, errW_some] <;> rfl) | (simp [*, errW_none, errW_some] <;> rfl), by first | exact Kd.R_nil _ _ _ _ _ | exact Kd.N_nil _ _ _ _ _ | exact Kd.V_nil _ _ _ _ _ | exact Kd.Q_nil _ _ _ _ _ | exact Kd.S_nil _ _ _ _ _, by repeat (first | (with_reducible first | exact HB.out | apply below_alloc | apply pw_below_drewN | apply below_drew1 | refine below_set ?_ GE150.out) | exact HB.out)⟩
   ·replace c10 := Bool.eq_false_iff.mpr c10
    subst c10
    have H1 : ((spec_fiNew.f a0 a1 a2).bind fun bt153 => ((spec_fiAdd.f kj4 bt153.1 bt153.2.1 bt153.2.2.1 bt153.2.2.2 l3).bind fun bt159 => (some (bt159.1, bt159.2.1, bt159.2.2.1, bt159.2.2.2, true)))) = some (r1, r2, r3, r4, r5) := by rw [if_neg (show ¬ (false = true) by decide)] at H; exact H
    clear H
    have H := H1
    clear H1
    replace H := Option.bind_eq_some_iff.mp H
    obtain ⟨⟨t153, t154, t155, t156⟩, A120, H⟩ := H
    replace H : ((spec_fiAdd.f kj4 t153 t154 t155 t156 l3).bind fun bt159 => (some (bt159.1, bt159.2.1, bt159.2.2.1, bt159.2.2.2, true))) = some (r1, r2, r3, r4, r5) := H
    have A12 := Aside0.mk A120
    clear A120
    replace H := Option.bind_eq_some_iff.mp H
    obtain ⟨⟨t159, t160, t161, t162⟩, A130, H⟩ := H
    replace H : (some (t159, t160, t161, t162, true)) = some (r1, r2, r3, r4, r5) := H
    have A13 := Aside0.mk A130
    clear A130
    simp only [Option.some.injEq, Prod.mk.injEq] at H
    obtain ⟨rfl, rfl, rfl, rfl, rfl⟩ := H
    go_wp2_with (first | ((with_reducible refine gate_callee (f := 86) rfl ?_); refine goesL_ (some 24) rfl rfl Try.func86 (by kernel_rfl) rfl #[.int .i64 a0, .int .i64 a1, .int .i64 a2] rfl (by (try simp only [List.map_toArray, List.map_cons, List.map_nil]); first | done | rfl | (simp only [List.length_drop, List.length_take]; rfl)) ?_; (with_reducible refine (spec_fiNew.calls a0 a1 a2 t153 t154 t155 t156 _ A12.out).mono ?_); rintro e w14 ⟨v157, rfl, ho0, hb⟩; refine ⟨_, rfl, ?_⟩; have n0_ := Aside0.mk (Kd.R_lower ho0 (below_size (by repeat (first | (with_reducible first | exact HB.out | apply below_alloc | apply pw_below_drewN | apply below_drew1 | refine below_set ?_ GE150.out) | exact HB.out)))); have n1_ := Aside0.mk (blk_below (g := gb150) (o := .cells #[.int .i64 0, .int .i64 0, .int .i64 0, .slice none 0 0] 28 (0, 0)) (by (with_reducible repeat (first | refine blk_drewN ?_ _ | refine blk_drew ?_ | refine blk_alloc ?_ _)); exact BK150.out) hb); have n2_ := Aside0.mk (below_step (by repeat (first | (with_reducible first | exact HB.out | apply below_alloc | apply pw_below_drewN | apply below_drew1 | refine below_set ?_ GE150.out) | exact HB.out)) hb); clear BK150; clear HB; have HO158 := n0_; have BK150 := n1_; have HB := n2_; clear n0_ n1_ n2_; (try clear hb); (try clear hb2); (try clear hk); (try clear hi); (try clear ho0); obtain ⟨Ao15, co15, eo15⟩ := Kd.R_slice HO158.out; subst eo15) | ((with_reducible refine gate_callee (f := 85) rfl ?_); refine goesL_ (some 26) rfl rfl Try.func85 (by kernel_rfl) rfl #[.agg #[.int .i64 t153, .int .i64 t154, .int .i64 t155, .slice Ao15 t156.length co15], .slice A3 l3.length c3] rfl (by (try simp only [List.map_toArray, List.map_cons, List.map_nil]); first | done | rfl | (simp only [List.length_drop, List.length_take]; rfl)) ?_; (with_reducible refine (spec_fiAdd.calls kj4 t153 t154 t155 _ _ t156 _ _ l3 t159 t160 t161 t162 _ ?side1 ?side2 ?side3 ?side4 A13.out).mono ?_); (case side1 => repeat (first | exact (Kd.R_reads' HO158.out).2.2 | (with_reducible refine Kd.C_alloc ?_ _) | (with_reducible refine Kd.C_drewN ?_ _) | (with_reducible refine Kd.C_drew ?_))); (case side2 => exact (Kd.R_reads' HO158.out).2.1); (case side3 => repeat (first | exact (Kd.C_below HR3.out HB.out) | (with_reducible refine Kd.C_alloc ?_ _) | (with_reducible refine Kd.C_drewN ?_ _) | (with_reducible refine Kd.C_drew ?_))); (case side4 => exact HC3.out); rintro e w16 ⟨v163, rfl, ho0, hb⟩; refine ⟨_, rfl, ?_⟩; have n0_ := Aside0.mk (Kd.R_elder' (by (with_reducible repeat (first | apply Kd.R_alloc | apply Kd.R_drewN | apply Kd.R_drew)); exact HO158.out) (Kd.R_base ho0) hb); have n1_ := Aside0.mk (Kd.R_lower (Kd.R_new' ho0 (Kd.R_lt (by (with_reducible repeat (first | apply Kd.R_alloc | apply Kd.R_drewN | apply Kd.R_drew)); exact HO158.out))) (below_size (by repeat (first | (with_reducible first | exact HB.out | apply below_alloc | apply pw_below_drewN | apply below_drew1 | refine below_set ?_ GE150.out) | exact HB.out)))); have n2_ := Aside0.mk (blk_below (g := gb150) (o := .cells #[.int .i64 0, .int .i64 0, .int .i64 0, .slice none 0 0] 28 (0, 0)) (by (with_reducible repeat (first | refine blk_drewN ?_ _ | refine blk_drew ?_ | refine blk_alloc ?_ _)); exact BK150.out) hb); have n3_ := Aside0.mk (below_step (by repeat (first | (with_reducible first | exact HB.out | apply below_alloc | apply pw_below_drewN | apply below_drew1 | refine below_set ?_ GE150.out) | exact HB.out)) hb); clear HO158; clear BK150; clear HB; have HO158 := n0_; have HO164 := n1_; have BK150 := n2_; have HB := n3_; clear n0_ n1_ n2_ n3_; (try clear hb); (try clear hb2); (try clear hk); (try clear hi); (try clear ho0); have hcz17_0 : w16.cell? ⟨gb150, 0, none⟩ = some (.int .i64 0) := (blk_cell BK150.out 0).trans rfl; have hcz17_1 : w16.cell? ⟨gb150, 1, none⟩ = some (.int .i64 0) := (blk_cell BK150.out 1).trans rfl; have hcz17_2 : w16.cell? ⟨gb150, 2, none⟩ = some (.int .i64 0) := (blk_cell BK150.out 2).trans rfl; have hcz17_3 : w16.cell? ⟨gb150, 3, none⟩ = some (.slice none 0 0) := (blk_cell BK150.out 3).trans rfl; have hfz17_0 := blk_frozen BK150.out 0; have hfz17_1 := blk_frozen BK150.out 1; have hfz17_2 := blk_frozen BK150.out 2; have hfz17_3 := blk_frozen BK150.out 3; obtain ⟨Ao18, co18, eo18⟩ := Kd.R_slice HO164.out; subst eo18))
    refine bodyPost_ret (results_ct rfl _ _ gb150 28 #[.int .i64 t159, .int .i64 t160, .int .i64 t161, .slice Ao18 t162.length co18] (0, 0) _ rfl (by (with_reducible repeat (first | refine blk_drewN ?_ _ | refine blk_drew ?_ | refine blk_alloc ?_ _)); refine blk_put (cs := #[.int .i64 t159, .int .i64 t160, .int .i64 t161, .slice none 0 0]) ?_ 3 _ rfl; (with_reducible repeat (first | refine blk_drewN ?_ _ | refine blk_drew ?_ | refine blk_alloc ?_ _)); refine blk_put (cs := #[.int .i64 t159, .int .i64 t160, .int .i64 0, .slice none 0 0]) ?_ 2 _ rfl; (with_reducible repeat (first | refine blk_drewN ?_ _ | refine blk_drew ?_ | refine blk_alloc ?_ _)); refine blk_put (cs := #[.int .i64 t159, .int .i64 0, .int .i64 0, .slice none 0 0]) ?_ 1 _ rfl; (with_reducible repeat (first | refine blk_drewN ?_ _ | refine blk_drew ?_ | refine blk_alloc ?_ _)); refine blk_put (cs := #[.int .i64 0, .int .i64 0, .int .i64 0, .slice none 0 0]) ?_ 0 _ rfl; (with_reducible repeat (first | refine blk_drewN ?_ _ | refine blk_drew ?_ | refine blk_alloc ?_ _)); exact BK150.out) Try.underlying28 rfl (by kernel_rfl)) rfl ?_
    exact ⟨_, by first | rfl | (simp [errW_none, errW_some] <;> rfl) | (simp [*, errW_none, errW_some] <;> rfl), by (with_reducible repeat (first | apply Kd.R_alloc | apply Kd.R_drewN | apply Kd.R_drew)); exact Kd.R_mono (Kd.R_far (p := ⟨gb150, 3, none⟩) (Kd.R_far (p := ⟨gb150, 2, none⟩) (Kd.R_far (p := ⟨gb150, 1, none⟩) (Kd.R_far (p := ⟨gb150, 0, none⟩) (Kd.R_types HO164.out BK150.out (by decide)) (fun _ hk => hk.2) (.int .i64 t159)) (fun _ hk => hk.2) (.int .i64 t160)) (fun _ hk => hk.2) (.int .i64 t161)) (fun _ hk => hk.2) (.slice Ao18 t162.length co18)) (fun _ hk => trivial), by repeat (first | (with_reducible first | exact HB.out | apply below_alloc | apply pw_below_drewN | apply below_drew1 | refine below_set ?_ GE150.out) | exact HB.out)⟩

end Go.Proofs.Ytpkpjikkfikejaa.PA
namespace Go.Proofs.YtpkpjikkfikejaaQ
open Go Go.RowKit Go.Proofs.YtpkpjikkfikejaaW.PrintWords Go.Proofs.YtpkpjikkfikejaaGp Go.Proofs.Ytpkpjikkfikejaa.PA

/-! ### products below 65521 -/
def mm (x y : Int) : Int := Int.tmod (wrap64 (x * y)) 65521
theorem mul_range {x y : Int} (hx : 0 ≤ x) (hx1 : x ≤ 65520) (hy : 0 ≤ y) (hy1 : y ≤ 65520) : 0 ≤ x * y ∧ x * y ≤ 4292870400 :=
  ⟨Int.mul_nonneg hx hy, by have := Int.mul_le_mul hx1 hy1 hy (by omega); omega⟩
theorem emod_range (x : Int) : 0 ≤ x % 65521 ∧ x % 65521 ≤ 65520 := by omega
theorem mm_eq {x y : Int} (hx : 0 ≤ x) (hx1 : x ≤ 65520) (hy : 0 ≤ y) (hy1 : y ≤ 65520) : mm x y = x * y % 65521 := by
  obtain ⟨h0, h1⟩ := mul_range hx hx1 hy hy1
  unfold mm
  rw [w64 (by omega) (by omega)]
  exact Int.tmod_eq_emod_of_nonneg h0
theorem mm_mod (a b : Int) : mm (a % 65521) (b % 65521) = a * b % 65521 := by
  rw [mm_eq (emod_range a).1 (emod_range a).2 (emod_range b).1 (emod_range b).2]
  exact (Int.mul_emod a b 65521).symm
def pw (h : Int) : Nat → Int
  | 0 => 1
  | n + 1 => pw h n * h
theorem self_mod {h : Int} (h0 : 0 ≤ h) (h1 : h ≤ 65520) : h = h % 65521 := by omega
theorem mm11 {h : Int} (h0 : 0 ≤ h) (h1 : h ≤ 65520) : mm (mm (mm (mm (mm h h) (mm h h)) h) (mm (mm (mm h h) (mm h h)) h)) h = pw h 11 % 65521 := by
  have e := self_mod h0 h1
  have a2 : mm h h = h * h % 65521 := mm_eq h0 h1 h0 h1
  have a4 : mm (mm h h) (mm h h) = (h * h) * (h * h) % 65521 := by rw [a2, mm_mod]
  have a5 : mm (mm (mm h h) (mm h h)) h = (h * h) * (h * h) * h % 65521 := by
    rw [a4]; conv => lhs; arg 2; rw [e]
    rw [mm_mod]
  rw [a5, mm_mod]
  conv => lhs; arg 2; rw [e]
  rw [mm_mod]
  congr 1
  simp only [pw, Int.one_mul, Int.mul_assoc]
theorem mm_pw {h : Int} (h0 : 0 ≤ h) (h1 : h ≤ 65520) (n : Nat) : mm (pw h n % 65521) h = pw h (n + 1) % 65521 := by
  conv => lhs; arg 2; rw [self_mod h0 h1]
  rw [mm_mod]
  rfl

/-! ### hashes -/
def hstep (h : Int) (c : UInt8) : Int := Int.tmod (wrap64 ((wrap64 (263 * h)) + (wrap64 (c.toNat : Int)))) 65521
def hfold (h : Int) (l : List UInt8) : Int := l.foldl hstep h
theorem hstep_range {h : Int} {c : UInt8} (h0 : 0 ≤ h) (h1 : h ≤ 65520) : 0 ≤ hstep h c ∧ hstep h c ≤ 65520 := by
  have hc : c.toNat < 256 := c.toNat_lt
  unfold hstep
  rw [w64 (x := 263 * h) (by omega) (by omega), w64 (x := (c.toNat : Int)) (by omega) (by omega), w64 (by omega) (by omega), Int.tmod_eq_emod_of_nonneg (by omega)]
  omega
theorem hfold_range : ∀ (l : List UInt8) {h : Int}, 0 ≤ h → h ≤ 65520 → 0 ≤ hfold h l ∧ hfold h l ≤ 65520
  | [], _, h0, h1 => ⟨h0, h1⟩
  | c :: l, _, h0, h1 => hfold_range l (hstep_range (c := c) h0 h1).1 (hstep_range (c := c) h0 h1).2
def hstart (a0 a1 : Int) : Int := Int.tmod (wrap64 ((wrap64 ((wrap64 (31 * a0)) + (wrap64 (977 * a1)))) + 7)) 65521
theorem hstart_range {a0 a1 : Int} (h0 : 0 ≤ a0) (h0' : a0 ≤ 1000000) (h1 : 0 ≤ a1) (h1' : a1 ≤ 1000000) : 0 ≤ hstart a0 a1 ∧ hstart a0 a1 ≤ 65520 := by
  unfold hstart
  rw [w64 (x := 31 * a0) (by omega) (by omega), w64 (x := 977 * a1) (by omega) (by omega), w64 (x := 31 * a0 + 977 * a1) (by omega) (by omega), w64 (by omega) (by omega), Int.tmod_eq_emod_of_nonneg (by omega)]
  omega
def hashV (a0 a1 : Int) (s : ByteArray) : Int := pw (hfold (hstart a0 a1) s.data.toList) 11 % 65521
theorem hashV_range (a0 a1 : Int) (s : ByteArray) : 0 ≤ hashV a0 a1 s ∧ hashV a0 a1 s ≤ 65520 := emod_range _
theorem spec_biHash_l0 (x2 : ByteArray) (hz : (x2.size : Int) ≤ 9223372036854775806) : ∀ (t pre : List UInt8) (h : Int), x2.data.toList = pre ++ t → 0 ≤ h → h ≤ 65520 →
    Ev (fun k => spec_biHash.l0 k x2 h (pre.length : Int)) (pw (hfold h t) 11 % 65521) := by
  intro t
  induction t with
  | nil =>
    intro pre h e h0 h1
    refine ev_succ ?_
    simp only [spec_biHash.l0]
    refine ev_neg (not_lt_size e) (ev_some ?_)
    exact mm11 h0 h1
  | cons c t ih =>
    intro pre h e h0 h1
    have hm := lt_size e
    refine ev_succ ?_
    simp only [spec_biHash.l0, bt_mid e]
    refine ev_pos hm (ev_pos (by omega) ?_)
    rw [winc (by omega)]
    have := ih (pre ++ [c]) (hstep h c) (by rw [e]; simp) (hstep_range h0 h1).1 (hstep_range h0 h1).2
    rw [len_one] at this
    exact this
theorem spec_biHash_f (a0 a1 : Int) (s : ByteArray) (hz : (s.size : Int) ≤ 9223372036854775806) (h0 : 0 ≤ a0) (h0' : a0 ≤ 1000000) (h1 : 0 ≤ a1) (h1' : a1 ≤ 1000000) :
    Ev (fun k => spec_biHash.f k a0 a1 s) (hashV a0 a1 s) := by
  unfold spec_biHash.f
  exact spec_biHash_l0 s hz s.data.toList [] _ rfl (hstart_range h0 h0' h1 h1').1 (hstart_range h0 h0' h1 h1').2
theorem impl_hash_l1 {h : Int} (h0 : 0 ≤ h) (h1 : h ≤ 65520) : ∀ (m i : Nat), i + m = 11 → Ev (fun k => impl_hash.l1 k h (pw h i % 65521) (i : Int)) (pw h 11 % 65521) := by
  intro m
  induction m with
  | zero =>
    intro i e
    obtain rfl : i = 11 := by omega
    refine ev_succ ?_
    simp only [impl_hash.l1]
    exact ev_neg (by omega) (ev_some rfl)
  | succ m ih =>
    intro i e
    refine ev_succ ?_
    simp only [impl_hash.l1]
    refine ev_pos (by omega) ?_
    rw [winc (by omega)]
    have := ih (i + 1) (by omega)
    rw [← mm_pw h0 h1 i] at this
    exact this
theorem impl_hash_l0 (x2 : ByteArray) (hz : (x2.size : Int) ≤ 9223372036854775806) : ∀ (t pre : List UInt8) (h : Int), x2.data.toList = pre ++ t → 0 ≤ h → h ≤ 65520 →
    Ev (fun k => impl_hash.l0 k x2 h (x2.size : Int) (pre.length : Int)) (pw (hfold h t) 11 % 65521) := by
  intro t
  induction t with
  | nil =>
    intro pre h e h0 h1
    refine ev_succ ?_
    simp only [impl_hash.l0]
    exact ev_neg (not_lt_size e) (impl_hash_l1 h0 h1 11 0 rfl)
  | cons c t ih =>
    intro pre h e h0 h1
    have hm := lt_size e
    refine ev_succ ?_
    simp only [impl_hash.l0, bt_mid e]
    refine ev_pos hm (ev_pos (by omega) (ev_pos hm ?_))
    rw [winc (by omega)]
    have := ih (pre ++ [c]) (hstep h c) (by rw [e]; simp) (hstep_range h0 h1).1 (hstep_range h0 h1).2
    rw [len_one] at this
    exact this
theorem impl_hash_f (a0 a1 : Int) (s : ByteArray) (hz : (s.size : Int) ≤ 9223372036854775806) (h0 : 0 ≤ a0) (h0' : a0 ≤ 1000000) (h1 : 0 ≤ a1) (h1' : a1 ≤ 1000000) :
    Ev (fun k => impl_hash.f k a0 a1 s) (hashV a0 a1 s) := by
  unfold impl_hash.f
  exact impl_hash_l0 s hz s.data.toList [] _ rfl (hstart_range h0 h0' h1 h1').1 (hstart_range h0 h0' h1 h1').2

/-! ### places -/
def placeV (a0 a1 : Int) (s : ByteArray) (n : Int) : Int := wrap64 (Int.tdiv (wrap64 (hashV a0 a1 s * n)) 65521)
theorem placeV_range (a0 a1 : Int) (s : ByteArray) {n : Int} (h0 : 1 ≤ n) (h1 : n ≤ 1000000) : 0 ≤ placeV a0 a1 s n ∧ placeV a0 a1 s n < n := by
  obtain ⟨a, b⟩ := hashV_range a0 a1 s
  have c := Int.mul_nonneg a (show (0 : Int) ≤ n by omega)
  have d := Int.mul_le_mul_of_nonneg_right b (show (0 : Int) ≤ n by omega)
  unfold placeV
  generalize hashV a0 a1 s * n = y at *
  rw [w64 (x := y) (by omega) (by omega), Int.tdiv_eq_ediv_of_nonneg (by omega), w64 (by omega) (by omega)]
  omega
theorem spec_biPlace_f (a0 a1 : Int) (s : ByteArray) (n : Int) (hz : (s.size : Int) ≤ 9223372036854775806) (h0 : 0 ≤ a0) (h0' : a0 ≤ 1000000) (h1 : 0 ≤ a1) (h1' : a1 ≤ 1000000) :
    Ev (fun k => spec_biPlace.f k a0 a1 s n) (placeV a0 a1 s n) := by
  unfold spec_biPlace.f
  exact ev_bind _ (spec_biHash_f a0 a1 s hz h0 h0' h1 h1') (Ev.now _)
theorem impl_place_f (a0 a1 : Int) (s : ByteArray) (n : Int) (hz : (s.size : Int) ≤ 9223372036854775806) (h0 : 0 ≤ a0) (h0' : a0 ≤ 1000000) (h1 : 0 ≤ a1) (h1' : a1 ≤ 1000000) :
    Ev (fun k => impl_place.f k a0 a1 s n) (placeV a0 a1 s n) := by
  unfold impl_place.f
  exact ev_bind _ (impl_hash_f a0 a1 s hz h0 h0' h1 h1') (Ev.now _)
end Go.Proofs.YtpkpjikkfikejaaQ
namespace Go.Proofs.YtpkpjikkfikejaaQ
open Go Go.RowKit Go.Proofs.YtpkpjikkfikejaaW.PrintWords Go.Proofs.YtpkpjikkfikejaaGp Go.Proofs.Ytpkpjikkfikejaa.PA

/-- m probes, from the one numbered i on. -/
def probesL (a0 : Int) (s : ByteArray) (n : Int) : Nat → Nat → List Int
  | 0, _ => []
  | m + 1, i => placeV a0 (i : Int) s n :: probesL a0 s n m (i + 1)
theorem probesL_len (a0 : Int) (s : ByteArray) (n : Int) : ∀ m i, (probesL a0 s n m i).length = m
  | 0, _ => rfl
  | m + 1, i => by simp [probesL, probesL_len a0 s n m]
theorem probesL_range (a0 : Int) (s : ByteArray) {n : Int} (h0 : 1 ≤ n) (h1 : n ≤ 1000000) : ∀ m i, ∀ p ∈ probesL a0 s n m i, 0 ≤ p ∧ p < n
  | 0, _, p, h => by simp [probesL] at h
  | m + 1, i, p, h => by
    simp only [probesL, List.mem_cons] at h
    rcases h with rfl | h
    · exact placeV_range a0 _ s h0 h1
    · exact probesL_range a0 s h0 h1 m (i + 1) p h
theorem spec_fiProbes_l0 (a0 : Int) (n : Int) (s : ByteArray) (hz : (s.size : Int) ≤ 9223372036854775806) (h0 : 0 ≤ a0) (h0' : a0 ≤ 1000000) (x1 : Int) (hx : x1 ≤ 1000000) : ∀ (m i : Nat) (acc : List Int), ((i + m : Nat) : Int) = x1 → acc.length = i →
    Ev (fun k => spec_fiProbes.l0 k a0 x1 n s acc (i : Int)) (acc ++ probesL a0 s n m i) := by
  intro m
  induction m with
  | zero =>
    intro i acc e ha
    refine ev_succ ?_
    simp only [spec_fiProbes.l0, probesL]
    exact ev_neg (by omega) (ev_some (by simp))
  | succ m ih =>
    intro i acc e ha
    refine ev_succ ?_
    simp only [spec_fiProbes.l0, probesL]
    refine ev_pos (by omega) (ev_bind _ (spec_biPlace_f a0 (i : Int) s n hz h0 h0' (by omega) (by omega)) (ev_pos (by omega) ?_))
    rw [winc (by omega)]
    have := ih (i + 1) (acc ++ [placeV a0 (i : Int) s n]) (by omega) (by simp [ha])
    rw [List.append_assoc] at this
    exact this
theorem spec_fiProbes_f (a0 a1 n : Int) (s : ByteArray) (hz : (s.size : Int) ≤ 9223372036854775806) (h0 : 0 ≤ a0) (h0' : a0 ≤ 1000000) (h1 : 0 ≤ a1) (h1' : a1 ≤ 1000000) :
    Ev (fun k => spec_fiProbes.f k a0 a1 n s) (probesL a0 s n a1.toNat 0) := by
  unfold spec_fiProbes.f
  have := spec_fiProbes_l0 a0 n s hz h0 h0' a1 h1' a1.toNat 0 [] (by omega) rfl
  exact this
theorem impl_probesOf_l0 (a0 : Int) (n : Int) (s : ByteArray) (hz : (s.size : Int) ≤ 9223372036854775806) (h0 : 0 ≤ a0) (h0' : a0 ≤ 1000000) (x1 : Int) (hx : x1 ≤ 1000000) : ∀ (m i : Nat) (acc : List Int), ((i + m : Nat) : Int) = x1 → acc.length = i →
    Ev (fun k => impl_probesOf.l0 k a0 n s acc x1 (i : Int)) (acc ++ probesL a0 s n m i) := by
  intro m
  induction m with
  | zero =>
    intro i acc e ha
    refine ev_succ ?_
    simp only [impl_probesOf.l0, probesL]
    exact ev_neg (by omega) (ev_some (by simp))
  | succ m ih =>
    intro i acc e ha
    refine ev_succ ?_
    simp only [impl_probesOf.l0, probesL]
    refine ev_pos (by omega) (ev_bind _ (impl_place_f a0 (i : Int) s n hz h0 h0' (by omega) (by omega)) (ev_pos (by omega) ?_))
    rw [winc (by omega)]
    have := ih (i + 1) (acc ++ [placeV a0 (i : Int) s n]) (by omega) (by simp [ha])
    rw [List.append_assoc] at this
    exact this
theorem impl_probesOf_f (a0 a1 n : Int) (s : ByteArray) (hz : (s.size : Int) ≤ 9223372036854775806) (h0 : 0 ≤ a0) (h0' : a0 ≤ 1000000) (h1 : 0 ≤ a1) (h1' : a1 ≤ 1000000) :
    Ev (fun k => impl_probesOf.f k a0 a1 n s) (probesL a0 s n a1.toNat 0) := by
  unfold impl_probesOf.f
  have := impl_probesOf_l0 a0 n s hz h0 h0' a1 h1' a1.toNat 0 [] (by omega) rfl
  exact this
end Go.Proofs.YtpkpjikkfikejaaQ
namespace Go.Proofs.YtpkpjikkfikejaaQ
open Go Go.RowKit Go.Proofs.YtpkpjikkfikejaaW.PrintWords Go.Proofs.YtpkpjikkfikejaaGp Go.Proofs.Ytpkpjikkfikejaa.PA

theorem ofInt_wrap (a : BitVec 64) : BitVec.ofInt 64 (IntKind.i64.wrap (a.toNat : Int)) = a := by
  have h : a.toNat < 2 ^ 64 := a.isLt
  apply BitVec.eq_of_toNat_eq
  rw [BitVec.toNat_ofInt]
  show ((IntKind.i64.wrap (a.toNat : Int)) % ((2 ^ 64 : Nat) : Int)).toNat = a.toNat
  have e : IntKind.i64.wrap (a.toNat : Int) = if (a.toNat : Int) % 18446744073709551616 ≥ 9223372036854775808 then (a.toNat : Int) % 18446744073709551616 - 18446744073709551616 else (a.toNat : Int) % 18446744073709551616 := by
    unfold IntKind.wrap
    simp [IntKind.bits, IntKind.signed]
  rw [e]
  have h2 : (2 : Nat) ^ 64 = 18446744073709551616 := by decide
  rw [h2] at h ⊢
  split <;> omega
theorem or_andNot (x b : Int) : Go.bits .or .i64 (Go.bits .andNot .i64 x b) b = Go.bits .or .i64 x b := by
  have e : ∀ op y, Go.bits op .i64 y b = IntKind.i64.wrap (((match op with | .and => BitVec.ofInt 64 y &&& BitVec.ofInt 64 b | .or => BitVec.ofInt 64 y ||| BitVec.ofInt 64 b | .xor => BitVec.ofInt 64 y ^^^ BitVec.ofInt 64 b | _ => BitVec.ofInt 64 y &&& ~~~(BitVec.ofInt 64 b)) : BitVec 64).toNat : Int) := fun op y => by
    unfold Go.bits; cases op <;> rfl
  rw [e .or, e .or, e .andNot]
  simp only
  rw [ofInt_wrap]
  congr 2
  apply congrArg
  apply BitVec.eq_of_getLsbD_eq
  intro i hi
  simp only [BitVec.getLsbD_or, BitVec.getLsbD_and, BitVec.getLsbD_not, hi, decide_true, Bool.true_and]
  cases (BitVec.ofInt 64 x).getLsbD i <;> cases (BitVec.ofInt 64 b).getLsbD i <;> rfl

/-- The place p of the bits is set. -/
def setV (l : List Int) (p : Int) : List Int := l.set (p / 16).toNat (Go.bits .or .i64 (rd l (p / 16)) (shl .i64 1 (p % 16)))
theorem setV_len (l : List Int) (p : Int) : (setV l p).length = l.length := by simp [setV]
theorem div16 {p : Int} (h0 : 0 ≤ p) (h1 : p ≤ 1000000) : wrap64 (Int.tdiv p 16) = p / 16 ∧ Int.tmod p 16 = p % 16 := by
  rw [Int.tdiv_eq_ediv_of_nonneg h0, Int.tmod_eq_emod_of_nonneg h0, w64 (by omega) (by omega)]
  exact ⟨rfl, rfl⟩
theorem rd_set {l : List Int} {i : Nat} {v : Int} (h : i < l.length) : rd (l.set i v) (i : Int) = v := by simp [rd, h]
theorem spec_biSet_f (n : Int) (l : List Int) {p : Int} (h0 : 0 ≤ p) (h1 : p ≤ 1000000) (h2 : p / 16 < (l.length : Int)) : spec_biSet.f n l p = some (setV l p) := by
  unfold spec_biSet.f
  rw [(div16 h0 h1).1, (div16 h0 h1).2, if_pos (by omega), if_pos h2, if_pos (by omega)]
  rfl
theorem impl_Bits_set_f (n : Int) (l : List Int) {p : Int} (h0 : 0 ≤ p) (h1 : p ≤ 1000000) (h2 : p / 16 < (l.length : Int)) : impl_Bits_set.f n l p true = some (setV l p) := by
  unfold impl_Bits_set.f
  rw [(div16 h0 h1).1, (div16 h0 h1).2, if_pos (by omega), if_pos h2, if_pos (by omega)]
  simp only [Option.bind_some, if_true]
  obtain ⟨q, hq⟩ : ∃ q : Nat, p / 16 = (q : Int) := ⟨(p / 16).toNat, by omega⟩
  unfold setV
  rw [hq] at h2 ⊢
  simp only [Int.toNat_natCast]
  rw [rd_set (by omega), List.set_set, or_andNot]

def addP (l : List Int) (ps : List Int) : List Int := ps.foldl setV l
theorem addP_len : ∀ (ps l : List Int), (addP l ps).length = l.length
  | [], _ => rfl
  | p :: ps, l => (addP_len ps (setV l p)).trans (setV_len l p)
def addK (a0 : Int) (m : Nat) (n : Int) (l : List Int) (ks : List ByteArray) : List Int := ks.foldl (fun l s => addP l (probesL a0 s n m 0)) l
theorem addK_len (a0 : Int) (m : Nat) (n : Int) : ∀ (ks : List ByteArray) (l : List Int), (addK a0 m n l ks).length = l.length
  | [], _ => rfl
  | _ :: ks, l => (addK_len a0 m n ks _).trans (addP_len _ l)
theorem impl_put_l0 (a0 a1 n : Int) (x20 : List Int) (hl : (x20.length : Int) ≤ 9223372036854775806) : ∀ (t pre l : List Int), x20 = pre ++ t → (∀ p ∈ t, 0 ≤ p ∧ p ≤ 1000000 ∧ p / 16 < (l.length : Int)) →
    Ev (fun k => impl_Bloom_put.l0 k x20 (x20.length : Int) (pre.length : Int) a0 a1 n l) (addP l t) := by
  intro t
  induction t with
  | nil =>
    intro pre l e hp
    refine ev_succ ?_
    simp only [impl_Bloom_put.l0]
    exact ev_neg (by rw [e]; exact not_lt_end) (ev_some rfl)
  | cons s t ih =>
    intro pre l e hp
    have hm : ((pre.length : Nat) : Int) < (x20.length : Int) := by rw [e]; exact lt_mid
    have hg : rd x20 (pre.length : Int) = s := by rw [e]; exact rd_mid
    obtain ⟨p0, p1, p2⟩ := hp s (by simp)
    refine ev_succ ?_
    simp only [impl_Bloom_put.l0, hg]
    refine ev_pos hm (ev_pos (by omega) (ev_pos hm (ev_bind (setV l s) (by rw [impl_Bits_set_f n l p0 p1 p2]; exact Ev.now _) ?_)))
    rw [winc (by omega)]
    have := ih (pre ++ [s]) (setV l s) (by rw [e]; simp) (fun p h => by rw [setV_len]; exact hp p (by simp [h]))
    rw [len_one] at this
    exact this
theorem impl_put_f (a0 a1 n : Int) (l : List Int) (s : ByteArray) (hz : (s.size : Int) ≤ 9223372036854775806) (h0 : 0 ≤ a0) (h0' : a0 ≤ 1000000) (h1 : 0 ≤ a1) (h1' : a1 ≤ 1000000)
    (hn : 1 ≤ n) (hn' : n ≤ 1000000) (hl : (n + 15) / 16 ≤ (l.length : Int)) : Ev (fun k => impl_Bloom_put.f k a0 a1 n l s) (addP l (probesL a0 s n a1.toNat 0)) := by
  unfold impl_Bloom_put.f
  refine ev_bind _ (impl_probesOf_f a0 a1 n s hz h0 h0' h1 h1') ?_
  exact impl_put_l0 a0 a1 n _ (by rw [probesL_len]; omega) _ [] l rfl (fun p h => by
    obtain ⟨x, y⟩ := probesL_range a0 s hn hn' _ _ p h
    exact ⟨x, by omega, by omega⟩)
end Go.Proofs.YtpkpjikkfikejaaQ
namespace Go.Proofs.YtpkpjikkfikejaaQ
open Go Go.RowKit Go.Proofs.YtpkpjikkfikejaaW.PrintWords Go.Proofs.YtpkpjikkfikejaaGp Go.Proofs.Ytpkpjikkfikejaa.PA

theorem spec_in (n a b : Int) : spec_l1In.f n a b = some (decide (a ≤ n ∧ n ≤ b)) := by
  unfold spec_l1In.f
  by_cases h : a ≤ n <;> by_cases h' : n ≤ b <;> simp [h, h']
theorem impl_in (n a b : Int) : impl_in.f n a b = some (decide (a ≤ n ∧ n ≤ b)) := by
  unfold impl_in.f
  by_cases h : a ≤ n <;> by_cases h' : n ≤ b <;> simp [h, h']

/-! ### one key -/
def byteOk (c : UInt8) : Bool := decide (33 ≤ (c.toNat : Int) ∧ (c.toNat : Int) ≤ 125)
def isKeyB (s : ByteArray) : Bool := s.data.toList.all byteOk && decide (1 ≤ (s.size : Int) ∧ (s.size : Int) ≤ 12)
theorem spec_IsKey_l0 (x0 : ByteArray) (hz : (x0.size : Int) ≤ 9223372036854775806) : ∀ (t pre : List UInt8), x0.data.toList = pre ++ t →
    Ev (fun k => spec_IsKey.l0 k x0 (pre.length : Int)) (t.all byteOk && decide (1 ≤ (x0.size : Int) ∧ (x0.size : Int) ≤ 12)) := by
  intro t
  induction t with
  | nil =>
    intro pre h
    refine ev_succ ?_
    simp only [spec_IsKey.l0, spec_in, Option.bind_some]
    exact ev_neg (not_lt_size h) (ev_some (by simp))
  | cons c t ih =>
    intro pre h
    have hm := lt_size h
    refine ev_succ ?_
    simp only [spec_IsKey.l0, bt_mid h]
    refine ev_pos hm (ev_pos (by omega) ?_)
    by_cases c1 : (c.toNat : Int) < 33
    · exact ev_pos c1 (ev_some (by simp [byteOk]; omega))
    · refine ev_neg c1 ?_
      by_cases c2 : (c.toNat : Int) > 125
      · exact ev_pos c2 (ev_some (by simp [byteOk]; omega))
      · refine ev_neg c2 ?_
        rw [winc (by omega)]
        have := ih (pre ++ [c]) (by rw [h]; simp)
        rw [len_one] at this
        have hb : byteOk c = true := by simp [byteOk]; omega
        simpa [hb] using this
theorem spec_IsKey_f (s : ByteArray) (hz : (s.size : Int) ≤ 9223372036854775806) : Ev (fun k => spec_IsKey.f k s) (isKeyB s) := by
  unfold spec_IsKey.f
  exact spec_IsKey_l0 s hz s.data.toList [] rfl
theorem impl_IsKey_l0 (x0 : ByteArray) (hz : (x0.size : Int) ≤ 9223372036854775806) : ∀ (t pre : List UInt8), x0.data.toList = pre ++ t →
    Ev (fun k => impl_IsKey.l0 k x0 (x0.size : Int) (pre.length : Int)) (t.all byteOk && decide (1 ≤ (x0.size : Int) ∧ (x0.size : Int) ≤ 12)) := by
  intro t
  induction t with
  | nil =>
    intro pre h
    refine ev_succ ?_
    simp only [impl_IsKey.l0, impl_in, Option.bind_some]
    exact ev_neg (not_lt_size h) (ev_some (by simp))
  | cons c t ih =>
    intro pre h
    have hm := lt_size h
    refine ev_succ ?_
    simp only [impl_IsKey.l0, bt_mid h]
    refine ev_pos hm (ev_pos (by omega) (ev_pos hm ?_))
    by_cases c1 : (c.toNat : Int) < 33
    · exact ev_pos c1 (ev_some (by simp [byteOk]; omega))
    · refine ev_neg c1 ?_
      by_cases c2 : (c.toNat : Int) > 125
      · exact ev_pos c2 (ev_some (by simp [byteOk]; omega))
      · refine ev_neg c2 ?_
        rw [winc (by omega)]
        have := ih (pre ++ [c]) (by rw [h]; simp)
        rw [len_one] at this
        have hb : byteOk c = true := by simp [byteOk]; omega
        simpa [hb] using this
theorem impl_IsKey_f (s : ByteArray) (hz : (s.size : Int) ≤ 9223372036854775806) : Ev (fun k => impl_IsKey.f k s) (isKeyB s) := by
  unfold impl_IsKey.f
  exact impl_IsKey_l0 s hz s.data.toList [] rfl
theorem isKeyB_size {s : ByteArray} (h : isKeyB s = true) : 1 ≤ s.size ∧ s.size ≤ 12 := by
  simp [isKeyB] at h
  omega

/-! ### lists of keys -/
/-- The rest of a list of keys behind the last one of those before. -/
def keysFrom : Option ByteArray → List ByteArray → Bool
  | _, [] => true
  | p, s :: t => isKeyB s && (match p with | none => true | some q => lessS q s) && keysFrom (some s) t
def areKeysB (l : List ByteArray) : Bool := keysFrom none l && decide ((l.length : Int) ≤ 40)
/-- The last one of a list. -/
def lastOf (pre : List ByteArray) : Option ByteArray := pre.getLast?
theorem lastOf_one (pre : List ByteArray) (s : ByteArray) : lastOf (pre ++ [s]) = some s := by simp [lastOf]
theorem lastOf_nil : lastOf [] = none := rfl
theorem last_split {pre : List ByteArray} (h : 0 < pre.length) : ∃ q p, pre = q ++ [p] := by
  obtain ⟨x, hx⟩ : ∃ x, pre.getLast? = some x := by
    cases hp : pre.getLast? with
    | none => rw [List.getLast?_eq_none_iff] at hp; subst hp; simp at h
    | some x => exact ⟨x, rfl⟩
  obtain ⟨q, hq⟩ := List.getLast?_eq_some_iff.1 hx
  exact ⟨q, x, hq⟩

theorem spec_biKeys_l0 (x0 : List ByteArray) (hl : (x0.length : Int) ≤ 9223372036854775806) : ∀ (t pre : List ByteArray), x0 = pre ++ t → (∀ s ∈ t, (s.size : Int) ≤ 9223372036854775806) →
    Ev (fun k => spec_biKeys.l0 k x0 x0 (x0.length : Int) (pre.length : Int)) (keysFrom (lastOf pre) t && decide ((x0.length : Int) ≤ 40)) := by
  intro t
  induction t with
  | nil =>
    intro pre h hs
    refine ev_succ ?_
    simp only [spec_biKeys.l0]
    exact ev_neg (by rw [h]; exact not_lt_end) (ev_some (by simp [keysFrom]))
  | cons s t ih =>
    intro pre h hs
    have hm : ((pre.length : Nat) : Int) < (x0.length : Int) := by rw [h]; exact lt_mid
    have hg : rdOf ByteArray.empty x0 (pre.length : Int) = s := by rw [h]; exact rdOf_mid
    have next := ih (pre ++ [s]) (by rw [h]; simp) (fun x hx => hs x (by simp [hx]))
    rw [len_one, lastOf_one] at next
    refine ev_succ ?_
    simp only [spec_biKeys.l0, hg]
    refine ev_pos hm (ev_pos (by omega) (ev_pos hm (ev_bind _ (spec_IsKey_f s (hs s (by simp))) ?_)))
    cases hk : isKeyB s with
    | false => exact ev_neg (by simp) (ev_some (by simp [keysFrom, hk]))
    | true =>
      refine ev_pos rfl ?_
      by_cases c : 0 < pre.length
      · obtain ⟨q, p, rfl⟩ := last_split c
        have hp : rdOf ByteArray.empty x0 ((q.length : Nat) : Int) = p := by rw [h]; exact rdOf_last
        have hw : wrap64 (((q ++ [p]).length : Int) - 1) = (q.length : Int) := by rw [len_one]; exact wdec (by simp at hm; omega)
        simp only [hw, hp, lastOf_one, keysFrom, hk, Bool.true_and]
        refine ev_pos (by omega) (ev_pos (by omega) (ev_pos (by simp at hm; omega) ?_))
        by_cases c2 : lessS p s = true
        · refine ev_pos c2 ?_
          rw [winc (by omega), c2, Bool.true_and]
          exact next
        · refine ev_neg c2 (ev_some ?_)
          simp only [Bool.not_eq_true] at c2
          simp [c2]
      · obtain rfl := List.length_eq_zero_iff.1 (show pre.length = 0 by omega)
        refine ev_neg (by simp) ?_
        rw [winc (by omega)]
        simp only [lastOf_nil, keysFrom, hk, Bool.true_and]
        exact next
theorem spec_biKeys_f (l : List ByteArray) (hl : (l.length : Int) ≤ 9223372036854775806) (hs : ∀ s ∈ l, (s.size : Int) ≤ 9223372036854775806) : Ev (fun k => spec_biKeys.f k l) (areKeysB l) := by
  unfold spec_biKeys.f
  exact spec_biKeys_l0 l hl l [] rfl hs
theorem impl_AreKeys_l0 (x0 : List ByteArray) (hl : (x0.length : Int) ≤ 9223372036854775806) : ∀ (t pre : List ByteArray), x0 = pre ++ t → (∀ s ∈ t, (s.size : Int) ≤ 9223372036854775806) →
    Ev (fun k => impl_AreKeys.l0 k x0 x0 (x0.length : Int) (pre.length : Int)) (keysFrom (lastOf pre) t && decide ((x0.length : Int) ≤ 40)) := by
  intro t
  induction t with
  | nil =>
    intro pre h hs
    refine ev_succ ?_
    simp only [impl_AreKeys.l0]
    exact ev_neg (by rw [h]; exact not_lt_end) (ev_some (by simp [keysFrom]))
  | cons s t ih =>
    intro pre h hs
    have hm : ((pre.length : Nat) : Int) < (x0.length : Int) := by rw [h]; exact lt_mid
    have hg : rdOf ByteArray.empty x0 (pre.length : Int) = s := by rw [h]; exact rdOf_mid
    have next := ih (pre ++ [s]) (by rw [h]; simp) (fun x hx => hs x (by simp [hx]))
    rw [len_one, lastOf_one] at next
    refine ev_succ ?_
    simp only [impl_AreKeys.l0, hg]
    refine ev_pos hm (ev_pos (by omega) (ev_pos hm (ev_bind _ (impl_IsKey_f s (hs s (by simp))) ?_)))
    cases hk : isKeyB s with
    | false => exact ev_neg (by simp) (ev_some (by simp [keysFrom, hk]))
    | true =>
      refine ev_pos rfl ?_
      by_cases c : 0 < pre.length
      · obtain ⟨q, p, rfl⟩ := last_split c
        have hp : rdOf ByteArray.empty x0 ((q.length : Nat) : Int) = p := by rw [h]; exact rdOf_last
        have hw : wrap64 (((q ++ [p]).length : Int) - 1) = (q.length : Int) := by rw [len_one]; exact wdec (by simp at hm; omega)
        simp only [hw, hp, lastOf_one, keysFrom, hk, Bool.true_and]
        refine ev_pos (by omega) (ev_pos (by omega) (ev_pos (by simp at hm; omega) ?_))
        by_cases c2 : lessS p s = true
        · refine ev_pos c2 ?_
          rw [winc (by omega), c2, Bool.true_and]
          exact next
        · refine ev_neg c2 (ev_some ?_)
          simp only [Bool.not_eq_true] at c2
          simp [c2]
      · obtain rfl := List.length_eq_zero_iff.1 (show pre.length = 0 by omega)
        refine ev_neg (by simp) ?_
        rw [winc (by omega)]
        simp only [lastOf_nil, keysFrom, hk, Bool.true_and]
        exact next
theorem impl_AreKeys_f (l : List ByteArray) (hl : (l.length : Int) ≤ 9223372036854775806) (hs : ∀ s ∈ l, (s.size : Int) ≤ 9223372036854775806) : Ev (fun k => impl_AreKeys.f k l) (areKeysB l) := by
  unfold impl_AreKeys.f
  exact impl_AreKeys_l0 l hl l [] rfl hs
theorem areKeysB_len {l : List ByteArray} (h : areKeysB l = true) : l.length ≤ 40 := by
  simp [areKeysB] at h
  omega
theorem keysFrom_all : ∀ (p : Option ByteArray) (l : List ByteArray), keysFrom p l = true → ∀ s ∈ l, isKeyB s = true
  | _, [], _, s, h => by simp at h
  | p, x :: t, hk, s, h => by
    simp only [keysFrom, Bool.and_eq_true] at hk
    rcases List.mem_cons.1 h with rfl | h
    · exact hk.1.1
    · exact keysFrom_all _ t hk.2 s h
theorem areKeysB_all {l : List ByteArray} (h : areKeysB l = true) : ∀ s ∈ l, isKeyB s = true := by
  simp only [areKeysB, Bool.and_eq_true] at h
  exact keysFrom_all _ _ h.1
theorem areKeysB_from {l : List ByteArray} (h : areKeysB l = true) : keysFrom none l = true := by
  simp only [areKeysB, Bool.and_eq_true] at h
  exact h.1
/-- All behind a key are greater. -/
theorem keysFrom_less : ∀ (q : ByteArray) (l : List ByteArray), keysFrom (some q) l = true → ∀ s ∈ l, lessS q s = true
  | _, [], _, s, h => by simp at h
  | q, x :: t, hk, s, h => by
    simp only [keysFrom, Bool.and_eq_true] at hk
    rcases List.mem_cons.1 h with rfl | h
    · exact hk.1.2
    · exact lessS_trans hk.1.2 (keysFrom_less x t hk.2 s h)
end Go.Proofs.YtpkpjikkfikejaaQ
namespace Go.Proofs.YtpkpjikkfikejaaQ
open Go Go.RowKit Go.Proofs.YtpkpjikkfikejaaW.PrintWords Go.Proofs.YtpkpjikkfikejaaGp Go.Proofs.Ytpkpjikkfikejaa.PA

def sizesB (a0 a1 a2 : Int) : Bool := decide (0 ≤ a0 ∧ a0 ≤ 9999) && decide (1 ≤ a1 ∧ a1 ≤ 8) && decide (1 ≤ a2 ∧ a2 ≤ 512)
theorem sizesB_ok {a0 a1 a2 : Int} (h : sizesB a0 a1 a2 = true) : (0 ≤ a0 ∧ a0 ≤ 9999) ∧ (1 ≤ a1 ∧ a1 ≤ 8) ∧ 1 ≤ a2 ∧ a2 ≤ 512 := by
  simp only [sizesB, Bool.and_eq_true, decide_eq_true_eq] at h
  exact ⟨h.1.1, h.1.2, h.2⟩
def blankV (n : Int) : List Int := List.replicate ((n + 15) / 16).toNat 0
theorem blankV_len {n : Int} (h : 1 ≤ n) : ((blankV n).length : Int) = (n + 15) / 16 := by simp [blankV]; omega
theorem words15 {n : Int} (h0 : 1 ≤ n) (h1 : n ≤ 512) : wrap64 (Int.tdiv (wrap64 (n + 15)) 16) = (n + 15) / 16 := by
  rw [w64 (x := n + 15) (by omega) (by omega), Int.tdiv_eq_ediv_of_nonneg (by omega), w64 (by omega) (by omega)]
def bloomV (a0 a1 a2 : Int) (l : List ByteArray) : Int × Int × Int × List Int × Bool :=
  if (sizesB a0 a1 a2 && areKeysB l) = true then (a0, a1, a2, addK a0 a1.toNat a2 (blankV a2) l, true) else (0, 0, 0, [], false)
theorem bloomV_len (a0 a1 a2 : Int) (l : List ByteArray) : (bloomV a0 a1 a2 l).2.2.2.1.length ≤ 40 := by
  unfold bloomV
  split
  · rename_i h
    rw [Bool.and_eq_true] at h
    obtain ⟨_, _, h2, h3⟩ := sizesB_ok h.1
    simp only [addK_len]
    have := blankV_len h2
    omega
  · simp

theorem spec_fiSize_f (a0 a1 a2 : Int) : spec_fiSize.f a0 a1 a2 = some (sizesB a0 a1 a2) := by
  unfold spec_fiSize.f sizesB
  simp only [spec_in, Option.bind_some]
  by_cases h0 : 0 ≤ a0 ∧ a0 ≤ 9999 <;> by_cases h1 : 1 ≤ a1 ∧ a1 ≤ 8 <;> by_cases h2 : 1 ≤ a2 ∧ a2 ≤ 512 <;> simp [h0, h1, h2]
theorem spec_fiAdd_l1 (x18 : List ByteArray) (x19 x20 a0 a1 n : Int) (l' : List Int) (b0 b1 bn : Int) (x32 : List Int) (hl : (x32.length : Int) ≤ 9223372036854775806) {r : Int × Int × Int × List Int} : ∀ (t pre l : List Int), x32 = pre ++ t → (∀ p ∈ t, 0 ≤ p ∧ p ≤ 1000000 ∧ p / 16 < (l.length : Int)) →
    Ev (fun k => spec_fiAdd.l0 k x18 x19 (wrap64 (x20 + 1)) a0 a1 n l' b0 b1 bn (addP l t)) r →
    Ev (fun k => spec_fiAdd.l1 k x18 x19 x20 x32 (x32.length : Int) (pre.length : Int) a0 a1 n l' b0 b1 bn l) r := by
  intro t
  induction t with
  | nil =>
    intro pre l e hp H
    refine ev_succ ?_
    simp only [spec_fiAdd.l1]
    exact ev_neg (by rw [e]; exact not_lt_end) H
  | cons s t ih =>
    intro pre l e hp H
    have hm : ((pre.length : Nat) : Int) < (x32.length : Int) := by rw [e]; exact lt_mid
    have hg : rd x32 (pre.length : Int) = s := by rw [e]; exact rd_mid
    obtain ⟨p0, p1, p2⟩ := hp s (by simp)
    refine ev_succ ?_
    simp only [spec_fiAdd.l1, hg]
    refine ev_pos hm (ev_pos (by omega) (ev_pos hm (ev_bind (setV l s) (by rw [spec_biSet_f bn l p0 p1 p2]; exact Ev.now _) ?_)))
    rw [winc (by omega)]
    have := ih (pre ++ [s]) (setV l s) (by rw [e]; simp) (fun p h => by rw [setV_len]; exact hp p (by simp [h])) H
    rw [len_one] at this
    exact this
theorem spec_fiAdd_l0 (x18 : List ByteArray) (a0 a1 n : Int) (l' : List Int) (b0 b1 bn : Int) (hl : (x18.length : Int) ≤ 9223372036854775806) (h0 : 0 ≤ a0) (h0' : a0 ≤ 1000000) (h1 : 0 ≤ a1) (h1' : a1 ≤ 1000000) (hn : 1 ≤ n) (hn' : n ≤ 1000000) : ∀ (t pre : List ByteArray) (l : List Int), x18 = pre ++ t → (∀ s ∈ t, (s.size : Int) ≤ 9223372036854775806) → (n + 15) / 16 ≤ (l.length : Int) →
    Ev (fun k => spec_fiAdd.l0 k x18 (x18.length : Int) (pre.length : Int) a0 a1 n l' b0 b1 bn l) (b0, b1, bn, addK a0 a1.toNat n l t) := by
  intro t
  induction t with
  | nil =>
    intro pre l e hz hb
    refine ev_succ ?_
    simp only [spec_fiAdd.l0]
    exact ev_neg (by rw [e]; exact not_lt_end) (ev_some rfl)
  | cons s t ih =>
    intro pre l e hz hb
    have hm : ((pre.length : Nat) : Int) < (x18.length : Int) := by rw [e]; exact lt_mid
    have hg : rdOf ByteArray.empty x18 (pre.length : Int) = s := by rw [e]; exact rdOf_mid
    refine ev_succ ?_
    simp only [spec_fiAdd.l0, hg]
    refine ev_pos hm (ev_pos (by omega) (ev_pos hm (ev_bind _ (spec_fiProbes_f a0 a1 n s (hz s (by simp)) h0 h0' h1 h1') ?_)))
    refine spec_fiAdd_l1 _ _ _ _ _ _ _ _ _ _ _ (by rw [probesL_len]; omega) _ [] l rfl (fun p h => by
      obtain ⟨x, y⟩ := probesL_range a0 s hn hn' _ _ p h
      exact ⟨x, by omega, by omega⟩) ?_
    rw [winc (by omega)]
    have := ih (pre ++ [s]) (addP l (probesL a0 s n a1.toNat 0)) (by rw [e]; simp) (fun s h => hz s (by simp [h])) (by rw [addP_len]; exact hb)
    rw [len_one] at this
    exact this
theorem spec_fiAdd_f (a0 a1 n : Int) (l : List Int) (ks : List ByteArray) (hk : (ks.length : Int) ≤ 9223372036854775806) (hz : ∀ s ∈ ks, (s.size : Int) ≤ 9223372036854775806) (hl : (l.length : Int) ≤ 1000000) (h0 : 0 ≤ a0) (h0' : a0 ≤ 1000000) (h1 : 0 ≤ a1) (h1' : a1 ≤ 1000000) (hn : 1 ≤ n) (hn' : n ≤ 1000000) (hb : (n + 15) / 16 ≤ (l.length : Int)) :
    Ev (fun k => spec_fiAdd.f k a0 a1 n l ks) (a0, a1, n, addK a0 a1.toNat n l ks) := by
  have e : spec_biOwn.f n l = some (n, l) := by
    unfold spec_biOwn.f spec_l1Own.f
    simp only [Option.bind_some, List.length_nil, List.nil_append]
    rw [if_pos (by omega)]
    rfl
  unfold spec_fiAdd.f
  rw [e]
  have := spec_fiAdd_l0 ks a0 a1 n l a0 a1 n hk h0 h0' h1 h1' hn hn' ks [] l rfl hz hb
  exact this
theorem spec_BloomOf_f (a0 a1 a2 : Int) (l : List ByteArray) (hl : (l.length : Int) ≤ 9223372036854775806) (hz : ∀ s ∈ l, (s.size : Int) ≤ 9223372036854775806) :
    Ev (fun k => spec_BloomOf.f k a0 a1 a2 l) (bloomV a0 a1 a2 l) := by
  unfold spec_BloomOf.f
  rw [spec_fiSize_f]
  simp only [Option.bind_some]
  by_cases hs : sizesB a0 a1 a2 = true
  · refine ev_pos hs (ev_bind _ (spec_biKeys_f l hl hz) (ev_succ ?_))
    simp only [spec_BloomOf.j0]
    by_cases hk : areKeysB l = true
    · obtain ⟨⟨p0, p1⟩, ⟨p2, p3⟩, p4, p5⟩ := sizesB_ok hs
      have hb : spec_biNew.f a2 = some (a2, blankV a2) := by
        unfold spec_biNew.f
        rw [words15 p4 p5, if_pos (by omega), if_pos (by omega)]
        rfl
      have hn : spec_fiNew.f a0 a1 a2 = some (a0, a1, a2, blankV a2) := by
        unfold spec_fiNew.f
        rw [hb]
        rfl
      have hbl := blankV_len p4
      rw [hn]
      refine ev_neg (by simp [hk]) ?_
      simp only [Option.bind_some]
      refine ev_bind _ (spec_fiAdd_f a0 a1 a2 (blankV a2) l hl hz (by omega) p0 (by omega) (by omega) (by omega) p4 (by omega) (by omega)) (ev_some ?_)
      simp [bloomV, hs, hk]
    · exact ev_pos (by simp [hk]) (ev_some (by simp [bloomV, hk]))
  · refine ev_neg hs (ev_succ ?_)
    simp only [spec_BloomOf.j0]
    exact ev_pos trivial (ev_some (by simp [bloomV, hs]))
end Go.Proofs.YtpkpjikkfikejaaQ
namespace Go.Proofs.YtpkpjikkfikejaaQ
open Go Go.RowKit Go.Proofs.YtpkpjikkfikejaaW.PrintWords Go.Proofs.YtpkpjikkfikejaaGp Go.Proofs.Ytpkpjikkfikejaa.PA

theorem impl_isSeed_f (a0 : Int) : impl_isSeed.f a0 = some (decide (0 ≤ a0 ∧ a0 ≤ 9999)) := by
  unfold impl_isSeed.f
  rw [impl_in]
  rfl
theorem impl_sizesOk_f (a0 a1 a2 : Int) : impl_sizesOk.f a0 a1 a2 = some (sizesB a0 a1 a2) := by
  unfold impl_sizesOk.f sizesB
  simp only [impl_isSeed_f, impl_in, Option.bind_some]
  by_cases h0 : 0 ≤ a0 ∧ a0 ≤ 9999 <;> by_cases h1 : 1 ≤ a1 ∧ a1 ≤ 8 <;> by_cases h2 : 1 ≤ a2 ∧ a2 ≤ 512 <;> simp [h0, h1, h2]
theorem impl_NewBloom_f (a0 a1 a2 : Int) : impl_NewBloom.f a0 a1 a2 = some (if sizesB a0 a1 a2 = true then (a0, a1, a2, blankV a2, true) else (0, 0, 0, [], false)) := by
  unfold impl_NewBloom.f
  rw [impl_sizesOk_f]
  simp only [Option.bind_some]
  by_cases hs : sizesB a0 a1 a2 = true
  · obtain ⟨_, _, p4, p5⟩ := sizesB_ok hs
    have hw : impl_words.f a2 = some ((a2 + 15) / 16) := by
      unfold impl_words.f
      rw [w64 (x := a2 + 16) (by omega) (by omega), w64 (x := a2 + 16 - 1) (by omega) (by omega), Int.tdiv_eq_ediv_of_nonneg (by omega), w64 (by omega) (by omega), show a2 + 16 - 1 = a2 + 15 from by omega]
    have hb : impl_blank.f a2 = some (a2, blankV a2) := by
      unfold impl_blank.f
      rw [hw]
      simp only [Option.bind_some]
      rw [if_pos (by omega), if_pos (by omega)]
      rfl
    rw [hb, if_pos hs, if_pos hs]
    rfl
  · rw [if_neg hs, if_neg hs]
theorem impl_BloomOf_l0 (x29 : List ByteArray) (a0 a1 n : Int) (hl : (x29.length : Int) ≤ 9223372036854775806) (h0 : 0 ≤ a0) (h0' : a0 ≤ 1000000) (h1 : 0 ≤ a1) (h1' : a1 ≤ 1000000) (hn : 1 ≤ n) (hn' : n ≤ 1000000) : ∀ (t pre : List ByteArray) (l : List Int), x29 = pre ++ t → (∀ s ∈ t, (s.size : Int) ≤ 9223372036854775806) → (n + 15) / 16 ≤ (l.length : Int) →
    Ev (fun k => impl_BloomOf.l0 k x29 (x29.length : Int) (pre.length : Int) a0 a1 n l) (a0, a1, n, addK a0 a1.toNat n l t, true) := by
  intro t
  induction t with
  | nil =>
    intro pre l e hz hb
    refine ev_succ ?_
    simp only [impl_BloomOf.l0]
    exact ev_neg (by rw [e]; exact not_lt_end) (ev_some rfl)
  | cons s t ih =>
    intro pre l e hz hb
    have hm : ((pre.length : Nat) : Int) < (x29.length : Int) := by rw [e]; exact lt_mid
    have hg : rdOf ByteArray.empty x29 (pre.length : Int) = s := by rw [e]; exact rdOf_mid
    refine ev_succ ?_
    simp only [impl_BloomOf.l0, hg]
    refine ev_pos hm (ev_pos (by omega) (ev_pos hm (ev_bind _ (impl_put_f a0 a1 n l s (hz s (by simp)) h0 h0' h1 h1' hn hn' hb) ?_)))
    rw [winc (by omega)]
    have := ih (pre ++ [s]) (addP l (probesL a0 s n a1.toNat 0)) (by rw [e]; simp) (fun s h => hz s (by simp [h])) (by rw [addP_len]; exact hb)
    rw [len_one] at this
    exact this
theorem impl_BloomOf_f (a0 a1 a2 : Int) (l : List ByteArray) (hl : (l.length : Int) ≤ 9223372036854775806) (hz : ∀ s ∈ l, (s.size : Int) ≤ 9223372036854775806) :
    Ev (fun k => impl_BloomOf.f k a0 a1 a2 l) (bloomV a0 a1 a2 l) := by
  unfold impl_BloomOf.f
  rw [impl_NewBloom_f]
  simp only [Option.bind_some]
  by_cases hs : sizesB a0 a1 a2 = true
  · obtain ⟨⟨p0, p1⟩, ⟨p2, p3⟩, p4, p5⟩ := sizesB_ok hs
    have hbl := blankV_len p4
    simp only [if_pos hs]
    refine ev_pos trivial (ev_bind _ (impl_AreKeys_f l hl hz) (ev_succ ?_))
    simp only [impl_BloomOf.j0]
    by_cases hk : areKeysB l = true
    · refine ev_neg (by simp [hk]) ?_
      have := impl_BloomOf_l0 l a0 a1 a2 hl p0 (by omega) (by omega) (by omega) p4 (by omega) l [] (blankV a2) rfl hz (by omega)
      simpa [bloomV, hs, hk] using this
    · exact ev_pos (by simp [hk]) (ev_some (by simp [bloomV, hk]))
  · simp only [if_neg hs]
    refine ev_neg (by simp) (ev_succ ?_)
    simp only [impl_BloomOf.j0]
    exact ev_pos trivial (ev_some (by simp [bloomV, hs]))
end Go.Proofs.YtpkpjikkfikejaaQ
namespace Go.Proofs.YtpkpjikkfikejaaQ
open Go Go.RowKit Go.Proofs.YtpkpjikkfikejaaW.PrintWords Go.Proofs.YtpkpjikkfikejaaGp Go.Proofs.Ytpkpjikkfikejaa.PA

def all16 (l : List Int) : Bool := l.all (fun x => decide (0 ≤ x ∧ x ≤ 65535))
def bitsB (n : Int) (l : List Int) : Bool :=
  decide (0 ≤ n ∧ n ≤ 4096) && (decide ((l.length : Int) = (n + 15) / 16) && (all16 l && (decide (n % 16 = 0) || (shr .i64 (rd l ((l.length : Int) - 1)) (n % 16) == 0))))
theorem bitsB_len {n : Int} {l : List Int} (h : bitsB n l = true) : 0 ≤ n ∧ n ≤ 4096 ∧ (l.length : Int) = (n + 15) / 16 := by
  simp only [bitsB, Bool.and_eq_true, decide_eq_true_eq] at h
  exact ⟨h.1.1, h.1.2, h.2.1⟩
theorem spec_l1All_l0 (x0 : List Int) (hl : (x0.length : Int) ≤ 9223372036854775806) : ∀ (t pre : List Int), x0 = pre ++ t →
    Ev (fun k => spec_l1All.l0 k 0 65535 x0 (x0.length : Int) (pre.length : Int)) (all16 t) := by
  intro t
  induction t with
  | nil =>
    intro pre h
    refine ev_succ ?_
    simp only [spec_l1All.l0]
    exact ev_neg (by rw [h]; exact not_lt_end) (ev_some (by simp [all16]))
  | cons s t ih =>
    intro pre h
    have hm : ((pre.length : Nat) : Int) < (x0.length : Int) := by rw [h]; exact lt_mid
    have hg : rd x0 (pre.length : Int) = s := by rw [h]; exact rd_mid
    refine ev_succ ?_
    simp only [spec_l1All.l0, hg, spec_in]
    refine ev_pos hm (ev_pos (by omega) (ev_pos hm (ev_bind _ (Ev.now _) ?_)))
    by_cases c : 0 ≤ s ∧ s ≤ 65535
    · refine ev_pos (by simpa using c) ?_
      rw [winc (by omega)]
      have := ih (pre ++ [s]) (by rw [h]; simp)
      rw [len_one] at this
      rw [show all16 (s :: t) = all16 t from by simp [all16, c]]
      exact this
    · refine ev_neg (by simpa using c) (ev_some ?_)
      have : decide (0 ≤ s ∧ s ≤ 65535) = false := decide_eq_false c
      simp only [all16, List.all_cons, this, Bool.false_and]
theorem spec_l1All_f (l : List Int) (hl : (l.length : Int) ≤ 9223372036854775806) : Ev (fun k => spec_l1All.f k l 0 65535) (all16 l) := by
  unfold spec_l1All.f
  exact spec_l1All_l0 l hl l [] rfl
theorem words_up {n : Int} (h0 : 0 ≤ n) (h1 : n ≤ 4096) : wrap64 (Int.tdiv (wrap64 (n + 15)) 16) = (n + 15) / 16 := by
  rw [w64 (x := n + 15) (by omega) (by omega), Int.tdiv_eq_ediv_of_nonneg (by omega), w64 (by omega) (by omega)]
theorem spec_biGood_f (n : Int) (l : List Int) (hl : (l.length : Int) ≤ 9223372036854775806) : Ev (fun k => spec_biGood.f k n l) (bitsB n l) := by
  unfold spec_biGood.f
  simp only [spec_in]
  refine ev_bind _ (Ev.now _) ?_
  by_cases c : 0 ≤ n ∧ n ≤ 4096
  · refine ev_pos (by simpa using c) ?_
    rw [words_up c.1 c.2]
    by_cases c2 : (l.length : Int) = (n + 15) / 16
    · refine ev_pos c2 (ev_bind _ (spec_l1All_f l hl) ?_)
      by_cases c3 : all16 l = true
      · refine ev_pos c3 ?_
        rw [Int.tmod_eq_emod_of_nonneg c.1]
        by_cases c4 : n % 16 = 0
        · exact ev_pos c4 (ev_some (by simp [bitsB, c, c2, c3, c4]))
        · refine ev_neg c4 ?_
          rw [w64 (x := (l.length : Int) - 1) (by omega) (by omega)]
          refine ev_pos (by omega) (ev_pos (by omega) (ev_pos (by omega) (ev_some ?_)))
          simp [bitsB, c, c2, c3, c4]
      · exact ev_neg c3 (ev_some (by simp [bitsB, c3]))
    · exact ev_neg c2 (ev_some (by simp [bitsB, c2]))
  · refine ev_neg (by simpa using c) (ev_some ?_)
    have : decide (0 ≤ n ∧ n ≤ 4096) = false := decide_eq_false c
    simp only [bitsB, this, Bool.false_and]
theorem impl_IsBits_l0 (n : Int) (x20 : List Int) (c : 0 ≤ n ∧ n ≤ 4096) (c2 : (x20.length : Int) = (n + 15) / 16) : ∀ (t pre : List Int), x20 = pre ++ t →
    Ev (fun k => impl_IsBits.l0 k x20 (x20.length : Int) (pre.length : Int) n x20) (all16 t && (decide (n % 16 = 0) || (shr .i64 (rd x20 ((x20.length : Int) - 1)) (n % 16) == 0))) := by
  intro t
  induction t with
  | nil =>
    intro pre h
    refine ev_succ ?_
    simp only [impl_IsBits.l0]
    refine ev_neg (by rw [h]; exact not_lt_end) ?_
    rw [Int.tmod_eq_emod_of_nonneg c.1]
    by_cases c4 : n % 16 = 0
    · exact ev_pos c4 (ev_some (by simp [all16, c4]))
    · refine ev_neg c4 ?_
      rw [w64 (x := (x20.length : Int) - 1) (by omega) (by omega)]
      refine ev_pos (by omega) (ev_pos (by omega) (ev_pos (by omega) (ev_some ?_)))
      simp [all16, c4]
  | cons s t ih =>
    intro pre h
    have hm : ((pre.length : Nat) : Int) < (x20.length : Int) := by rw [h]; exact lt_mid
    have hg : rd x20 (pre.length : Int) = s := by rw [h]; exact rd_mid
    refine ev_succ ?_
    simp only [impl_IsBits.l0, hg, impl_in]
    refine ev_pos hm (ev_pos (by omega) (ev_pos hm (ev_bind _ (Ev.now _) ?_)))
    by_cases c5 : 0 ≤ s ∧ s ≤ 65535
    · refine ev_pos (by simpa using c5) ?_
      rw [winc (by omega)]
      have := ih (pre ++ [s]) (by rw [h]; simp)
      rw [len_one] at this
      rw [show all16 (s :: t) = all16 t from by simp [all16, c5]]
      exact this
    · refine ev_neg (by simpa using c5) (ev_some ?_)
      have : decide (0 ≤ s ∧ s ≤ 65535) = false := decide_eq_false c5
      simp only [all16, List.all_cons, this, Bool.false_and]
theorem impl_words_f {n : Int} (h0 : 0 ≤ n) (h1 : n ≤ 4096) : impl_words.f n = some ((n + 15) / 16) := by
  unfold impl_words.f
  rw [w64 (x := n + 16) (by omega) (by omega), w64 (x := n + 16 - 1) (by omega) (by omega), Int.tdiv_eq_ediv_of_nonneg (by omega), w64 (by omega) (by omega), show n + 16 - 1 = n + 15 from by omega]
theorem impl_IsBits_f (n : Int) (l : List Int) : Ev (fun k => impl_IsBits.f k n l) (bitsB n l) := by
  unfold impl_IsBits.f
  simp only [impl_in]
  refine ev_bind _ (Ev.now _) ?_
  by_cases c : 0 ≤ n ∧ n ≤ 4096
  · refine ev_pos (by simpa using c) ?_
    rw [impl_words_f c.1 c.2]
    simp only [Option.bind_some]
    refine ev_succ ?_
    simp only [impl_IsBits.j0]
    by_cases c2 : (l.length : Int) = (n + 15) / 16
    · refine ev_neg (by simp [c2]) ?_
      have := impl_IsBits_l0 n l c c2 l [] rfl
      rw [show bitsB n l = (all16 l && (decide (n % 16 = 0) || (shr .i64 (rd l ((l.length : Int) - 1)) (n % 16) == 0))) from by simp [bitsB, c, c2]]
      exact this
    · exact ev_pos (by simpa using c2) (ev_some (by simp [bitsB, c2]))
  · refine ev_neg (by simpa using c) (ev_succ ?_)
    simp only [impl_IsBits.j0]
    refine ev_pos (by trivial) (ev_some ?_)
    have : decide (0 ≤ n ∧ n ≤ 4096) = false := decide_eq_false c
    simp only [bitsB, this, Bool.false_and]
def isBloomB (a0 a1 a2 : Int) (l : List Int) : Bool := sizesB a0 a1 a2 && bitsB a2 l
theorem isBloomB_ok {a0 a1 a2 : Int} {l : List Int} (h : isBloomB a0 a1 a2 l = true) : (0 ≤ a0 ∧ a0 ≤ 9999) ∧ (1 ≤ a1 ∧ a1 ≤ 8) ∧ (1 ≤ a2 ∧ a2 ≤ 512) ∧ (l.length : Int) = (a2 + 15) / 16 := by
  rw [isBloomB, Bool.and_eq_true] at h
  obtain ⟨x, y, z⟩ := sizesB_ok h.1
  exact ⟨x, y, z, (bitsB_len h.2).2.2⟩
theorem spec_fiGood_f (a0 a1 a2 : Int) (l : List Int) (hl : (l.length : Int) ≤ 9223372036854775806) : Ev (fun k => spec_fiGood.f k a0 a1 a2 l) (isBloomB a0 a1 a2 l) := by
  unfold spec_fiGood.f
  refine ev_bind _ (spec_biGood_f a2 l hl) ?_
  rw [spec_fiSize_f]
  by_cases c : bitsB a2 l = true
  · exact ev_pos c (ev_bind _ (Ev.now _) (ev_some (by simp [isBloomB, c])))
  · exact ev_neg c (ev_some (by simp [isBloomB, c]))
theorem impl_IsBloom_f (a0 a1 a2 : Int) (l : List Int) : Ev (fun k => impl_IsBloom.f k a0 a1 a2 l) (isBloomB a0 a1 a2 l) := by
  unfold impl_IsBloom.f
  rw [impl_sizesOk_f]
  simp only [Option.bind_some]
  by_cases c : sizesB a0 a1 a2 = true
  · exact ev_pos c (ev_bind _ (impl_IsBits_f a2 l) (ev_some (by simp [isBloomB, c])))
  · exact ev_neg c (ev_some (by simp [isBloomB, c]))
end Go.Proofs.YtpkpjikkfikejaaQ
namespace Go.Proofs.YtpkpjikkfikejaaQ
open Go Go.RowKit Go.Proofs.YtpkpjikkfikejaaW.PrintWords Go.Proofs.YtpkpjikkfikejaaGp Go.Proofs.Ytpkpjikkfikejaa.PA

/-! ### one place -/
def atV (l : List Int) (p : Int) : Bool := Go.bits .and .i64 (shr .i64 (rd l (p / 16)) (p % 16)) 1 == 1
theorem div16' {p : Int} (h0 : 0 ≤ p) (h1 : p ≤ 1000000) : wrap64 (Int.tdiv p 16) = p / 16 ∧ Int.tmod p 16 = p % 16 := by
  rw [Int.tdiv_eq_ediv_of_nonneg h0, Int.tmod_eq_emod_of_nonneg h0, w64 (by omega) (by omega)]
  exact ⟨rfl, rfl⟩
theorem spec_biAt_f (n : Int) (l : List Int) {p : Int} (h0 : 0 ≤ p) (h1 : p ≤ 1000000) (h2 : p / 16 < (l.length : Int)) : spec_biAt.f n l p = some (atV l p) := by
  unfold spec_biAt.f
  rw [(div16' h0 h1).1, (div16' h0 h1).2, if_pos (by omega), if_pos h2, if_pos (by omega)]
  rfl
theorem impl_Bits_at_f (n : Int) (l : List Int) {p : Int} (h0 : 0 ≤ p) (h1 : p ≤ 1000000) (h2 : p / 16 < (l.length : Int)) : impl_Bits_at.f n l p = some (atV l p) := by
  unfold impl_Bits_at.f
  rw [(div16' h0 h1).1, (div16' h0 h1).2, if_pos (by omega), if_pos h2, if_pos (by omega)]
  rfl
def saysV (a0 a1 n : Int) (l : List Int) (s : ByteArray) : Bool := (probesL a0 s n a1.toNat 0).all (atV l)
theorem spec_fiHas_l0 (a0 a1 n : Int) (l : List Int) (x20 : List Int) (hl : (x20.length : Int) ≤ 9223372036854775806) : ∀ (t pre : List Int), x20 = pre ++ t → (∀ p ∈ t, 0 ≤ p ∧ p ≤ 1000000 ∧ p / 16 < (l.length : Int)) →
    Ev (fun k => spec_fiHas.l0 k x20 (x20.length : Int) (pre.length : Int) a0 a1 n l) (t.all (atV l)) := by
  intro t
  induction t with
  | nil =>
    intro pre e hp
    refine ev_succ ?_
    simp only [spec_fiHas.l0]
    exact ev_neg (by rw [e]; exact not_lt_end) (ev_some rfl)
  | cons s t ih =>
    intro pre e hp
    have hm : ((pre.length : Nat) : Int) < (x20.length : Int) := by rw [e]; exact lt_mid
    have hg : rd x20 (pre.length : Int) = s := by rw [e]; exact rd_mid
    obtain ⟨p0, p1, p2⟩ := hp s (by simp)
    refine ev_succ ?_
    simp only [spec_fiHas.l0, hg]
    refine ev_pos hm (ev_pos (by omega) (ev_pos hm (ev_bind (atV l s) (by rw [spec_biAt_f n l p0 p1 p2]; exact Ev.now _) ?_)))
    by_cases c : atV l s = true
    · refine ev_pos c ?_
      rw [winc (by omega)]
      have := ih (pre ++ [s]) (by rw [e]; simp) (fun p h => hp p (by simp [h]))
      rw [len_one] at this
      simpa [c] using this
    · exact ev_neg c (ev_some (by simp [c]))
theorem spec_fiHas_f (a0 a1 n : Int) (l : List Int) (s : ByteArray) (hz : (s.size : Int) ≤ 9223372036854775806) (h0 : 0 ≤ a0) (h0' : a0 ≤ 1000000) (h1 : 0 ≤ a1) (h1' : a1 ≤ 1000000)
    (hn : 1 ≤ n) (hn' : n ≤ 1000000) (hl : (n + 15) / 16 ≤ (l.length : Int)) : Ev (fun k => spec_fiHas.f k a0 a1 n l s) (saysV a0 a1 n l s) := by
  unfold spec_fiHas.f
  refine ev_bind _ (spec_fiProbes_f a0 a1 n s hz h0 h0' h1 h1') ?_
  exact spec_fiHas_l0 a0 a1 n l _ (by rw [probesL_len]; omega) _ [] rfl (fun p h => by
    obtain ⟨x, y⟩ := probesL_range a0 s hn hn' _ _ p h
    exact ⟨x, by omega, by omega⟩)
theorem impl_says_l0 (a0 a1 n : Int) (l : List Int) (s : ByteArray) (hz : (s.size : Int) ≤ 9223372036854775806) (h0 : 0 ≤ a0) (h0' : a0 ≤ 1000000) (h1' : a1 ≤ 1000000)
    (hn : 1 ≤ n) (hn' : n ≤ 1000000) (hl : (n + 15) / 16 ≤ (l.length : Int)) : ∀ (m i : Nat), ((i + m : Nat) : Int) = a1 → Ev (fun k => impl_Bloom_says.l0 k s a1 (i : Int) a0 a1 n l) ((probesL a0 s n m i).all (atV l)) := by
  intro m
  induction m with
  | zero =>
    intro i e
    refine ev_succ ?_
    simp only [impl_Bloom_says.l0, probesL]
    exact ev_neg (by omega) (ev_some rfl)
  | succ m ih =>
    intro i e
    obtain ⟨p0, p1⟩ := placeV_range a0 (i : Int) s hn hn'
    refine ev_succ ?_
    simp only [impl_Bloom_says.l0, probesL]
    refine ev_pos (by omega) (ev_bind _ (impl_place_f a0 (i : Int) s n hz h0 h0' (by omega) (by omega)) (ev_bind (atV l (placeV a0 (i : Int) s n)) (by rw [impl_Bits_at_f n l p0 (by omega) (by omega)]; exact Ev.now _) ?_))
    by_cases c : atV l (placeV a0 (i : Int) s n) = true
    · refine ev_pos c ?_
      rw [winc (by omega)]
      have := ih (i + 1) (by omega)
      simpa [c] using this
    · exact ev_neg c (ev_some (by simp [c]))
theorem impl_says_f (a0 a1 n : Int) (l : List Int) (s : ByteArray) (hz : (s.size : Int) ≤ 9223372036854775806) (h0 : 0 ≤ a0) (h0' : a0 ≤ 1000000) (h1 : 0 ≤ a1) (h1' : a1 ≤ 1000000)
    (hn : 1 ≤ n) (hn' : n ≤ 1000000) (hl : (n + 15) / 16 ≤ (l.length : Int)) : Ev (fun k => impl_Bloom_says.f k a0 a1 n l s) (saysV a0 a1 n l s) := by
  unfold impl_Bloom_says.f
  have := impl_says_l0 a0 a1 n l s hz h0 h0' h1' hn hn' hl a1.toNat 0 (by omega)
  exact this
end Go.Proofs.YtpkpjikkfikejaaQ
namespace Go.Proofs.YtpkpjikkfikejaaQ
open Go Go.RowKit Go.Proofs.YtpkpjikkfikejaaW.PrintWords Go.Proofs.YtpkpjikkfikejaaGp Go.Proofs.Ytpkpjikkfikejaa.PA

def hasS (l : List ByteArray) (s : ByteArray) : Bool := l.any fun x => decide (x = s)
theorem hasS_iff {l : List ByteArray} {s : ByteArray} : hasS l s = true ↔ s ∈ l := by simp [hasS]
theorem spec_l1HasS_l0 (x0 : List ByteArray) (s : ByteArray) (hl : (x0.length : Int) ≤ 9223372036854775806) : ∀ (t pre : List ByteArray), x0 = pre ++ t →
    Ev (fun k => spec_l1HasS.l0 k s x0 (x0.length : Int) (pre.length : Int)) (hasS t s) := by
  intro t
  induction t with
  | nil =>
    intro pre h
    refine ev_succ ?_
    simp only [spec_l1HasS.l0]
    exact ev_neg (by rw [h]; exact not_lt_end) (ev_some (by simp [hasS]))
  | cons x t ih =>
    intro pre h
    have hm : ((pre.length : Nat) : Int) < (x0.length : Int) := by rw [h]; exact lt_mid
    have hg : rdOf ByteArray.empty x0 (pre.length : Int) = x := by rw [h]; exact rdOf_mid
    refine ev_succ ?_
    simp only [spec_l1HasS.l0, hg, tl_inj]
    refine ev_pos hm (ev_pos (by omega) (ev_pos hm ?_))
    by_cases c : x = s
    · exact ev_pos c (ev_some (by simp [hasS, c]))
    · refine ev_neg c ?_
      rw [winc (by omega)]
      have := ih (pre ++ [x]) (by rw [h]; simp)
      rw [len_one] at this
      have e : hasS (x :: t) s = hasS t s := by simp [hasS, c]
      rw [e]
      exact this
theorem spec_l1HasS_f (l : List ByteArray) (s : ByteArray) (hl : (l.length : Int) ≤ 9223372036854775806) : Ev (fun k => spec_l1HasS.f k l s) (hasS l s) := by
  unfold spec_l1HasS.f
  exact spec_l1HasS_l0 l s hl l [] rfl
/-- The first place of a string, counted from one on; -1 without it. -/
def idxS : List ByteArray → ByteArray → Nat → Int
  | [], _, _ => -1
  | x :: t, s, i => if x = s then (i : Int) else idxS t s (i + 1)
theorem idxS_mem : ∀ (l : List ByteArray) (s : ByteArray) (i : Nat), 0 ≤ idxS l s i ↔ s ∈ l
  | [], s, i => by simp [idxS]
  | x :: t, s, i => by
    simp only [idxS]
    split
    · rename_i c; simp [c]
    · rename_i c; rw [idxS_mem t s (i + 1)]; simp [Ne.symm c]
theorem slices_Index_string_string_l0 (x0 : List ByteArray) (s : ByteArray) (hl : (x0.length : Int) ≤ 9223372036854775806) : ∀ (t pre : List ByteArray), x0 = pre ++ t →
    Ev (fun k => slices_Index_string_string.l0 k x0 s (x0.length : Int) (pre.length : Int)) (idxS t s pre.length) := by
  intro t
  induction t with
  | nil =>
    intro pre h
    refine ev_succ ?_
    simp only [slices_Index_string_string.l0]
    exact ev_neg (by rw [h]; exact not_lt_end) (ev_some (by simp [idxS]))
  | cons x t ih =>
    intro pre h
    have hm : ((pre.length : Nat) : Int) < (x0.length : Int) := by rw [h]; exact lt_mid
    have hg : rdOf ByteArray.empty x0 (pre.length : Int) = x := by rw [h]; exact rdOf_mid
    refine ev_succ ?_
    simp only [slices_Index_string_string.l0, hg, tl_inj]
    refine ev_pos hm (ev_pos (by omega) (ev_pos hm ?_))
    by_cases c : s = x
    · exact ev_pos c (ev_some (by simp [idxS, c]))
    · refine ev_neg c ?_
      rw [winc (by omega)]
      have := ih (pre ++ [x]) (by rw [h]; simp)
      rw [len_one] at this
      have e : idxS (x :: t) s pre.length = idxS t s (pre ++ [x]).length := by simp [idxS, Ne.symm c]
      rw [e]
      exact this
theorem slices_Index_string_string_f (l : List ByteArray) (s : ByteArray) (hl : (l.length : Int) ≤ 9223372036854775806) : Ev (fun k => slices_Index_string_string.f k l s) (idxS l s 0) := by
  unfold slices_Index_string_string.f
  exact slices_Index_string_string_l0 l s hl l [] rfl
theorem slices_Contains_string_string_f (l : List ByteArray) (s : ByteArray) (hl : (l.length : Int) ≤ 9223372036854775806) : Ev (fun k => slices_Contains_string_string.f k l s) (hasS l s) := by
  unfold slices_Contains_string_string.f
  refine ev_bind _ (slices_Index_string_string_f l s hl) (ev_some ?_)
  rw [Bool.eq_iff_iff, hasS_iff, decide_eq_true_eq]
  exact idxS_mem l s 0
end Go.Proofs.YtpkpjikkfikejaaQ
namespace Go.Proofs.YtpkpjikkfikejaaQ
open Go Go.RowKit Go.Proofs.YtpkpjikkfikejaaW.PrintWords Go.Proofs.YtpkpjikkfikejaaGp Go.Proofs.Ytpkpjikkfikejaa.PA

/-! ### texts -/
def textsB (l : List ByteArray) : Bool := l.all isKeyB && decide ((l.length : Int) ≤ 300)
theorem textsB_len {l : List ByteArray} (h : textsB l = true) : l.length ≤ 300 := by
  simp only [textsB, Bool.and_eq_true, decide_eq_true_eq] at h
  omega
theorem spec_fiKeys_l0 (x0 : List ByteArray) (hl : (x0.length : Int) ≤ 9223372036854775806) : ∀ (t pre : List ByteArray), x0 = pre ++ t → (∀ s ∈ t, (s.size : Int) ≤ 9223372036854775806) →
    Ev (fun k => spec_fiKeys.l0 k x0 x0 (x0.length : Int) (pre.length : Int)) (t.all isKeyB && decide ((x0.length : Int) ≤ 300)) := by
  intro t
  induction t with
  | nil =>
    intro pre h hs
    refine ev_succ ?_
    simp only [spec_fiKeys.l0]
    exact ev_neg (by rw [h]; exact not_lt_end) (ev_some (by simp))
  | cons x t ih =>
    intro pre h hs
    have hm : ((pre.length : Nat) : Int) < (x0.length : Int) := by rw [h]; exact lt_mid
    have hg : rdOf ByteArray.empty x0 (pre.length : Int) = x := by rw [h]; exact rdOf_mid
    refine ev_succ ?_
    simp only [spec_fiKeys.l0, hg]
    refine ev_pos hm (ev_pos (by omega) (ev_pos hm (ev_bind _ (spec_IsKey_f x (hs x (by simp))) ?_)))
    by_cases c : isKeyB x = true
    · refine ev_pos c ?_
      rw [winc (by omega)]
      have := ih (pre ++ [x]) (by rw [h]; simp) (fun s h => hs s (by simp [h]))
      rw [len_one] at this
      simpa [c] using this
    · exact ev_neg c (ev_some (by simp [c]))
theorem spec_fiKeys_f (l : List ByteArray) (hl : (l.length : Int) ≤ 9223372036854775806) (hs : ∀ s ∈ l, (s.size : Int) ≤ 9223372036854775806) : Ev (fun k => spec_fiKeys.f k l) (textsB l) := by
  unfold spec_fiKeys.f
  exact spec_fiKeys_l0 l hl l [] rfl hs
theorem impl_areTexts_1_f (s : ByteArray) (hz : (s.size : Int) ≤ 9223372036854775806) : Ev (fun k => impl_areTexts_1.f k s) (!isKeyB s) := by
  unfold impl_areTexts_1.f
  exact ev_bind _ (impl_IsKey_f s hz) (Ev.now _)
theorem IndexFunc_areTexts_l0 (x0 : List ByteArray) (hl : (x0.length : Int) ≤ 9223372036854775806) : ∀ (t pre : List ByteArray), x0 = pre ++ t → (∀ s ∈ t, (s.size : Int) ≤ 9223372036854775806) →
    ∃ r : Int, Ev (fun k => slices_IndexFunc_string_string_at_impl_areTexts_1.l0 k x0 (x0.length : Int) (pre.length : Int)) r ∧ decide (r ≥ 0) = !(t.all isKeyB) := by
  intro t
  induction t with
  | nil =>
    intro pre h hs
    refine ⟨-1, ev_succ ?_, by simp⟩
    simp only [slices_IndexFunc_string_string_at_impl_areTexts_1.l0]
    exact ev_neg (by rw [h]; exact not_lt_end) (ev_some rfl)
  | cons x t ih =>
    intro pre h hs
    have hm : ((pre.length : Nat) : Int) < (x0.length : Int) := by rw [h]; exact lt_mid
    have hg : rdOf ByteArray.empty x0 (pre.length : Int) = x := by rw [h]; exact rdOf_mid
    by_cases c : isKeyB x = true
    · obtain ⟨r, h1, h2⟩ := ih (pre ++ [x]) (by rw [h]; simp) (fun s h => hs s (by simp [h]))
      refine ⟨r, ev_succ ?_, by simpa [c] using h2⟩
      simp only [slices_IndexFunc_string_string_at_impl_areTexts_1.l0, hg]
      refine ev_pos hm (ev_pos (by omega) (ev_pos hm (ev_bind _ (impl_areTexts_1_f x (hs x (by simp))) (ev_neg (by simp [c]) ?_))))
      rw [winc (by omega)]
      rw [len_one] at h1
      exact h1
    · refine ⟨(pre.length : Int), ev_succ ?_, by simp [c]⟩
      simp only [slices_IndexFunc_string_string_at_impl_areTexts_1.l0, hg]
      exact ev_pos hm (ev_pos (by omega) (ev_pos hm (ev_bind _ (impl_areTexts_1_f x (hs x (by simp))) (ev_pos (by simp [c]) (Ev.now _)))))
theorem impl_areTexts_f (l : List ByteArray) (hs : ∀ s ∈ l, (s.size : Int) ≤ 9223372036854775806) : Ev (fun k => impl_areTexts.f k l) (textsB l) := by
  unfold impl_areTexts.f
  by_cases c : (l.length : Int) ≤ 300
  · obtain ⟨r, h1, h2⟩ := IndexFunc_areTexts_l0 l (by omega) l [] rfl hs
    refine ev_pos c (ev_bind (!(l.all isKeyB)) ?_ (ev_some (by simp [textsB, c])))
    unfold slices_ContainsFunc_string_string_at_impl_areTexts_1.f slices_IndexFunc_string_string_at_impl_areTexts_1.f
    exact ev_bind _ h1 (ev_some h2)
  · exact ev_neg c (ev_some (by simp [textsB, c]))

/-! ### false answers -/
/-- The places, from i on, of those texts that are no keys and yet are answered by yes. -/
def wrongL (f : ByteArray → Bool) (ks : List ByteArray) : List ByteArray → Nat → List Int
  | [], _ => []
  | s :: t, i => if hasS ks s = true then wrongL f ks t (i + 1) else if f s = true then (i : Int) :: wrongL f ks t (i + 1) else wrongL f ks t (i + 1)
theorem wrongL_len (f : ByteArray → Bool) (ks : List ByteArray) : ∀ t i, (wrongL f ks t i).length ≤ t.length
  | [], _ => by simp [wrongL]
  | s :: t, i => by
    have := wrongL_len f ks t (i + 1)
    simp only [wrongL]
    split
    · simp; omega
    · split <;> simp <;> omega
end Go.Proofs.YtpkpjikkfikejaaQ
namespace Go.Proofs.YtpkpjikkfikejaaQ
open Go Go.RowKit Go.Proofs.YtpkpjikkfikejaaW.PrintWords Go.Proofs.YtpkpjikkfikejaaGp Go.Proofs.Ytpkpjikkfikejaa.PA

theorem spec_fiFalse_l0 (a0 a1 n : Int) (l : List Int) (ks : List ByteArray) (hk : (ks.length : Int) ≤ 9223372036854775806) (h0 : 0 ≤ a0) (h0' : a0 ≤ 1000000) (h1 : 0 ≤ a1) (h1' : a1 ≤ 1000000)
    (hn : 1 ≤ n) (hn' : n ≤ 1000000) (hl : (n + 15) / 16 ≤ (l.length : Int)) (x0 : List ByteArray) (hx : x0.length ≤ 300) : ∀ (t pre : List ByteArray) (acc : List Int), x0 = pre ++ t → (∀ s ∈ t, (s.size : Int) ≤ 9223372036854775806) → acc.length ≤ pre.length →
    Ev (fun k => spec_fiFalse.l0 k ks acc x0 (x0.length : Int) (pre.length : Int) a0 a1 n l) (acc ++ wrongL (saysV a0 a1 n l) ks t pre.length) := by
  intro t
  induction t with
  | nil =>
    intro pre acc h hs ha
    refine ev_succ ?_
    simp only [spec_fiFalse.l0]
    exact ev_neg (by rw [h]; exact not_lt_end) (ev_some (by simp [wrongL]))
  | cons x t ih =>
    intro pre acc h hs ha
    have hm : ((pre.length : Nat) : Int) < (x0.length : Int) := by rw [h]; exact lt_mid
    have hg : rdOf ByteArray.empty x0 (pre.length : Int) = x := by rw [h]; exact rdOf_mid
    have e : wrongL (saysV a0 a1 n l) ks (x :: t) pre.length = if hasS ks x = true then wrongL (saysV a0 a1 n l) ks t (pre ++ [x]).length else if saysV a0 a1 n l x = true then (pre.length : Int) :: wrongL (saysV a0 a1 n l) ks t (pre ++ [x]).length else wrongL (saysV a0 a1 n l) ks t (pre ++ [x]).length := by simp [wrongL]
    have hI := fun acc ha => ih (pre ++ [x]) acc (by rw [h]; simp) (fun s h => hs s (by simp [h])) ha
    rw [e]
    refine ev_succ ?_
    simp only [spec_fiFalse.l0, hg]
    refine ev_pos hm (ev_pos (by omega) (ev_pos hm (ev_bind _ (spec_l1HasS_f ks x hk) ?_)))
    rw [winc (by omega), ← len_one]
    by_cases c : hasS ks x = true
    · rw [if_pos c]
      exact ev_pos c (hI acc (by simp; omega))
    · rw [if_neg c]
      refine ev_neg c (ev_bind _ (spec_fiHas_f a0 a1 n l x (hs x (by simp)) h0 h0' h1 h1' hn hn' hl) ?_)
      by_cases c2 : saysV a0 a1 n l x = true
      · rw [if_pos c2]
        refine ev_pos c2 (ev_pos (by omega) ?_)
        have := hI (acc ++ [(pre.length : Int)]) (by simp; omega)
        rw [List.append_assoc] at this
        exact this
      · rw [if_neg c2]
        exact ev_neg c2 (hI acc (by simp; omega))
theorem spec_fiFalse_f (a0 a1 n : Int) (l : List Int) (ks ts : List ByteArray) (hk : (ks.length : Int) ≤ 9223372036854775806) (h0 : 0 ≤ a0) (h0' : a0 ≤ 1000000) (h1 : 0 ≤ a1) (h1' : a1 ≤ 1000000)
    (hn : 1 ≤ n) (hn' : n ≤ 1000000) (hl : (n + 15) / 16 ≤ (l.length : Int)) (hx : ts.length ≤ 300) (hs : ∀ s ∈ ts, (s.size : Int) ≤ 9223372036854775806) :
    Ev (fun k => spec_fiFalse.f k a0 a1 n l ks ts) (wrongL (saysV a0 a1 n l) ks ts 0) := by
  unfold spec_fiFalse.f
  exact spec_fiFalse_l0 a0 a1 n l ks hk h0 h0' h1 h1' hn hn' hl ts hx ts [] [] rfl hs (by simp)
theorem impl_wrong_l0 (a0 a1 n : Int) (l : List Int) (ks : List ByteArray) (hk : (ks.length : Int) ≤ 9223372036854775806) (h0 : 0 ≤ a0) (h0' : a0 ≤ 1000000) (h1 : 0 ≤ a1) (h1' : a1 ≤ 1000000)
    (hn : 1 ≤ n) (hn' : n ≤ 1000000) (hl : (n + 15) / 16 ≤ (l.length : Int)) (x0 : List ByteArray) (hx : x0.length ≤ 300) : ∀ (t pre : List ByteArray) (acc : List Int), x0 = pre ++ t → (∀ s ∈ t, (s.size : Int) ≤ 9223372036854775806) → acc.length ≤ pre.length →
    Ev (fun k => impl_wrong_at_impl_Bloom_says.l0 k ks acc x0 (x0.length : Int) (pre.length : Int) a0 a1 n l) (acc ++ wrongL (saysV a0 a1 n l) ks t pre.length) := by
  intro t
  induction t with
  | nil =>
    intro pre acc h hs ha
    refine ev_succ ?_
    simp only [impl_wrong_at_impl_Bloom_says.l0]
    exact ev_neg (by rw [h]; exact not_lt_end) (ev_some (by simp [wrongL]))
  | cons x t ih =>
    intro pre acc h hs ha
    have hm : ((pre.length : Nat) : Int) < (x0.length : Int) := by rw [h]; exact lt_mid
    have hg : rdOf ByteArray.empty x0 (pre.length : Int) = x := by rw [h]; exact rdOf_mid
    have e : wrongL (saysV a0 a1 n l) ks (x :: t) pre.length = if hasS ks x = true then wrongL (saysV a0 a1 n l) ks t (pre ++ [x]).length else if saysV a0 a1 n l x = true then (pre.length : Int) :: wrongL (saysV a0 a1 n l) ks t (pre ++ [x]).length else wrongL (saysV a0 a1 n l) ks t (pre ++ [x]).length := by simp [wrongL]
    have hI := fun acc ha => ih (pre ++ [x]) acc (by rw [h]; simp) (fun s h => hs s (by simp [h])) ha
    rw [e]
    refine ev_succ ?_
    simp only [impl_wrong_at_impl_Bloom_says.l0, hg]
    refine ev_pos hm (ev_pos (by omega) (ev_pos hm (ev_bind _ (slices_Contains_string_string_f ks x hk) ?_)))
    rw [winc (by omega), ← len_one]
    by_cases c : hasS ks x = true
    · rw [if_pos c]
      exact ev_pos c (hI acc (by simp; omega))
    · rw [if_neg c]
      refine ev_neg c (ev_bind _ (impl_says_f a0 a1 n l x (hs x (by simp)) h0 h0' h1 h1' hn hn' hl) ?_)
      by_cases c2 : saysV a0 a1 n l x = true
      · rw [if_pos c2]
        refine ev_pos c2 (ev_pos (by omega) ?_)
        have := hI (acc ++ [(pre.length : Int)]) (by simp; omega)
        rw [List.append_assoc] at this
        exact this
      · rw [if_neg c2]
        exact ev_neg c2 (hI acc (by simp; omega))
theorem impl_wrong_f (a0 a1 n : Int) (l : List Int) (ks ts : List ByteArray) (hk : (ks.length : Int) ≤ 9223372036854775806) (h0 : 0 ≤ a0) (h0' : a0 ≤ 1000000) (h1 : 0 ≤ a1) (h1' : a1 ≤ 1000000)
    (hn : 1 ≤ n) (hn' : n ≤ 1000000) (hl : (n + 15) / 16 ≤ (l.length : Int)) (hx : ts.length ≤ 300) (hs : ∀ s ∈ ts, (s.size : Int) ≤ 9223372036854775806) :
    Ev (fun k => impl_wrong_at_impl_Bloom_says.f k ks ts a0 a1 n l) (wrongL (saysV a0 a1 n l) ks ts 0) := by
  unfold impl_wrong_at_impl_Bloom_says.f
  exact impl_wrong_l0 a0 a1 n l ks hk h0 h0' h1 h1' hn hn' hl ts hx ts [] [] rfl hs (by simp)
end Go.Proofs.YtpkpjikkfikejaaQ
namespace Go.Proofs.YtpkpjikkfikejaaQ
open Go Go.RowKit Go.Proofs.YtpkpjikkfikejaaW.PrintWords Go.Proofs.YtpkpjikkfikejaaGp Go.Proofs.Ytpkpjikkfikejaa.PA

def falseV (a0 a1 a2 : Int) (l : List Int) (ks ts : List ByteArray) : List Int × Bool :=
  if (isBloomB a0 a1 a2 l && (areKeysB ks && textsB ts)) = true then (wrongL (saysV a0 a1 a2 l) ks ts 0, true) else ([], false)
theorem falseV_len (a0 a1 a2 : Int) (l : List Int) (ks ts : List ByteArray) : (falseV a0 a1 a2 l ks ts).1.length ≤ 300 := by
  unfold falseV
  split
  · rename_i h
    rw [Bool.and_eq_true, Bool.and_eq_true] at h
    have := textsB_len h.2.2
    have := wrongL_len (saysV a0 a1 a2 l) ks ts 0
    simp only
    omega
  · simp
section
variable (a0 a1 a2 : Int) (l : List Int) (ks ts : List ByteArray) (hk : (ks.length : Int) ≤ 9223372036854775806) (hks : ∀ s ∈ ks, (s.size : Int) ≤ 9223372036854775806) (hts : ∀ s ∈ ts, (s.size : Int) ≤ 9223372036854775806)
include hk hks hts
theorem spec_FalseAnswers_f (hl : (l.length : Int) ≤ 9223372036854775806) (ht : (ts.length : Int) ≤ 9223372036854775806) : Ev (fun k => spec_FalseAnswers.f k a0 a1 a2 l ks ts) (falseV a0 a1 a2 l ks ts) := by
  unfold spec_FalseAnswers.f
  refine ev_bind _ (spec_fiGood_f a0 a1 a2 l hl) ?_
  by_cases c : isBloomB a0 a1 a2 l = true
  · obtain ⟨⟨p0, p1⟩, ⟨p2, p3⟩, ⟨p4, p5⟩, p6⟩ := isBloomB_ok c
    refine ev_pos c (ev_bind _ (spec_biKeys_f ks hk hks) ?_)
    by_cases c2 : areKeysB ks = true
    · refine ev_pos c2 (ev_bind _ (spec_fiKeys_f ts ht hts) ?_)
      by_cases c3 : textsB ts = true
      · exact ev_pos c3 (ev_bind _ (spec_fiFalse_f a0 a1 a2 l ks ts hk p0 (by omega) (by omega) (by omega) p4 (by omega) (by omega) (textsB_len c3) hts) (ev_some (by simp [falseV, c, c2, c3])))
      · exact ev_neg c3 (ev_some (by simp [falseV, c3]))
    · exact ev_neg c2 (ev_some (by simp [falseV, c2]))
  · exact ev_neg c (ev_some (by simp [falseV, c]))
theorem impl_FalseAnswers_f : Ev (fun k => impl_FalseAnswers.f k a0 a1 a2 l ks ts) (falseV a0 a1 a2 l ks ts) := by
  unfold impl_FalseAnswers.f
  refine ev_bind _ (impl_IsBloom_f a0 a1 a2 l) ?_
  by_cases c : isBloomB a0 a1 a2 l = true
  · obtain ⟨⟨p0, p1⟩, ⟨p2, p3⟩, ⟨p4, p5⟩, p6⟩ := isBloomB_ok c
    refine ev_pos c (ev_bind _ (impl_AreKeys_f ks hk hks) ?_)
    by_cases c2 : areKeysB ks = true
    · refine ev_pos c2 (ev_bind _ (impl_areTexts_f ts hts) ?_)
      by_cases c3 : textsB ts = true
      · exact ev_pos c3 (ev_bind _ (impl_wrong_f a0 a1 a2 l ks ts hk p0 (by omega) (by omega) (by omega) p4 (by omega) (by omega) (textsB_len c3) hts) (ev_some (by simp [falseV, c, c2, c3])))
      · exact ev_neg c3 (ev_some (by simp [falseV, c3]))
    · exact ev_neg c2 (ev_some (by simp [falseV, c2]))
  · exact ev_neg c (ev_some (by simp [falseV, c]))
end
end Go.Proofs.YtpkpjikkfikejaaQ
namespace Go.Proofs.Ytpkpjikkfikejaa.Pure
open Go Go.RowKit Go.Proofs.YtpkpjikkfikejaaW.PrintWords Go.Proofs.YtpkpjikkfikejaaGp Go.Proofs.Ytpkpjikkfikejaa.PA Go.Proofs.YtpkpjikkfikejaaQ

theorem FnExactFalseAnswers : laws_FnExactFalseAnswers.Pure := by
  intro a0 a1 a2 l ks ts ha0 ha1 ha2 hl hw hkl hks htl hts
  have := maxLen_eq
  refine Ev.rounds (r := true) ?_
  unfold laws_FnExactFalseAnswers.f
  rw [szBloom_f a0 a1 a2 l 1048576 hl (by omega) (by omega)]
  simp only [Option.bind_some]
  by_cases c0 : leftI 1048576 l < 0
  · exact ev_pos c0 (Ev.now _)
  obtain ⟨e0, hz0⟩ := leftI_ok c0
  refine ev_neg c0 (ev_bind _ (szStringS_f ks _ hkl hks (by omega) (by omega)) ?_)
  by_cases c : left1 (leftI 1048576 l) ks < 0
  · exact ev_pos c (Ev.now _)
  obtain ⟨e1, hz⟩ := left1_ok c
  have hp := sumSz_nonneg ks
  refine ev_neg c (ev_bind _ (szStringS_f ts _ htl hts (by omega) (by omega)) ?_)
  by_cases c2 : left1 (left1 (leftI 1048576 l) ks) ts < 0
  · exact ev_pos c2 (Ev.now _)
  obtain ⟨_, hz2⟩ := left1_ok c2
  have hp2 := sumSz_nonneg ts
  have hs1 : ∀ s ∈ ks, (s.size : Int) ≤ 9223372036854775806 := fun s h => by have := size_le_sumSz h; omega
  have hs2 : ∀ s ∈ ts, (s.size : Int) ≤ 9223372036854775806 := fun s h => by have := size_le_sumSz h; omega
  have hT0 := toBloom_f a0 a1 a2 l hz0
  have hT1 := toStringS_f ks (by omega)
  have hT2 := toStringS_f ts (by omega)
  have hS := spec_FalseAnswers_f a0 a1 a2 l ks ts (by omega) hs1 hs2 (by omega) (by omega)
  have hI := impl_FalseAnswers_f a0 a1 a2 l ks ts (by omega) hs1 hs2
  have hn := falseV_len a0 a1 a2 l ks ts
  refine ev_neg c2 (ev_bind _ hT0 (ev_bind _ hT1 (ev_bind _ hT2 (ev_bind _ hS (ev_bind _ hT0 (ev_bind _ hT1 (ev_bind _ hT2 (ev_bind _ hI ?_))))))))
  generalize falseV a0 a1 a2 l ks ts = R at *
  obtain ⟨g, ok⟩ := R
  simp only at hn
  have hE : Ev (fun k => laws_eqIntS.f k g g) true := by simpa using eqIntS_f g g (by omega)
  refine ev_bind _ hE (ev_pos rfl (ev_succ ?_))
  simp only [laws_FnExactFalseAnswers.j0, bne_self_eq_false, Bool.false_eq_true, if_false]
  refine ev_bind _ hT0 (ev_bind _ (eqBloom_same a0 a1 a2 l (by omega)) (ev_pos rfl (ev_bind _ hT1 (ev_bind true (by simpa using eqStringS_f ks ks (by omega)) (ev_pos rfl (ev_bind _ hT2 (ev_bind true (by simpa using eqStringS_f ts ts (by omega)) (ev_pos rfl ?_))))))))
  refine ev_bind _ (markBloom_f a0 a1 a2 l 1 (by omega) (by omega)) (ev_bind _ (markStringS_f ks _ (by omega) (by omega)) (ev_bind _ (markStringS_f ts _ (by omega) (by omega)) (ev_neg (by simp only; omega) (ev_bind _ hE (ev_pos rfl (ev_succ ?_))))))
  simp only [laws_FnExactFalseAnswers.j1, Bool.false_eq_true, if_false]
  refine ev_bind _ (markIntS_f g 1 (by omega) (by omega)) (ev_bind _ (heldIntS_f g.length 1 (by omega) (by omega)) (ev_neg (by omega) (ev_pos rfl (ev_bind _ hT0 (ev_bind _ hT1 (ev_bind _ hT2 (ev_bind _ hI (ev_bind _ hE (ev_pos rfl (ev_succ ?_))))))))))
  simp only [laws_FnExactFalseAnswers.j2, bne_self_eq_false, Bool.false_eq_true, if_false]
  exact ev_bind _ (heldIntS_f g.length 1 (by omega) (by omega)) (ev_neg (by omega) (ev_pos rfl (Ev.now _)))
end Go.Proofs.Ytpkpjikkfikejaa.Pure
