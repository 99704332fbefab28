import Derived.Test.YtephjmmkggcmeaaCV1
import Derived.Test.YtephjmmkggcmeaaCV2
import Derived.Test.YtephjmmkggcmeaaCV3
-- printed by a program of this session (wip/gp) out of the translation; Lean checks it
namespace Go.Proofs.Ytephjmmkggcmeaa.PG
open Go.RowKit Go.Proofs.YtephjmmkggcmeaaW.PrintWords Go.Proofs.YtephjmmkggcmeaaW.PrintLast Go.Proofs.YtephjmmkggcmeaaW.PrintMore Go.Proofs.YtephjmmkggcmeaaSq
attribute [local go_sem] max2_int min2_int max_two min_two max_three min_three max_four min_four   -- for this text's walks alone
attribute [local go_sem] Go.Proofs.YtephjmmkggcmeaaGp.str_geq Go.Proofs.YtephjmmkggcmeaaGp.str_gtr Go.Proofs.YtephjmmkggcmeaaGp.str_leq
set_option linter.unusedVariables false
set_option linter.unusedSimpArgs false

set_option maxHeartbeats 8000000
set_option maxRecDepth 100000
mutual
def spec_l1Cur_cuckoo.j0 : Nat → List Int → Int → Int → Int → List ByteArray → List ByteArray → Option (Int × List ByteArray × List ByteArray × Int × Int)
 | 0, _, _, _, _, _, _ => none
 | k + 1, x1000, x1001, x1002, x294000, x294001, x294002 => (spec_l1Cur_one.f x1000 x1001 x1002 12).bind fun bt300 => (if bt300.1 = true then ((spec_l1Cur_text.f k x1000 bt300.2.1 bt300.2.2).bind fun bt303 => (if x294002.length < 8796093022208 then (spec_l1Cur_cuckoo.j1 k x1000 bt303.2.1 bt303.2.2 x294000 x294001 (x294002 ++ [bt303.1])) else (none))) else (spec_l1Cur_cuckoo.j1 k x1000 bt300.2.1 bt300.2.2 x294000 x294001 x294002))
def spec_l1Cur_cuckoo.j1 : Nat → List Int → Int → Int → Int → List ByteArray → List ByteArray → Option (Int × List ByteArray × List ByteArray × Int × Int)
 | 0, _, _, _, _, _, _ => none
 | k + 1, x1000, x1001, x1002, x294000, x294001, x294002 => (spec_l1Cur_one.f x1000 x1001 x1002 12).bind fun bt309 => (if bt309.1 = true then ((spec_l1Cur_pick.f x1000 bt309.2.1 bt309.2.2 (x294001.length : Int)).bind fun bt312 => ((spec_l1Cur_text.f k x1000 bt312.2.1 bt312.2.2).bind fun bt315 => (if 0 ≤ bt312.1 then (if bt312.1 < (x294001.length : Int) then (spec_l1Cur_cuckoo.j2 k x1000 bt315.2.1 bt315.2.2 x294000 (x294001.set (bt312.1 : Int).toNat bt315.1) x294002) else (none)) else (none)))) else (spec_l1Cur_cuckoo.j2 k x1000 bt309.2.1 bt309.2.2 x294000 x294001 x294002))
def spec_l1Cur_cuckoo.j2 : Nat → List Int → Int → Int → Int → List ByteArray → List ByteArray → Option (Int × List ByteArray × List ByteArray × Int × Int)
 | 0, _, _, _, _, _, _ => none
 | k + 1, x1000, x1001, x1002, x294000, x294001, x294002 => (spec_l1Cur_one.f x1000 x1001 x1002 30).bind fun bt319 => (if bt319.1 = true then ((spec_l1Cur_seed9.f x1000 bt319.2.1 bt319.2.2).bind fun bt322 => (some (bt322.1, x294001, x294002, bt322.2.1, bt322.2.2))) else (some (x294000, x294001, x294002, bt319.2.1, bt319.2.2)))
end
def spec_l1Cur_cuckoo.f (k : Nat) (s0_0 : List Int) (s0_1 : Int) (s0_2 : Int) : Option (Int × List ByteArray × List ByteArray × Int × Int) := (spec_l1Cur_pick.f s0_0 s0_1 s0_2 20).bind fun bt265 => ((spec_l1Cur_among.f s0_0 bt265.2.1 bt265.2.2 (([4, 8, 12] : List Int))).bind fun bt271 => ((spec_l1Cur_keys.f k s0_0 bt271.2.1 bt271.2.2 bt271.1).bind fun bt274 => ((spec_l1Cur_pick.f s0_0 bt274.2.1 bt274.2.2 (wrap64 ((bt274.1.length : Int) + 6))).bind fun bt279 => ((spec_l1Cur_pick.f s0_0 bt279.2.1 bt279.2.2 12).bind fun bt282 => ((spec_cuOf.f k bt265.1 bt274.1 (wrap64 (1 + bt279.1)) bt282.1).bind fun bt285 => (if bt285.2.2.2 = true then (spec_l1Cur_cuckoo.j0 k s0_0 bt282.2.1 bt282.2.2 bt285.1 bt285.2.1 bt285.2.2.1) else ((spec_l1Cur_pick.f s0_0 bt282.2.1 bt282.2.2 9).bind fun bt294 => (if 0 ≤ (wrap64 (1 + bt294.1)) then (if (wrap64 (1 + bt294.1) : Int).toNat ≤ 17592186044416 then (spec_l1Cur_cuckoo.j0 k s0_0 bt294.2.1 bt294.2.2 bt265.1 (List.replicate (wrap64 (1 + bt294.1) : Int).toNat (⟨#[]⟩ : ByteArray)) ([] : List ByteArray)) else (none)) else (none)))))))))
def spec_l1Cur_cuckoo.T7 : Bool × List (List Nat × List Nat) := (true, [([], []), ([0], [0]), ([], []), ([2], [2]), ([3], [3]), ([1, 4, 3], [1, 4]), ([0, 1, 2, 3, 4, 5], []), ([6, 5, 5, 0, 1, 2, 3, 4, 5], [5, 6])])
def spec_l1Cur_cuckoo.B7 : List Nat := [0, 1, 0, 4, 12, 31, 63, 127]
theorem spec_l1Cur_cuckoo.tab7 : rtab .any (opsOf Try.f95 7) = spec_l1Cur_cuckoo.T7 := by kernel_rfl
theorem spec_l1Cur_cuckoo.bits7 : waitsOk spec_l1Cur_cuckoo.T7.2 spec_l1Cur_cuckoo.B7 = true := by kernel_rfl
def spec_l1Cur_cuckoo.T9 : Bool × List (List Nat × List Nat) := (true, [([], []), ([0], [0]), ([], []), ([], []), ([3], [3]), ([4], [4]), ([2, 5], [2, 5]), ([], []), ([7, 6], [7]), ([1, 6, 0, 1, 2, 3, 4, 5, 6, 7, 8], [1, 6]), ([9, 8, 8, 0, 1, 2, 3, 4, 5, 6, 7, 8], [8, 9])])
def spec_l1Cur_cuckoo.B9 : List Nat := [0, 1, 0, 0, 8, 24, 60, 0, 252, 511, 1023]
theorem spec_l1Cur_cuckoo.tab9 : rtab .any (opsOf Try.f95 9) = spec_l1Cur_cuckoo.T9 := by kernel_rfl
theorem spec_l1Cur_cuckoo.bits9 : waitsOk spec_l1Cur_cuckoo.T9.2 spec_l1Cur_cuckoo.B9 = true := by kernel_rfl
theorem spec_l1Cur_cuckoo.calls (k : Nat) (g : Nat) (s0_0 : List Int) (s0_1 : Int) (s0_2 : Int) (r1 : Int) (r2 : List ByteArray) (r3 : List ByteArray) (r4 : Int) (r5 : Int) (w0 w : World) (hI : IsS75 w0 w g s0_0 s0_1 s0_2) (hB : Below w0.heap.size w0 w) (h : spec_l1Cur_cuckoo.f k s0_0 s0_1 s0_2 = some (r1, r2, r3, r4, r5)) :
  Calls Try.prog 95 #[.pointer (some ⟨g, 0, none⟩)] w fun e w' => ∃ v1_ v2_ : Value, e = .returned (.agg #[.int .i64 r1, v1_, v2_]) ∧ Kd.R Kd.string 9 w' w.heap.size (fun k_ => some k_ ≠ (v2_ : Value).ownBlock) v1_ r2 ∧ Kd.R Kd.string 9 w' w.heap.size (fun k_ => some k_ ≠ (v1_ : Value).ownBlock) v2_ r3 ∧ IsS75 w0 w' g s0_0 r4 r5 ∧ Below w0.heap.size w0 w' ∧ KeepBut w w' g none := by
 have hu51 := Try.underlying51; have HI0 := am hI; have HK := am (KeepBut.refl w g none); have HL := am hB.size; clear hI; have HW0 := am hB.size; have HB := am hB; clear hB; have H : ((spec_l1Cur_pick.f s0_0 s0_1 s0_2 20).bind fun bt265 => ((spec_l1Cur_among.f s0_0 bt265.2.1 bt265.2.2 (([4, 8, 12] : List Int))).bind fun bt271 => ((spec_l1Cur_keys.f k s0_0 bt271.2.1 bt271.2.2 bt271.1).bind fun bt274 => ((spec_l1Cur_pick.f s0_0 bt274.2.1 bt274.2.2 (wrap64 ((bt274.1.length : Int) + 6))).bind fun bt279 => ((spec_l1Cur_pick.f s0_0 bt279.2.1 bt279.2.2 12).bind fun bt282 => ((spec_cuOf.f k bt265.1 bt274.1 (wrap64 (1 + bt279.1)) bt282.1).bind fun bt285 => (if bt285.2.2.2 = true then (spec_l1Cur_cuckoo.j0 k s0_0 bt282.2.1 bt282.2.2 bt285.1 bt285.2.1 bt285.2.2.1) else ((spec_l1Cur_pick.f s0_0 bt282.2.1 bt282.2.2 9).bind fun bt294 => (if 0 ≤ (wrap64 (1 + bt294.1)) then (if (wrap64 (1 + bt294.1) : Int).toNat ≤ 17592186044416 then (spec_l1Cur_cuckoo.j0 k s0_0 bt294.2.1 bt294.2.2 bt265.1 (List.replicate (wrap64 (1 + bt294.1) : Int).toNat (⟨#[]⟩ : ByteArray)) ([] : List ByteArray)) else (none)) else (none)))))))))) = some (r1, r2, r3, r4, r5) := h; clear h; replace H := Option.bind_eq_some_iff.mp H; obtain ⟨⟨t265, t266, t267⟩, A20, H⟩ := H; (try dsimp -simprocs only at H); have A2 := am A20; clear A20; obtain ⟨y268, hy268⟩ : ∃ y_ : List Int, y_ = (([4, 8, 12] : List Int)) := ⟨_, rfl⟩
 replace H : ((spec_l1Cur_among.f s0_0 t266 t267 y268).bind fun bt271 => ((spec_l1Cur_keys.f k s0_0 bt271.2.1 bt271.2.2 bt271.1).bind fun bt274 => ((spec_l1Cur_pick.f s0_0 bt274.2.1 bt274.2.2 (wrap64 ((bt274.1.length : Int) + 6))).bind fun bt279 => ((spec_l1Cur_pick.f s0_0 bt279.2.1 bt279.2.2 12).bind fun bt282 => ((spec_cuOf.f k t265 bt274.1 (wrap64 (1 + bt279.1)) bt282.1).bind fun bt285 => (if bt285.2.2.2 = true then (spec_l1Cur_cuckoo.j0 k s0_0 bt282.2.1 bt282.2.2 bt285.1 bt285.2.1 bt285.2.2.1) else ((spec_l1Cur_pick.f s0_0 bt282.2.1 bt282.2.2 9).bind fun bt294 => (if 0 ≤ (wrap64 (1 + bt294.1)) then (if (wrap64 (1 + bt294.1) : Int).toNat ≤ 17592186044416 then (spec_l1Cur_cuckoo.j0 k s0_0 bt294.2.1 bt294.2.2 t265 (List.replicate (wrap64 (1 + bt294.1) : Int).toNat (⟨#[]⟩ : ByteArray)) ([] : List ByteArray)) else (none)) else (none))))))))) = some (r1, r2, r3, r4, r5) := by first | (rw [hy268]; with_reducible exact H) | (have H2_ := (Option.bind_some _ _).symm.trans H; rw [hy268]; with_reducible exact H2_) | (have H2_ := (Option.bind_some _ _).symm.trans H; with_reducible exact H2_) | with_reducible exact H | (rw [hy268]; exact H) | exact H
 have Ny268 := am hy268; clear hy268; replace H := Option.bind_eq_some_iff.mp H; obtain ⟨⟨t271, t272, t273⟩, A30, H⟩ := H; (try dsimp -simprocs only at H); have A3 := am A30; clear A30; replace H := Option.bind_eq_some_iff.mp H; obtain ⟨⟨t274, t277, t278⟩, A40, H⟩ := H; (try dsimp -simprocs only at H); have A4 := am A40; clear A40; replace H := Option.bind_eq_some_iff.mp H; obtain ⟨⟨t279, t280, t281⟩, A50, H⟩ := H; (try dsimp -simprocs only at H); have A5 := am A50; clear A50; replace H := Option.bind_eq_some_iff.mp H; obtain ⟨⟨t282, t283, t284⟩, A60, H⟩ := H; (try dsimp -simprocs only at H)
 have A6 := am A60; clear A60; replace H := Option.bind_eq_some_iff.mp H; obtain ⟨⟨t285, t286, t289, t292⟩, A70, H⟩ := H; (try dsimp -simprocs only at H); have A7 := am A70; clear A70; have HC8 := am H; clear H
 go_enter Try.func95, Try.ntmps95
 go_upto_if 29 with (first | ((with_reducible refine gate_dst (N := 2) rfl ?_); refine bE 2 #[.int .i64 0, .slice none 0 0, .slice none 0 0] 51 ?_; intro gb264 hg w9 hbox hb; have n0_ := am (IsS75.below (by repeat (first | (with_reducible first | exact HI0.out | apply IsS75.alloc | apply IsS75.drewN | apply IsS75.drew | apply IsS75.set_1 | apply IsS75.set_2) | exact HI0.out)) hb); have n1_ := am (KeepBut.trans (by repeat (first | (with_reducible first | exact HK.out | apply KeepBut.set_ | apply keep_drewN | apply keep_drew | apply keep_alloc) | exact HK.out)) (KeepBut.of_below hb g none) (.inl rfl)); have n2_ := am (below_step (by repeat (first | (with_reducible first | exact HB.out | apply below_alloc | apply pw_below_drewN | apply below_drew1 | refine below_set ?_ (IsS75.ge HI0.out)) | exact HB.out)) hb); have n3_ := am (hbox); have n4_ := am ((by rw [hg]; exact (keep_size (w := w) (g := g) (row := none) (by repeat (first | (with_reducible first | exact HK.out | apply KeepBut.set_ | apply keep_drewN | apply keep_drew | apply keep_alloc) | exact HK.out))) : w.heap.size ≤ gb264)); have n5_ := am ((Nat.le_trans HW0.out (by rw [hg]; exact (keep_size (w := w) (g := g) (row := none) (by repeat (first | (with_reducible first | exact HK.out | apply KeepBut.set_ | apply keep_drewN | apply keep_drew | apply keep_alloc) | exact HK.out))) : w.heap.size ≤ gb264) : w0.heap.size ≤ gb264)); have n6_ := am ((by rw [hg]; exact Nat.ne_of_lt (IsS75.lt (show IsS75 w0 _ g s0_0 s0_1 s0_2 from by repeat (first | (with_reducible first | exact HI0.out | apply IsS75.alloc | apply IsS75.drewN | apply IsS75.drew | apply IsS75.set_1 | apply IsS75.set_2) | exact HI0.out))) : g ≠ gb264)); have n7_ := am ((by rw [hg]; exact Nat.ne_of_gt (IsS75.lt (show IsS75 w0 _ g s0_0 s0_1 s0_2 from by repeat (first | (with_reducible first | exact HI0.out | apply IsS75.alloc | apply IsS75.drewN | apply IsS75.drew | apply IsS75.set_1 | apply IsS75.set_2) | exact HI0.out))) : gb264 ≠ g)); clear HI0 HK HB; revert n0_ n1_ n2_ n3_ n4_ n5_ n6_ n7_; intro HI0 HK HB BK264 GW264 GE264 NB0_264 NB264_0; clear hb hbox hg) | ((with_reducible refine gate_callee (f := 81) rfl ?_); refine gL (some 8) Try.func81 #[.pointer (some ⟨g, 0, none⟩), .int .i64 20] ?_; (with_reducible refine (spec_l1Cur_pick.calls g s0_0 s0_1 s0_2 20 t265 t266 t267 w0 _ ?side1 ?side2 A2.out).mono ?_); (case side1 => repeat (first | (with_reducible first | exact HI0.out | apply IsS75.alloc | apply IsS75.drewN | apply IsS75.drew | apply IsS75.set_1 | apply IsS75.set_2 | refine IsS75.far ?_ NB0_264.out _) | exact HI0.out)); (case side2 => repeat (first | (with_reducible first | exact HB.out | apply below_alloc | apply pw_below_drewN | apply below_drew1 | refine below_set ?_ (IsS75.ge HI0.out) | refine below_set ?_ GE264.out) | exact HB.out)); rintro e w10 ⟨rfl, hi, hb, hk⟩; refine ⟨_, rfl, ?_⟩; have n0_ := am (KeepBut.blk hk (g' := gb264) (o := .cells #[.int .i64 0, .slice none 0 0, .slice none 0 0] 51 (0, 0)) (Kz BK264.out) NB264_0.out (by simp)); have n1_ := am (KeepBut.trans (by repeat (first | (with_reducible first | exact HK.out | apply KeepBut.set_ | apply keep_drewN | apply keep_drew | apply keep_alloc | refine keep_far ?_ GW264.out _) | exact HK.out)) hk (.inl rfl)); have n2_ := am (hb); have n3_ := am (hi); clear BK264 HK HB HI0; revert n0_ n1_ n2_ n3_; intro BK264 HK HB HI0; (try clear hb); (try clear hb2); (try clear hk); (try clear hi)) | ((with_reducible refine gate_dst (N := 11) rfl ?_); refine Kd.R_lit (Kd.int .i64) _ 3 ?hg (N := 11) ?hd (xs := ([4, 8, 12] : List Int)) (inner := [.int .i64 4, .int .i64 8, .int .i64 12]) (ok := fun _ => True) (okp := fun _ => True) ?hr ?hp (fun _ hk => hk) trivial (Below.refl _ _) (Nat.le_refl _) (by simp) ?_; (case hd => rfl); (case hg => rfl); (case hr => first | (go_simp; done) | (go_simp; rfl)); (case hp => exact (Reps.one (show Kd.M (Kd.int .i64) _ _ _ 4 [.int .i64 4] from rfl) (Reps.one (show Kd.M (Kd.int .i64) _ _ _ 8 [.int .i64 8] from rfl) (Reps.one (show Kd.M (Kd.int .i64) _ _ _ 12 [.int .i64 12] from rfl) (Reps.none _ _))))); intro v269 w11 ho12 hb hg_ hnew_; clear hg_ hnew_; (first | rw [← Ny268.out] at ho12 | (simp only [Int.reduceToNat] at ho12; rw [← Ny268.out] at ho12)); have n0_ := am (Kd.R_lower ho12 (keep_size (w := w) (g := g) (row := none) (by repeat (first | (with_reducible first | exact HK.out | apply KeepBut.set_ | apply keep_drewN | apply keep_drew | apply keep_alloc | refine keep_far ?_ GW264.out _) | exact HK.out)))); have n1_ := am (IsS75.below (by repeat (first | (with_reducible first | exact HI0.out | apply IsS75.alloc | apply IsS75.drewN | apply IsS75.drew | apply IsS75.set_1 | apply IsS75.set_2 | refine IsS75.far ?_ NB0_264.out _) | exact HI0.out)) hb); have n2_ := Kb BK264 hb; have n3_ := am (KeepBut.trans (by repeat (first | (with_reducible first | exact HK.out | apply KeepBut.set_ | apply keep_drewN | apply keep_drew | apply keep_alloc | refine keep_far ?_ GW264.out _) | exact HK.out)) (KeepBut.of_below hb g none) (.inl rfl)); have n4_ := am (below_step (by repeat (first | (with_reducible first | exact HB.out | apply below_alloc | apply pw_below_drewN | apply below_drew1 | refine below_set ?_ (IsS75.ge HI0.out) | refine below_set ?_ GE264.out) | exact HB.out)) hb); clear HI0 BK264 HK HB; revert n0_ n1_ n2_ n3_ n4_; intro HO270 HI0 BK264 HK HB; clear hb ho12; obtain ⟨Ao13, co13, eo13⟩ := Kd.R_slice HO270.out; subst eo13) | ((with_reducible refine gate_callee (f := 71) rfl ?_); refine gL (some 12) Try.func71 #[.pointer (some ⟨g, 0, none⟩), .slice Ao13 y268.length co13] ?_; (with_reducible refine (spec_l1Cur_among.calls g s0_0 t266 t267 _ _ y268 t271 t272 t273 w0 _ ?side1 ?side2 ?side3 ?side4 ?side5 A3.out).mono ?_); (case side1 => repeat (first | (with_reducible first | exact HI0.out | apply IsS75.alloc | apply IsS75.drewN | apply IsS75.drew | apply IsS75.set_1 | apply IsS75.set_2 | refine IsS75.far ?_ NB0_264.out _) | exact HI0.out)); (case side2 => repeat (first | (with_reducible first | exact HB.out | apply below_alloc | apply pw_below_drewN | apply below_drew1 | refine below_set ?_ (IsS75.ge HI0.out) | refine below_set ?_ GE264.out) | exact HB.out)); (case side3 => exact Cz ((Kd.R_reads' HO270.out).2.2)); (case side4 => exact (Kd.R_reads' HO270.out).2.1); (case side5 => exact far_slice (IsS75.own_ne HI0.out HO270.out (by decide))); rintro e w14 ⟨rfl, hi, hb, hk⟩; refine ⟨_, rfl, ?_⟩; have n0_ := am (KeepBut.blk hk (g' := gb264) (o := .cells #[.int .i64 0, .slice none 0 0, .slice none 0 0] 51 (0, 0)) (Kz BK264.out) NB264_0.out (by simp)); have n1_ := am (Kd.R_mono (Kd.R_keep (IsS75.apart (show IsS75 w0 _ g s0_0 t266 t267 from by repeat (first | (with_reducible first | exact HI0.out | apply IsS75.alloc | apply IsS75.drewN | apply IsS75.drew | apply IsS75.set_1 | apply IsS75.set_2 | refine IsS75.far ?_ NB0_264.out _) | exact HI0.out)) (Rz HO270.out) (by decide)) hk (fun _ h => h.2)) (fun _ h => h.1)); have n2_ := am (KeepBut.trans (by repeat (first | (with_reducible first | exact HK.out | apply KeepBut.set_ | apply keep_drewN | apply keep_drew | apply keep_alloc | refine keep_far ?_ GW264.out _) | exact HK.out)) hk (.inl rfl)); have n3_ := am (hb); have n4_ := am (hi); clear BK264 HO270 HK HB HI0; revert n0_ n1_ n2_ n3_ n4_; intro BK264 HO270 HK HB HI0; (try clear hb); (try clear hb2); (try clear hk); (try clear hi)) | ((with_reducible refine gate_callee (f := 135) rfl ?_); refine gL (some 13) Try.func135 #[.pointer (some ⟨g, 0, none⟩), .int .i64 t271] ?_; (with_reducible refine (spec_l1Cur_keys.calls k g s0_0 t272 t273 t271 t274 t277 t278 w0 _ ?side1 ?side2 A4.out).mono ?_); (case side1 => repeat (first | (with_reducible first | exact HI0.out | apply IsS75.alloc | apply IsS75.drewN | apply IsS75.drew | apply IsS75.set_1 | apply IsS75.set_2 | refine IsS75.far ?_ NB0_264.out _) | exact HI0.out)); (case side2 => repeat (first | (with_reducible first | exact HB.out | apply below_alloc | apply pw_below_drewN | apply below_drew1 | refine below_set ?_ (IsS75.ge HI0.out) | refine below_set ?_ GE264.out) | exact HB.out)); rintro e w15 ⟨v275, rfl, ho0, hi, hb, hk⟩; refine ⟨_, rfl, ?_⟩; have n0_ := am (KeepBut.blk hk (g' := gb264) (o := .cells #[.int .i64 0, .slice none 0 0, .slice none 0 0] 51 (0, 0)) (Kz BK264.out) NB264_0.out (by simp)); have n1_ := am (Kd.R_mono (Kd.R_keep (IsS75.apart (show IsS75 w0 _ g s0_0 t272 t273 from by repeat (first | (with_reducible first | exact HI0.out | apply IsS75.alloc | apply IsS75.drewN | apply IsS75.drew | apply IsS75.set_1 | apply IsS75.set_2 | refine IsS75.far ?_ NB0_264.out _) | exact HI0.out)) (Rz HO270.out) (by decide)) hk (fun _ h => h.2)) (fun _ h => h.1)); have n2_ := am (Kd.R_lower ho0 (keep_size (w := w) (g := g) (row := none) (by repeat (first | (with_reducible first | exact HK.out | apply KeepBut.set_ | apply keep_drewN | apply keep_drew | apply keep_alloc | refine keep_far ?_ GW264.out _) | exact HK.out)))); have n3_ := am (KeepBut.trans (by repeat (first | (with_reducible first | exact HK.out | apply KeepBut.set_ | apply keep_drewN | apply keep_drew | apply keep_alloc | refine keep_far ?_ GW264.out _) | exact HK.out)) hk (.inl rfl)); have n4_ := am (hb); have n5_ := am (hi); clear BK264 HO270 HK HB HI0; revert n0_ n1_ n2_ n3_ n4_ n5_; intro BK264 HO270 HO276 HK HB HI0; (try clear hb); (try clear hb2); (try clear hk); (try clear hi); (try clear ho0); obtain ⟨Ao16, co16, eo16⟩ := Kd.R_slice HO276.out; subst eo16) | ((with_reducible refine gate_callee (f := 81) rfl ?_); refine gL (some 21) Try.func81 #[.pointer (some ⟨g, 0, none⟩), .int .i64 (wrap64 ((t274.length : Int) + 6))] ?_; (with_reducible refine (spec_l1Cur_pick.calls g s0_0 t277 t278 (wrap64 ((t274.length : Int) + 6)) t279 t280 t281 w0 _ ?side1 ?side2 A5.out).mono ?_); (case side1 => repeat (first | (with_reducible first | exact HI0.out | apply IsS75.alloc | apply IsS75.drewN | apply IsS75.drew | apply IsS75.set_1 | apply IsS75.set_2 | refine IsS75.far ?_ NB0_264.out _) | exact HI0.out)); (case side2 => repeat (first | (with_reducible first | exact HB.out | apply below_alloc | apply pw_below_drewN | apply below_drew1 | refine below_set ?_ (IsS75.ge HI0.out) | refine below_set ?_ GE264.out) | exact HB.out)); rintro e w17 ⟨rfl, hi, hb, hk⟩; refine ⟨_, rfl, ?_⟩; have n0_ := am (KeepBut.blk hk (g' := gb264) (o := .cells #[.int .i64 0, .slice none 0 0, .slice none 0 0] 51 (0, 0)) (Kz BK264.out) NB264_0.out (by simp)); have n1_ := am (Kd.R_mono (Kd.R_keep (IsS75.apart (show IsS75 w0 _ g s0_0 t277 t278 from by repeat (first | (with_reducible first | exact HI0.out | apply IsS75.alloc | apply IsS75.drewN | apply IsS75.drew | apply IsS75.set_1 | apply IsS75.set_2 | refine IsS75.far ?_ NB0_264.out _) | exact HI0.out)) (Rz HO270.out) (by decide)) hk (fun _ h => h.2)) (fun _ h => h.1)); have n2_ := am (Kd.R_mono (Kd.R_keep (IsS75.apart (show IsS75 w0 _ g s0_0 t277 t278 from by repeat (first | (with_reducible first | exact HI0.out | apply IsS75.alloc | apply IsS75.drewN | apply IsS75.drew | apply IsS75.set_1 | apply IsS75.set_2 | refine IsS75.far ?_ NB0_264.out _) | exact HI0.out)) (Rz HO276.out) (by decide)) hk (fun _ h => h.2)) (fun _ h => h.1)); have n3_ := am (KeepBut.trans (by repeat (first | (with_reducible first | exact HK.out | apply KeepBut.set_ | apply keep_drewN | apply keep_drew | apply keep_alloc | refine keep_far ?_ GW264.out _) | exact HK.out)) hk (.inl rfl)); have n4_ := am (hb); have n5_ := am (hi); clear BK264 HO270 HO276 HK HB HI0; revert n0_ n1_ n2_ n3_ n4_ n5_; intro BK264 HO270 HO276 HK HB HI0; (try clear hb); (try clear hb2); (try clear hk); (try clear hi)) | ((with_reducible refine gate_callee (f := 81) rfl ?_); refine gL (some 24) Try.func81 #[.pointer (some ⟨g, 0, none⟩), .int .i64 12] ?_; (with_reducible refine (spec_l1Cur_pick.calls g s0_0 t280 t281 12 t282 t283 t284 w0 _ ?side1 ?side2 A6.out).mono ?_); (case side1 => repeat (first | (with_reducible first | exact HI0.out | apply IsS75.alloc | apply IsS75.drewN | apply IsS75.drew | apply IsS75.set_1 | apply IsS75.set_2 | refine IsS75.far ?_ NB0_264.out _) | exact HI0.out)); (case side2 => repeat (first | (with_reducible first | exact HB.out | apply below_alloc | apply pw_below_drewN | apply below_drew1 | refine below_set ?_ (IsS75.ge HI0.out) | refine below_set ?_ GE264.out) | exact HB.out)); rintro e w18 ⟨rfl, hi, hb, hk⟩; refine ⟨_, rfl, ?_⟩; have n0_ := am (KeepBut.blk hk (g' := gb264) (o := .cells #[.int .i64 0, .slice none 0 0, .slice none 0 0] 51 (0, 0)) (Kz BK264.out) NB264_0.out (by simp)); have n1_ := am (Kd.R_mono (Kd.R_keep (IsS75.apart (show IsS75 w0 _ g s0_0 t280 t281 from by repeat (first | (with_reducible first | exact HI0.out | apply IsS75.alloc | apply IsS75.drewN | apply IsS75.drew | apply IsS75.set_1 | apply IsS75.set_2 | refine IsS75.far ?_ NB0_264.out _) | exact HI0.out)) (Rz HO270.out) (by decide)) hk (fun _ h => h.2)) (fun _ h => h.1)); have n2_ := am (Kd.R_mono (Kd.R_keep (IsS75.apart (show IsS75 w0 _ g s0_0 t280 t281 from by repeat (first | (with_reducible first | exact HI0.out | apply IsS75.alloc | apply IsS75.drewN | apply IsS75.drew | apply IsS75.set_1 | apply IsS75.set_2 | refine IsS75.far ?_ NB0_264.out _) | exact HI0.out)) (Rz HO276.out) (by decide)) hk (fun _ h => h.2)) (fun _ h => h.1)); have n3_ := am (KeepBut.trans (by repeat (first | (with_reducible first | exact HK.out | apply KeepBut.set_ | apply keep_drewN | apply keep_drew | apply keep_alloc | refine keep_far ?_ GW264.out _) | exact HK.out)) hk (.inl rfl)); have n4_ := am (hb); have n5_ := am (hi); clear BK264 HO270 HO276 HK HB HI0; revert n0_ n1_ n2_ n3_ n4_ n5_; intro BK264 HO270 HO276 HK HB HI0; (try clear hb); (try clear hb2); (try clear hk); (try clear hi)) | ((with_reducible refine gate_callee (f := 114) rfl ?_); refine gL (some 25) Try.func114 #[.int .i64 t265, .slice Ao16 t274.length co16, .int .i64 (wrap64 (1 + t279)), .int .i64 t282] ?_; (with_reducible refine (spec_cuOf.calls k t265 _ _ t274 (wrap64 (1 + t279)) t282 t285 t286 t289 t292 _ ?side1 ?side2 A7.out).mono ?_); (case side1 => exact Cz ((Kd.R_reads' HO276.out).2.2)); (case side2 => exact (Kd.R_reads' HO276.out).2.1); rintro e w19 ⟨v287, v290, rfl, ho0, ho1, hb⟩; refine ⟨_, rfl, ?_⟩; have n0_ := Rb HO270 hb; have n1_ := am (Kd.R_mono (Kd.R_told (Kd.R_told (Kd.R_old (Rz HO276.out) hb) (Kd.R_base ho0)) (Kd.R_base ho1)) (fun _ h_ => h_.1)); have n2_ := am (Kd.R_lower (Kd.R_new' ho0 (Kd.R_lt (Rz HO276.out))) (keep_size (w := w) (g := g) (row := none) (by repeat (first | (with_reducible first | exact HK.out | apply KeepBut.set_ | apply keep_drewN | apply keep_drew | apply keep_alloc | refine keep_far ?_ GW264.out _) | exact HK.out)))); have n3_ := am (Kd.R_lower (Kd.R_new' ho1 (Kd.R_lt (Rz HO276.out))) (keep_size (w := w) (g := g) (row := none) (by repeat (first | (with_reducible first | exact HK.out | apply KeepBut.set_ | apply keep_drewN | apply keep_drew | apply keep_alloc | refine keep_far ?_ GW264.out _) | exact HK.out)))); have n4_ := am (IsS75.below (by repeat (first | (with_reducible first | exact HI0.out | apply IsS75.alloc | apply IsS75.drewN | apply IsS75.drew | apply IsS75.set_1 | apply IsS75.set_2 | refine IsS75.far ?_ NB0_264.out _) | exact HI0.out)) hb); have n5_ := Kb BK264 hb; have n6_ := am (KeepBut.trans (by repeat (first | (with_reducible first | exact HK.out | apply KeepBut.set_ | apply keep_drewN | apply keep_drew | apply keep_alloc | refine keep_far ?_ GW264.out _) | exact HK.out)) (KeepBut.of_below hb g none) (.inl rfl)); have n7_ := am (below_step (by repeat (first | (with_reducible first | exact HB.out | apply below_alloc | apply pw_below_drewN | apply below_drew1 | refine below_set ?_ (IsS75.ge HI0.out) | refine below_set ?_ GE264.out) | exact HB.out)) hb); clear HO270 HO276 HI0 BK264 HK HB; revert n0_ n1_ n2_ n3_ n4_ n5_ n6_ n7_; intro HO270 HO276 HO288 HO291 HI0 BK264 HK HB; (try clear hb); (try clear hb2); (try clear hk); (try clear hi); (try clear ho0); (try clear ho1)) | ((with_reducible refine gate_dst (N := 5) rfl ?_); refine bE 5 #[.int .i64 0, .slice none 0 0, .slice none 0 0] 51 ?_; intro gb293 hg w20 hbox hb; have n0_ := Rb HO270 hb; have n1_ := Rb HO276 hb; have n2_ := Rb HO288 hb; have n3_ := Rb HO291 hb; have n4_ := am (IsS75.below (by repeat (first | (with_reducible first | exact HI0.out | apply IsS75.alloc | apply IsS75.drewN | apply IsS75.drew | apply IsS75.set_1 | apply IsS75.set_2 | refine IsS75.far ?_ NB0_264.out _) | exact HI0.out)) hb); have n5_ := Kb BK264 hb; have n6_ := am (KeepBut.trans (by repeat (first | (with_reducible first | exact HK.out | apply KeepBut.set_ | apply keep_drewN | apply keep_drew | apply keep_alloc | refine keep_far ?_ GW264.out _) | exact HK.out)) (KeepBut.of_below hb g none) (.inl rfl)); have n7_ := am (below_step (by repeat (first | (with_reducible first | exact HB.out | apply below_alloc | apply pw_below_drewN | apply below_drew1 | refine below_set ?_ (IsS75.ge HI0.out) | refine below_set ?_ GE264.out) | exact HB.out)) hb); have n8_ := am (hbox); have n9_ := am ((by rw [hg]; exact (keep_size (w := w) (g := g) (row := none) (by repeat (first | (with_reducible first | exact HK.out | apply KeepBut.set_ | apply keep_drewN | apply keep_drew | apply keep_alloc | refine keep_far ?_ GW264.out _) | exact HK.out))) : w.heap.size ≤ gb293)); have n10_ := am ((Nat.le_trans HW0.out (by rw [hg]; exact (keep_size (w := w) (g := g) (row := none) (by repeat (first | (with_reducible first | exact HK.out | apply KeepBut.set_ | apply keep_drewN | apply keep_drew | apply keep_alloc | refine keep_far ?_ GW264.out _) | exact HK.out))) : w.heap.size ≤ gb293) : w0.heap.size ≤ gb293)); have n11_ := Nl BK264 hg; have n12_ := Ng BK264 hg; have n13_ := am ((by rw [hg]; exact Nat.ne_of_lt (IsS75.lt (show IsS75 w0 _ g s0_0 t283 t284 from by repeat (first | (with_reducible first | exact HI0.out | apply IsS75.alloc | apply IsS75.drewN | apply IsS75.drew | apply IsS75.set_1 | apply IsS75.set_2 | refine IsS75.far ?_ NB0_264.out _) | exact HI0.out))) : g ≠ gb293)); have n14_ := am ((by rw [hg]; exact Nat.ne_of_gt (IsS75.lt (show IsS75 w0 _ g s0_0 t283 t284 from by repeat (first | (with_reducible first | exact HI0.out | apply IsS75.alloc | apply IsS75.drewN | apply IsS75.drew | apply IsS75.set_1 | apply IsS75.set_2 | refine IsS75.far ?_ NB0_264.out _) | exact HI0.out))) : gb293 ≠ g)); clear HO270 HO276 HO288 HO291 HI0 BK264 HK HB; revert n0_ n1_ n2_ n3_ n4_ n5_ n6_ n7_ n8_ n9_ n10_ n11_ n12_ n13_ n14_; intro HO270 HO276 HO288 HO291 HI0 BK264 HK HB BK293 GW293 GE293 NB264_293 NB293_264 NB0_293 NB293_0; clear hb hbox hg; have hnb21 := NB293_264.out; have hnc21 := NB264_293.out; have hnb22 := NB293_0.out; have hnc22 := NB0_293.out; obtain ⟨hcz23_0, hcz23_1, hcz23_2, hfz23_0, hfz23_1, hfz23_2⟩ := cf3 (w := w20) BK293; obtain ⟨Ao24, co24, eo24⟩ := Kd.R_slice HO288.out; subst eo24; obtain ⟨Ao25, co25, eo25⟩ := Kd.R_slice HO291.out; subst eo25))
 (try simp only [aP])
 go_cut [] (fun wc => ∃ (kq : Nat) (x1001_7 : Int) (x1002_7 : Int) (x294000_7 : Int) (x294001_7 : List ByteArray) (x294002_7 : List ByteArray) (u294001 : Value) (u294002 : Value), Aside0 (spec_l1Cur_cuckoo.j0 kq s0_0 x1001_7 x1002_7 x294000_7 x294001_7 x294002_7 = some (r1, r2, r3, r4, r5)) ∧ Aside0 (kq ≤ k) ∧ Aside0 (Kd.R Kd.string 9 wc w.heap.size (fun k_ => some k_ ≠ (u294002 : Value).ownBlock) u294001 x294001_7) ∧ Aside0 (Kd.R Kd.string 9 wc w.heap.size (fun k_ => some k_ ≠ (u294001 : Value).ownBlock) u294002 x294002_7) ∧ Aside0 (wc.heap[gb264]? = some (.cells #[.int .i64 0, (.slice none 0 0), (.slice none 0 0)] 51 (0, 0))) ∧ Aside0 (wc.heap[gb293]? = some (.cells #[.int .i64 x294000_7, u294001, u294002] 51 (0, 0))) ∧ Aside0 (IsS75 w0 wc g s0_0 x1001_7 x1002_7) ∧ Aside0 (KeepBut w wc g none) ∧ Aside0 (Below w0.heap.size w0 wc))
 case first =>
  have H := HC8.out; clear HC8
  by_cases c26 : t292 = true
  ·subst c26
   rw [if_pos rfl] at H; have H' := am H; clear H
   go_wp2
   go_meet
   case rel => exact ⟨_, (t283), (t284), (t285), (t286), (t289), (.slice Ao24 t286.length co24), (.slice Ao25 t289.length co25), H', ⟨by first | omega | exact Nat.le_refl _⟩, ⟨Rz (Kd.R_mono (Kd.R_far (p := ⟨gb293, 2, none⟩) (Kd.R_far (p := ⟨gb293, 1, none⟩) (Kd.R_far (p := ⟨gb293, 0, none⟩) (Kd.R_types HO288.out BK293.out (by decide)) (fun _ hk => hk.2) (.int .i64 t285)) (fun _ hk => hk.2) (.slice Ao24 t286.length co24)) (fun _ hk => hk.2) (.slice Ao25 t289.length co25)) (fun _ hk => hk.1.1))⟩, ⟨Rz (Kd.R_mono (Kd.R_far (p := ⟨gb293, 2, none⟩) (Kd.R_far (p := ⟨gb293, 1, none⟩) (Kd.R_far (p := ⟨gb293, 0, none⟩) (Kd.R_types HO291.out BK293.out (by decide)) (fun _ hk => hk.2) (.int .i64 t285)) (fun _ hk => hk.2) (.slice Ao24 t286.length co24)) (fun _ hk => hk.2) (.slice Ao25 t289.length co25)) (fun _ hk => hk.1.1))⟩, ⟨by (with_reducible repeat (first | refine blk_drewN ?_ _ | refine blk_drew ?_ | refine blk_alloc ?_ _)); refine blk_far ?_ NB264_293.out _; (with_reducible repeat (first | refine blk_drewN ?_ _ | refine blk_drew ?_ | refine blk_alloc ?_ _)); refine blk_far ?_ NB264_293.out _; (with_reducible repeat (first | refine blk_drewN ?_ _ | refine blk_drew ?_ | refine blk_alloc ?_ _)); refine blk_far ?_ NB264_293.out _; (with_reducible repeat (first | refine blk_drewN ?_ _ | refine blk_drew ?_ | refine blk_alloc ?_ _)); exact BK264.out⟩, ⟨by (with_reducible repeat (first | refine blk_drewN ?_ _ | refine blk_drew ?_ | refine blk_alloc ?_ _)); refine blk_put (cs := #[.int .i64 t285, .slice Ao24 t286.length co24, .slice none 0 0]) ?_ 2 _ rfl; (with_reducible repeat (first | refine blk_drewN ?_ _ | refine blk_drew ?_ | refine blk_alloc ?_ _)); refine blk_put (cs := #[.int .i64 t285, .slice none 0 0, .slice none 0 0]) ?_ 1 _ rfl; (with_reducible repeat (first | refine blk_drewN ?_ _ | refine blk_drew ?_ | refine blk_alloc ?_ _)); refine blk_put (cs := #[.int .i64 0, .slice none 0 0, .slice none 0 0]) ?_ 0 _ rfl; (with_reducible repeat (first | refine blk_drewN ?_ _ | refine blk_drew ?_ | refine blk_alloc ?_ _)); exact BK293.out⟩, ⟨by repeat (first | (with_reducible first | exact HI0.out | apply IsS75.alloc | apply IsS75.drewN | apply IsS75.drew | apply IsS75.set_1 | apply IsS75.set_2 | refine IsS75.far ?_ NB0_264.out _ | refine IsS75.far ?_ NB0_293.out _) | exact HI0.out)⟩, ⟨by repeat (first | (with_reducible first | exact HK.out | apply KeepBut.set_ | apply keep_drewN | apply keep_drew | apply keep_alloc | refine keep_far ?_ GW264.out _ | refine keep_far ?_ GW293.out _) | exact HK.out)⟩, ⟨by repeat (first | (with_reducible first | exact HB.out | apply below_alloc | apply pw_below_drewN | apply below_drew1 | refine below_set ?_ (IsS75.ge HI0.out) | refine below_set ?_ GE264.out | refine below_set ?_ GE293.out) | exact HB.out)⟩⟩
  ·replace c26 := Bool.eq_false_iff.mpr c26
   subst c26
   rw [if_neg (show ¬ (false = true) by decide)] at H; replace H := Option.bind_eq_some_iff.mp H; obtain ⟨⟨t294, t295, t296⟩, A270, H⟩ := H; (try dsimp -simprocs only at H); have A27 := am A270; clear A270; obtain ⟨ji28, hji28⟩ : ∃ j_ : Int, (wrap64 (1 + t294)) = j_ := ⟨_, rfl⟩
   replace H : (if 0 ≤ (ji28) then (if (ji28 : Int).toNat ≤ 17592186044416 then (spec_l1Cur_cuckoo.j0 k s0_0 t295 t296 t265 (List.replicate (ji28 : Int).toNat (⟨#[]⟩ : ByteArray)) ([] : List ByteArray)) else (none)) else (none)) = some (r1, r2, r3, r4, r5) := by first | (rw [hji28] at H; exact H) | (simp only [hji28] at H ⊢; exact H)
   (try rw [hji28] at A27)
   have hji28w : (IntKind.i64.wrap (1 + t294)) = ji28 := (i64_w _).trans hji28
   by_cases c29 : 0 ≤ (ji28)
   ·rw [if_pos c29] at H
    have c29b0 := eq_true c29; have c29b1 : decide (0 ≤ (ji28)) = true := decide_eq_true c29; clear c29
    by_cases c30 : (ji28 : Int).toNat ≤ 17592186044416
    ·rw [if_pos c30] at H
     have c30b0 := eq_true c30; have c30b1 : decide ((ji28 : Int).toNat ≤ 17592186044416) = true := decide_eq_true c30; clear c30; obtain ⟨y297, hy297⟩ : ∃ y_ : List ByteArray, y_ = (List.replicate (ji28 : Int).toNat (⟨#[]⟩ : ByteArray)) := ⟨_, rfl⟩
     replace H : (spec_l1Cur_cuckoo.j0 k s0_0 t295 t296 t265 y297 ([] : List ByteArray)) = some (r1, r2, r3, r4, r5) := by first | (rw [hy297]; with_reducible exact H) | (have H2_ := (Option.bind_some _ _).symm.trans H; rw [hy297]; with_reducible exact H2_) | (have H2_ := (Option.bind_some _ _).symm.trans H; with_reducible exact H2_) | with_reducible exact H | (rw [hy297]; exact H) | exact H
     have Ny297 := am hy297; clear hy297; have H' := am H; clear H
     go_wp2_with (first | ((with_reducible refine gate_callee (f := 81) rfl ?_); refine gL (some 32) Try.func81 #[.pointer (some ⟨g, 0, none⟩), .int .i64 9] ?_; (with_reducible refine (spec_l1Cur_pick.calls g s0_0 t283 t284 9 t294 t295 t296 w0 _ ?side1 ?side2 A27.out).mono ?_); (case side1 => repeat (first | (with_reducible first | exact HI0.out | apply IsS75.alloc | apply IsS75.drewN | apply IsS75.drew | apply IsS75.set_1 | apply IsS75.set_2 | refine IsS75.far ?_ NB0_264.out _ | refine IsS75.far ?_ NB0_293.out _) | exact HI0.out)); (case side2 => repeat (first | (with_reducible first | exact HB.out | apply below_alloc | apply pw_below_drewN | apply below_drew1 | refine below_set ?_ (IsS75.ge HI0.out) | refine below_set ?_ GE264.out | refine below_set ?_ GE293.out) | exact HB.out)); rintro e w31 ⟨rfl, hi, hb, hk⟩; refine ⟨_, rfl, ?_⟩; have n0_ := am (KeepBut.blk hk (g' := gb264) (o := .cells #[.int .i64 0, .slice none 0 0, .slice none 0 0] 51 (0, 0)) (by (with_reducible repeat (first | refine blk_drewN ?_ _ | refine blk_drew ?_ | refine blk_alloc ?_ _)); refine blk_far ?_ NB264_293.out _; (with_reducible repeat (first | refine blk_drewN ?_ _ | refine blk_drew ?_ | refine blk_alloc ?_ _)); refine blk_far ?_ NB264_293.out _; (with_reducible repeat (first | refine blk_drewN ?_ _ | refine blk_drew ?_ | refine blk_alloc ?_ _)); refine blk_far ?_ NB264_293.out _; exact Kz BK264.out) NB264_0.out (by simp)); have n1_ := am (Kd.R_mono (Kd.R_keep (IsS75.apart (show IsS75 w0 _ g s0_0 t283 t284 from by repeat (first | (with_reducible first | exact HI0.out | apply IsS75.alloc | apply IsS75.drewN | apply IsS75.drew | apply IsS75.set_1 | apply IsS75.set_2 | refine IsS75.far ?_ NB0_264.out _ | refine IsS75.far ?_ NB0_293.out _) | exact HI0.out)) (Rz (Kd.R_mono (Kd.R_far (p := ⟨gb293, 2, none⟩) (Kd.R_far (p := ⟨gb293, 1, none⟩) (Kd.R_far (p := ⟨gb293, 0, none⟩) (Kd.R_types HO270.out BK293.out (by decide)) (fun _ hk => hk.2) (.int .i64 t285)) (fun _ hk => hk.2) (.slice Ao24 t286.length co24)) (fun _ hk => hk.2) (.slice Ao25 t289.length co25)) (fun _ h_ => h_.1))) (by decide)) hk (fun _ h => h.2)) (fun _ h => h.1)); have n2_ := am (Kd.R_mono (Kd.R_keep (IsS75.apart (show IsS75 w0 _ g s0_0 t283 t284 from by repeat (first | (with_reducible first | exact HI0.out | apply IsS75.alloc | apply IsS75.drewN | apply IsS75.drew | apply IsS75.set_1 | apply IsS75.set_2 | refine IsS75.far ?_ NB0_264.out _ | refine IsS75.far ?_ NB0_293.out _) | exact HI0.out)) (Rz (Kd.R_mono (Kd.R_far (p := ⟨gb293, 2, none⟩) (Kd.R_far (p := ⟨gb293, 1, none⟩) (Kd.R_far (p := ⟨gb293, 0, none⟩) (Kd.R_types HO276.out BK293.out (by decide)) (fun _ hk => hk.2) (.int .i64 t285)) (fun _ hk => hk.2) (.slice Ao24 t286.length co24)) (fun _ hk => hk.2) (.slice Ao25 t289.length co25)) (fun _ h_ => h_.1))) (by decide)) hk (fun _ h => h.2)) (fun _ h => h.1)); have n3_ := am (Kd.R_mono (Kd.R_keep (IsS75.apart (show IsS75 w0 _ g s0_0 t283 t284 from by repeat (first | (with_reducible first | exact HI0.out | apply IsS75.alloc | apply IsS75.drewN | apply IsS75.drew | apply IsS75.set_1 | apply IsS75.set_2 | refine IsS75.far ?_ NB0_264.out _ | refine IsS75.far ?_ NB0_293.out _) | exact HI0.out)) (Rz (Kd.R_mono (Kd.R_far (p := ⟨gb293, 2, none⟩) (Kd.R_far (p := ⟨gb293, 1, none⟩) (Kd.R_far (p := ⟨gb293, 0, none⟩) (Kd.R_types HO288.out BK293.out (by decide)) (fun _ hk => hk.2) (.int .i64 t285)) (fun _ hk => hk.2) (.slice Ao24 t286.length co24)) (fun _ hk => hk.2) (.slice Ao25 t289.length co25)) (fun _ h_ => h_.1))) (by decide)) hk (fun _ h => h.2)) (fun _ h => h.1)); have n4_ := am (Kd.R_mono (Kd.R_keep (IsS75.apart (show IsS75 w0 _ g s0_0 t283 t284 from by repeat (first | (with_reducible first | exact HI0.out | apply IsS75.alloc | apply IsS75.drewN | apply IsS75.drew | apply IsS75.set_1 | apply IsS75.set_2 | refine IsS75.far ?_ NB0_264.out _ | refine IsS75.far ?_ NB0_293.out _) | exact HI0.out)) (Rz (Kd.R_mono (Kd.R_far (p := ⟨gb293, 2, none⟩) (Kd.R_far (p := ⟨gb293, 1, none⟩) (Kd.R_far (p := ⟨gb293, 0, none⟩) (Kd.R_types HO291.out BK293.out (by decide)) (fun _ hk => hk.2) (.int .i64 t285)) (fun _ hk => hk.2) (.slice Ao24 t286.length co24)) (fun _ hk => hk.2) (.slice Ao25 t289.length co25)) (fun _ h_ => h_.1))) (by decide)) hk (fun _ h => h.2)) (fun _ h => h.1)); have n5_ := am (KeepBut.blk hk (g' := gb293) (o := .cells #[.int .i64 t285, .slice Ao24 t286.length co24, .slice Ao25 t289.length co25] 51 (0, 0)) (by (with_reducible repeat (first | refine blk_drewN ?_ _ | refine blk_drew ?_ | refine blk_alloc ?_ _)); refine blk_put (cs := #[.int .i64 t285, .slice Ao24 t286.length co24, .slice none 0 0]) ?_ 2 _ rfl; (with_reducible repeat (first | refine blk_drewN ?_ _ | refine blk_drew ?_ | refine blk_alloc ?_ _)); refine blk_put (cs := #[.int .i64 t285, .slice none 0 0, .slice none 0 0]) ?_ 1 _ rfl; (with_reducible repeat (first | refine blk_drewN ?_ _ | refine blk_drew ?_ | refine blk_alloc ?_ _)); refine blk_put (cs := #[.int .i64 0, .slice none 0 0, .slice none 0 0]) ?_ 0 _ rfl; exact Kz BK293.out) NB293_0.out (by simp)); have n6_ := am (KeepBut.trans (by repeat (first | (with_reducible first | exact HK.out | apply KeepBut.set_ | apply keep_drewN | apply keep_drew | apply keep_alloc | refine keep_far ?_ GW264.out _ | refine keep_far ?_ GW293.out _) | exact HK.out)) hk (.inl rfl)); have n7_ := am (hb); have n8_ := am (hi); clear BK264 HO270 HO276 HO288 HO291 BK293 HK HB HI0; revert n0_ n1_ n2_ n3_ n4_ n5_ n6_ n7_ n8_; intro BK264 HO270 HO276 HO288 HO291 BK293 HK HB HI0; (try clear hb); (try clear hb2); (try clear hk); (try clear hi)) | ((with_reducible refine gate_dst (N := 34) rfl ?_); refine Kd.R_make Kd.string _ 9 rfl (N := 34) rfl 24 _ _ rfl ji28 rfl rfl Try.underlying24 (.string ⟨#[]⟩) 16 info9 rfl (by decide) (by omega) (⟨#[]⟩ : ByteArray) (ok := fun _ => True) (okp := fun _ => True) rfl (fun _ hk => hk) trivial (dT) (Nat.le_trans (Nat.mul_le_mul_right _ (dT : ji28.toNat ≤ 17592186044416)) (by omega)) (Below.refl _ _) (Nat.le_refl _) ?_; intro v298 w32 ho33 hb hg_ hnew_; clear hg_ hnew_; (first | rw [← Ny297.out] at ho33 | (simp only [Int.reduceToNat] at ho33; rw [← Ny297.out] at ho33)); have n0_ := Rb HO270 hb; have n1_ := Re HO276 (Kd.R_base ho33) hb; have n2_ := Re HO288 (Kd.R_base ho33) hb; have n3_ := Re HO291 (Kd.R_base ho33) hb; have n4_ := am (Kd.R_lower (Kd.R_new' (Kd.R_new' (Kd.R_new' ho33 (Kd.R_lt (Rz HO276.out))) (Kd.R_lt (Rz HO288.out))) (Kd.R_lt (Rz HO291.out))) (keep_size (w := w) (g := g) (row := none) (by repeat (first | (with_reducible first | exact HK.out | apply KeepBut.set_ | apply keep_drewN | apply keep_drew | apply keep_alloc | refine keep_far ?_ GW264.out _ | refine keep_far ?_ GW293.out _) | exact HK.out)))); have n5_ := am (IsS75.below (by repeat (first | (with_reducible first | exact HI0.out | apply IsS75.alloc | apply IsS75.drewN | apply IsS75.drew | apply IsS75.set_1 | apply IsS75.set_2 | refine IsS75.far ?_ NB0_264.out _ | refine IsS75.far ?_ NB0_293.out _) | exact HI0.out)) hb); have n6_ := Kb BK264 hb; have n7_ := Kb BK293 hb; have n8_ := am (KeepBut.trans (by repeat (first | (with_reducible first | exact HK.out | apply KeepBut.set_ | apply keep_drewN | apply keep_drew | apply keep_alloc | refine keep_far ?_ GW264.out _ | refine keep_far ?_ GW293.out _) | exact HK.out)) (KeepBut.of_below hb g none) (.inl rfl)); have n9_ := am (below_step (by repeat (first | (with_reducible first | exact HB.out | apply below_alloc | apply pw_below_drewN | apply below_drew1 | refine below_set ?_ (IsS75.ge HI0.out) | refine below_set ?_ GE264.out | refine below_set ?_ GE293.out) | exact HB.out)) hb); clear HO270 HO276 HO288 HO291 HI0 BK264 BK293 HK HB; revert n0_ n1_ n2_ n3_ n4_ n5_ n6_ n7_ n8_ n9_; intro HO270 HO276 HO288 HO291 HO299 HI0 BK264 BK293 HK HB; clear hb ho33; obtain ⟨Ao34, co34, eo34⟩ := Kd.R_slice HO299.out; subst eo34; have hnb35 := NB293_264.out; have hnc35 := NB264_293.out; have hnb36 := NB293_0.out; have hnc36 := NB0_293.out; obtain ⟨hcz37_0, hcz37_1, hcz37_2, hfz37_0, hfz37_1, hfz37_2⟩ := cf3 (w := w32) BK293))
     go_meet
     case rel => exact ⟨_, (t295), (t296), (t265), (y297), (([] : List ByteArray)), (.slice Ao34 y297.length co34), (.slice none 0 0), H', ⟨by first | omega | exact Nat.le_refl _⟩, ⟨Rz (Kd.R_mono (Kd.R_far (p := ⟨gb293, 2, none⟩) (Kd.R_far (p := ⟨gb293, 1, none⟩) (Kd.R_far (p := ⟨gb293, 0, none⟩) (Kd.R_types HO299.out BK293.out (by decide)) (fun _ hk => hk.2) (.int .i64 t265)) (fun _ hk => hk.2) (.slice Ao34 y297.length co34)) (fun _ hk => hk.2) (.slice none 0 0)) (fun _ hk => (by simp [Value.ownBlock])))⟩, ⟨nZ⟩, ⟨by (with_reducible repeat (first | refine blk_drewN ?_ _ | refine blk_drew ?_ | refine blk_alloc ?_ _)); refine blk_far ?_ NB264_293.out _; (with_reducible repeat (first | refine blk_drewN ?_ _ | refine blk_drew ?_ | refine blk_alloc ?_ _)); refine blk_far ?_ NB264_293.out _; (with_reducible repeat (first | refine blk_drewN ?_ _ | refine blk_drew ?_ | refine blk_alloc ?_ _)); refine blk_far ?_ NB264_293.out _; (with_reducible repeat (first | refine blk_drewN ?_ _ | refine blk_drew ?_ | refine blk_alloc ?_ _)); exact BK264.out⟩, ⟨by (with_reducible repeat (first | refine blk_drewN ?_ _ | refine blk_drew ?_ | refine blk_alloc ?_ _)); refine blk_put (cs := #[.int .i64 t265, .slice Ao34 y297.length co34, .slice Ao25 t289.length co25]) ?_ 2 _ rfl; (with_reducible repeat (first | refine blk_drewN ?_ _ | refine blk_drew ?_ | refine blk_alloc ?_ _)); refine blk_put (cs := #[.int .i64 t265, .slice Ao24 t286.length co24, .slice Ao25 t289.length co25]) ?_ 1 _ rfl; (with_reducible repeat (first | refine blk_drewN ?_ _ | refine blk_drew ?_ | refine blk_alloc ?_ _)); refine blk_put (cs := #[.int .i64 t285, .slice Ao24 t286.length co24, .slice Ao25 t289.length co25]) ?_ 0 _ rfl; (with_reducible repeat (first | refine blk_drewN ?_ _ | refine blk_drew ?_ | refine blk_alloc ?_ _)); exact BK293.out⟩, ⟨by repeat (first | (with_reducible first | exact HI0.out | apply IsS75.alloc | apply IsS75.drewN | apply IsS75.drew | apply IsS75.set_1 | apply IsS75.set_2 | refine IsS75.far ?_ NB0_264.out _ | refine IsS75.far ?_ NB0_293.out _) | exact HI0.out)⟩, ⟨by repeat (first | (with_reducible first | exact HK.out | apply KeepBut.set_ | apply keep_drewN | apply keep_drew | apply keep_alloc | refine keep_far ?_ GW264.out _ | refine keep_far ?_ GW293.out _) | exact HK.out)⟩, ⟨by repeat (first | (with_reducible first | exact HB.out | apply below_alloc | apply pw_below_drewN | apply below_drew1 | refine below_set ?_ (IsS75.ge HI0.out) | refine below_set ?_ GE264.out | refine below_set ?_ GE293.out) | exact HB.out)⟩⟩
    ·rw [if_neg c30] at H
     exact absurd H (by simp)
   ·rw [if_neg c29] at H
    exact absurd H (by simp)
 case rest =>
  clear HC8
  try clear c1
  try clear c2
  try clear p2
  try clear c3
  try clear p6
  try clear c7
  try clear c8
  try clear c9
  try clear c11
  try clear c13
  try clear c21
  try clear c22
  try clear c26
  try clear c29
  try clear c29b0
  try clear c29b1
  try clear c30
  try clear c30b0
  try clear c30b1
  try clear c35
  try clear c36
  try clear hcz23_0
  try clear hcz23_1
  try clear hcz23_2
  try clear hcz37_0
  try clear hcz37_1
  try clear hcz37_2
  try clear hfz23_0
  try clear hfz23_1
  try clear hfz23_2
  try clear hfz37_0
  try clear hfz37_1
  try clear hfz37_2
  obtain ⟨kq, x1001_7, x1002_7, x294000_7, x294001_7, x294002_7, u294001, u294002, HA, HJ7, HO_294001, HO_294002, BK264, BK293, HI0, HK, HB⟩ := hcut; cases kq with
  | zero => exact absurd HA.out (by simp [spec_l1Cur_cuckoo.j0])
  | succ kj7 =>
   have H := HA.out; clear HA
   simp only [spec_l1Cur_cuckoo.j0] at H
   replace H := Option.bind_eq_some_iff.mp H; obtain ⟨⟨t300, t301, t302⟩, A380, H⟩ := H; (try dsimp -simprocs only at H); have A38 := am A380; clear A380; have HC39 := am H; clear H
   go_upto_if 37 with (first | ((with_reducible refine gate_callee (f := 83) rfl ?_); refine gL (some 37) Try.func83 #[.pointer (some ⟨g, 0, none⟩), .int .i64 12] ?_; (with_reducible refine (spec_l1Cur_one.calls g s0_0 x1001_7 x1002_7 12 t300 t301 t302 w0 _ ?side1 ?side2 A38.out).mono ?_); (case side1 => repeat (first | (with_reducible first | exact HI0.out | apply IsS75.alloc | apply IsS75.drewN | apply IsS75.drew | apply IsS75.set_1 | apply IsS75.set_2 | refine IsS75.far ?_ NB0_264.out _ | refine IsS75.far ?_ NB0_293.out _) | exact HI0.out)); (case side2 => repeat (first | (with_reducible first | exact HB.out | apply below_alloc | apply pw_below_drewN | apply below_drew1 | refine below_set ?_ (IsS75.ge HI0.out) | refine below_set ?_ GE264.out | refine below_set ?_ GE293.out) | exact HB.out)); rintro e w40 ⟨rfl, hi, hb, hk⟩; refine ⟨_, rfl, ?_⟩; have n0_ := am (Kd.R_mono (Kd.R_keep (IsS75.apart (show IsS75 w0 _ g s0_0 x1001_7 x1002_7 from by repeat (first | (with_reducible first | exact HI0.out | apply IsS75.alloc | apply IsS75.drewN | apply IsS75.drew | apply IsS75.set_1 | apply IsS75.set_2 | refine IsS75.far ?_ NB0_264.out _ | refine IsS75.far ?_ NB0_293.out _) | exact HI0.out)) (Rz HO_294001.out) (by decide)) hk (fun _ h => h.2)) (fun _ h => h.1)); have n1_ := am (Kd.R_mono (Kd.R_keep (IsS75.apart (show IsS75 w0 _ g s0_0 x1001_7 x1002_7 from by repeat (first | (with_reducible first | exact HI0.out | apply IsS75.alloc | apply IsS75.drewN | apply IsS75.drew | apply IsS75.set_1 | apply IsS75.set_2 | refine IsS75.far ?_ NB0_264.out _ | refine IsS75.far ?_ NB0_293.out _) | exact HI0.out)) (Rz HO_294002.out) (by decide)) hk (fun _ h => h.2)) (fun _ h => h.1)); have n2_ := am (KeepBut.blk hk (g' := gb264) (o := .cells #[.int .i64 0, .slice none 0 0, .slice none 0 0] 51 (0, 0)) (Kz BK264.out) NB264_0.out (by simp)); have n3_ := am (KeepBut.blk hk (g' := gb293) (o := .cells #[.int .i64 x294000_7, u294001, u294002] 51 (0, 0)) (Kz BK293.out) NB293_0.out (by simp)); have n4_ := am (KeepBut.trans (by repeat (first | (with_reducible first | exact HK.out | apply KeepBut.set_ | apply keep_drewN | apply keep_drew | apply keep_alloc | refine keep_far ?_ GW264.out _ | refine keep_far ?_ GW293.out _) | exact HK.out)) hk (.inl rfl)); have n5_ := am (hb); have n6_ := am (hi); clear HO_294001 HO_294002 BK264 BK293 HK HB HI0; revert n0_ n1_ n2_ n3_ n4_ n5_ n6_; intro HO_294001 HO_294002 BK264 BK293 HK HB HI0; (try clear hb); (try clear hb2); (try clear hk); (try clear hi)))
   (try simp only [aP])
   go_cut [] (fun wc => ∃ (kq : Nat) (x1001_38 : Int) (x1002_38 : Int) (x294002_38 : List ByteArray) (u294002 : Value), Aside0 (spec_l1Cur_cuckoo.j1 kq s0_0 x1001_38 x1002_38 x294000_7 x294001_7 x294002_38 = some (r1, r2, r3, r4, r5)) ∧ Aside0 (kq ≤ kj7) ∧ Aside0 (Kd.R Kd.string 9 wc w.heap.size (fun k_ => some k_ ≠ (u294002 : Value).ownBlock) u294001 x294001_7) ∧ Aside0 (Kd.R Kd.string 9 wc w.heap.size (fun k_ => some k_ ≠ (u294001 : Value).ownBlock) u294002 x294002_38) ∧ Aside0 (wc.heap[gb264]? = some (.cells #[.int .i64 0, (.slice none 0 0), (.slice none 0 0)] 51 (0, 0))) ∧ Aside0 (wc.heap[gb293]? = some (.cells #[.int .i64 x294000_7, u294001, u294002] 51 (0, 0))) ∧ Aside0 (IsS75 w0 wc g s0_0 x1001_38 x1002_38) ∧ Aside0 (KeepBut w wc g none) ∧ Aside0 (Below w0.heap.size w0 wc))
   case first =>
    have H := HC39.out; clear HC39
    by_cases c41 : t300 = true
    ·subst c41
     rw [if_pos rfl] at H; replace H := Option.bind_eq_some_iff.mp H; obtain ⟨⟨t303, t304, t305⟩, A420, H⟩ := H; (try dsimp -simprocs only at H); have A42 := am A420; clear A420
     by_cases c43 : x294002_7.length < 8796093022208
     ·rw [if_pos c43] at H
      have LMc43 := am c43; clear c43; obtain ⟨y306, hy306⟩ : ∃ y_ : List ByteArray, y_ = (x294002_7 ++ [t303]) := ⟨_, rfl⟩
      replace H : (spec_l1Cur_cuckoo.j1 kj7 s0_0 t304 t305 x294000_7 x294001_7 y306) = some (r1, r2, r3, r4, r5) := by first | (rw [hy306]; with_reducible exact H) | (have H2_ := (Option.bind_some _ _).symm.trans H; rw [hy306]; with_reducible exact H2_) | (have H2_ := (Option.bind_some _ _).symm.trans H; with_reducible exact H2_) | with_reducible exact H | (rw [hy306]; exact H) | exact H
      have Ny306 := am hy306; clear hy306; have H' := am H; clear H
      try go_wp2
      have n0_ := am (Kd.R_drew HO_294001.out); have n1_ := am (Kd.R_drew HO_294002.out); have n2_ := am (blk_drew BK264.out); have n3_ := am (blk_drew BK293.out); have n4_ := am (IsS75.drew HI0.out); have n5_ := am (keep_drew HK.out); have n6_ := am (below_drew1 HB.out); clear HO_294001 HO_294002 BK264 BK293 HI0 HK HB; revert n0_ n1_ n2_ n3_ n4_ n5_ n6_; intro HO_294001 HO_294002 BK264 BK293 HI0 HK HB; refine start_ (n := 8) (S := fun w' => w'.cell? ⟨gb293, 0, none⟩ = some (.int .i64 x294000_7) ∧ w'.cell? ⟨gb293, 1, none⟩ = some (u294001) ∧ w'.cell? ⟨gb293, 2, none⟩ = some (u294002)) (ds := [7]) (bA 8 0) (by kernel_rfl) rfl rfl ⟨cz BK293 0, cz BK293 1, cz BK293 2⟩ (fun hHeld => ?_); refine with_tabW spec_l1Cur_cuckoo.tab7 spec_l1Cur_cuckoo.bits7 (fun HT_ HW_ => ?_); generalize w40.drew = w44 at HO_294001 HO_294002 BK264 BK293 HI0 HK HB hHeld ⊢; refine pZ 0 (some 38) (bA 8 1) HT_.out ?_; refine pZ 2 (some 40) (bA 8 5) HT_.out ?_; refine tZ3 1 (some 39) (bA 8 7) HT_.out HW_.out hHeld ?_; refine oZ 3 (some 41) (bA 8 15) HT_.out (fun K hK => ?_); refine gZ Try.func98 #[.pointer (some ⟨g, 0, none⟩)] ?_
      with_reducible refine (spec_l1Cur_text.calls kj7 g s0_0 t301 t302 t303 t304 t305 w0 _ ?side1 ?side2 A42.out).mono ?_
      (case side1 => repeat (first | (with_reducible first | exact HI0.out | apply IsS75.alloc | apply IsS75.drewN | apply IsS75.drew | apply IsS75.set_1 | apply IsS75.set_2 | refine IsS75.far ?_ NB0_264.out _ | refine IsS75.far ?_ NB0_293.out _) | exact HI0.out))
      (case side2 => repeat (first | (with_reducible first | exact HB.out | apply below_alloc | apply pw_below_drewN | apply below_drew1 | refine below_set ?_ (IsS75.ge HI0.out) | refine below_set ?_ GE264.out | refine below_set ?_ GE293.out) | exact HB.out))
      rintro e w45 ⟨rfl, hi, hb, hk⟩; refine ⟨_, rfl, ?_⟩; have n0_ := am (Kd.R_mono (Kd.R_keep (IsS75.apart (show IsS75 w0 _ g s0_0 t301 t302 from by repeat (first | (with_reducible first | exact HI0.out | apply IsS75.alloc | apply IsS75.drewN | apply IsS75.drew | apply IsS75.set_1 | apply IsS75.set_2 | refine IsS75.far ?_ NB0_264.out _ | refine IsS75.far ?_ NB0_293.out _) | exact HI0.out)) (Rz HO_294001.out) (by decide)) hk (fun _ h => h.2)) (fun _ h => h.1)); have n1_ := am (Kd.R_mono (Kd.R_keep (IsS75.apart (show IsS75 w0 _ g s0_0 t301 t302 from by repeat (first | (with_reducible first | exact HI0.out | apply IsS75.alloc | apply IsS75.drewN | apply IsS75.drew | apply IsS75.set_1 | apply IsS75.set_2 | refine IsS75.far ?_ NB0_264.out _ | refine IsS75.far ?_ NB0_293.out _) | exact HI0.out)) (Rz HO_294002.out) (by decide)) hk (fun _ h => h.2)) (fun _ h => h.1)); have n2_ := am (KeepBut.blk hk (g' := gb264) (o := .cells #[.int .i64 0, .slice none 0 0, .slice none 0 0] 51 (0, 0)) (Kz BK264.out) NB264_0.out (by simp)); have n3_ := am (KeepBut.blk hk (g' := gb293) (o := .cells #[.int .i64 x294000_7, u294001, u294002] 51 (0, 0)) (Kz BK293.out) NB293_0.out (by simp)); have n4_ := am (KeepBut.trans (by repeat (first | (with_reducible first | exact HK.out | apply KeepBut.set_ | apply keep_drewN | apply keep_drew | apply keep_alloc | refine keep_far ?_ GW264.out _ | refine keep_far ?_ GW293.out _) | exact HK.out)) hk (.inl rfl)); have n5_ := am (hb); have n6_ := am (hi); clear HO_294001 HO_294002 BK264 BK293 HK HB HI0; revert n0_ n1_ n2_ n3_ n4_ n5_ n6_; intro HO_294001 HO_294002 BK264 BK293 HK HB HI0
      (try clear hb)
      (try clear hb2)
      (try clear hk)
      (try clear hi)
      refine hK.out _ _ ⟨cz BK293 0, cz BK293 1, cz BK293 2⟩ (fun hHeld => ?_); clear hK K; refine norm_ (a' := ?_) ?_ ?_; rotate_left; show Act.put _ (some 41) _ = _; simp only [aP, i64_w, i32_w]; rfl; refine oZ 4 (some 42) (bA 8 31) HT_.out (fun K hK => ?_); refine value_ (w1 := ?_) (v := ?_) (by rfl) rfl ?_ ?_
      rotate_left 2
      ·go_simp
       constructor
       ·rfl
       ·rfl
      refine hK.out _ _ ⟨(blk_cell (blk_alloc BK293.out _) 0).trans rfl, (blk_cell (blk_alloc BK293.out _) 1).trans rfl, (blk_cell (blk_alloc BK293.out _) 2).trans rfl⟩ (fun hHeld => ?_); clear hK K; refine norm_ (a' := ?_) ?_ ?_; rotate_left; show Act.put _ (some 42) _ = _; simp only [aP, i64_w, i32_w]; rfl; refine oZ 5 (some 43) (bA 8 63) HT_.out (fun K hK => ?_); refine Kd.R_append_step Kd.string w.heap.size (by rfl) (.tmp 39) (.tmp 42) 24 9 (.string ⟨#[]⟩) 16 rfl Try.underlying24 info9 rfl (by decide) (by omega) u294002 x294002_7 t303 [.string t303] (fun k_ => some k_ ≠ (u294001 : Value).ownBlock) (fun _ => False) rfl rfl ?aP (fun _ hk => hk.elim) ?aF ?aO (Below.refl _ _) ?aS ?aL ?_
      (case aP => exact rfl)
      (case aF => exact (fun k_ hk => Kd.fresh' (Kd.R_lt (Rz HO_294001.out)) k_ hk))
      (case aO => exact (Rz HO_294002.out))
      (case aS => exact (keep_size (w := w) (g := g) (row := none) (by repeat (first | (with_reducible first | exact HK.out | apply KeepBut.set_ | apply keep_drewN | apply keep_drew | apply keep_alloc | refine keep_far ?_ GW264.out _ | refine keep_far ?_ GW293.out _) | exact HK.out))))
      (case aL => have := LMc43.out; omega)
      intro v307 w46 ho hb hg hat; rw [← Ny306.out] at ho; have n0_ := am (Kd.R_after (ok := (fun _ => True)) (Rz (Kd.R_mono HO_294001.out (fun _ hk => ⟨trivial, hk⟩))) hg hat); have n1_ := am (blk_grown (g := gb264) (o := .cells #[.int .i64 0, .slice none 0 0, .slice none 0 0] 51 (0, 0)) (Kz BK264.out) hg (Kd.R_ne HO_294002.out BK264.out (by decide))); have n2_ := am (blk_grown (g := gb293) (o := .cells #[.int .i64 x294000_7, u294001, u294002] 51 (0, 0)) (Kz BK293.out) hg (Kd.R_ne HO_294002.out BK293.out (by decide))); have n3_ := am (IsS75.grown (by repeat (first | (with_reducible first | exact HI0.out | apply IsS75.alloc | apply IsS75.drewN | apply IsS75.drew | apply IsS75.set_1 | apply IsS75.set_2 | refine IsS75.far ?_ NB0_264.out _ | refine IsS75.far ?_ NB0_293.out _) | exact HI0.out)) hg (IsS75.own_ne HI0.out HO_294002.out (by decide))); have n4_ := am (below_weaken (by repeat (first | (with_reducible first | exact HB.out | apply below_alloc | apply pw_below_drewN | apply below_drew1 | refine below_set ?_ (IsS75.ge HI0.out) | refine below_set ?_ GE264.out | refine below_set ?_ GE293.out) | exact HB.out)) HL.out hb); have n5_ := am (KeepBut.trans (by repeat (first | (with_reducible first | exact HK.out | apply KeepBut.set_ | apply keep_drewN | apply keep_drew | apply keep_alloc | refine keep_far ?_ GW264.out _ | refine keep_far ?_ GW293.out _) | exact HK.out)) (KeepBut.of_grown hg g) (Kd.R_base2 HO_294002.out)); have n6_ := am (ho); clear HO_294001 BK264 BK293 HI0 HB HK HO_294002; revert n0_ n1_ n2_ n3_ n4_ n5_ n6_; intro HO_294001 BK264 BK293 HI0 HB HK HO308; clear ho hb hg hat; obtain ⟨Ao47, co47, eo47⟩ := Kd.R_slice HO308.out
      (first | subst eo47 | (injection eo47 with f1_ f2_ f3_; have f4_ := f1_.symm; have f5_ := f3_.symm; clear f1_ f2_ f3_; subst f4_; subst f5_))
      refine hK.out _ _ ⟨cz BK293 0, cz BK293 1, cz BK293 2⟩ (fun hHeld => ?_); clear hK K; refine norm_ (a' := ?_) ?_ ?_; rotate_left; show Act.put _ (some 43) _ = _; simp only [aP, i64_w, i32_w]; rfl; refine pZ 6 (some 44) (bA 8 127) HT_.out ?_; refine lZ 7 none (bA 8 255) HT_.out (fun K hK => ?_); have hs48 : w46.cell? ⟨gb293, 2, none⟩ = some (u294002) := cz BK293 2; have hfs48 := blk_frozen BK293.out 2; have hns48_0 := NB264_293.out; have hms48_0 := NB293_264.out; refine skip_ (w1 := ?_) (by rfl) rfl ?_ ?_
      rotate_left
      ·go_simp
       rfl
      refine hK.out _ _ ?_; clear hK K; refine done_ (done_of HT_.out (by kernel_rfl)) ?_
      try go_wp2
      go_meet
      case rel => exact ⟨_, (t304), (t305), (y306), (.slice Ao47 y306.length co47), H', ⟨by have := HJ7.out; first | omega | exact Nat.le_refl _⟩, ⟨Rz (Kd.R_mono (Kd.R_far (p := ⟨gb293, 2, none⟩) (Kd.R_types HO_294001.out BK293.out (by decide)) (fun _ hk => hk.2) (.slice Ao47 y306.length co47)) (fun _ hk => hk.1.2))⟩, ⟨Rz (Kd.R_mono (Kd.R_far (p := ⟨gb293, 2, none⟩) (Kd.R_types HO308.out BK293.out (by decide)) (fun _ hk => hk.2) (.slice Ao47 y306.length co47)) (fun _ hk => hk.1))⟩, ⟨by (with_reducible repeat (first | refine blk_drewN ?_ _ | refine blk_drew ?_ | refine blk_alloc ?_ _)); refine blk_far ?_ NB264_293.out _; (with_reducible repeat (first | refine blk_drewN ?_ _ | refine blk_drew ?_ | refine blk_alloc ?_ _)); exact BK264.out⟩, ⟨by (with_reducible repeat (first | refine blk_drewN ?_ _ | refine blk_drew ?_ | refine blk_alloc ?_ _)); refine blk_put (cs := #[.int .i64 x294000_7, u294001, u294002]) ?_ 2 _ rfl; (with_reducible repeat (first | refine blk_drewN ?_ _ | refine blk_drew ?_ | refine blk_alloc ?_ _)); exact BK293.out⟩, ⟨by repeat (first | (with_reducible first | exact HI0.out | apply IsS75.alloc | apply IsS75.drewN | apply IsS75.drew | apply IsS75.set_1 | apply IsS75.set_2 | refine IsS75.far ?_ NB0_264.out _ | refine IsS75.far ?_ NB0_293.out _) | exact HI0.out)⟩, ⟨by repeat (first | (with_reducible first | exact HK.out | apply KeepBut.set_ | apply keep_drewN | apply keep_drew | apply keep_alloc | refine keep_far ?_ GW264.out _ | refine keep_far ?_ GW293.out _) | exact HK.out)⟩, ⟨by repeat (first | (with_reducible first | exact HB.out | apply below_alloc | apply pw_below_drewN | apply below_drew1 | refine below_set ?_ (IsS75.ge HI0.out) | refine below_set ?_ GE264.out | refine below_set ?_ GE293.out) | exact HB.out)⟩⟩
     ·rw [if_neg c43] at H
      exact absurd H (by simp)
    ·replace c41 := Bool.eq_false_iff.mpr c41
     subst c41
     rw [if_neg (show ¬ (false = true) by decide)] at H; have H' := am H; clear H
     go_wp2
     go_meet
     case rel => exact ⟨_, (t301), (t302), (x294002_7), (u294002), H', ⟨by have := HJ7.out; first | omega | exact Nat.le_refl _⟩, ⟨Rz HO_294001.out⟩, ⟨Rz HO_294002.out⟩, ⟨Kz BK264.out⟩, ⟨Kz BK293.out⟩, ⟨by repeat (first | (with_reducible first | exact HI0.out | apply IsS75.alloc | apply IsS75.drewN | apply IsS75.drew | apply IsS75.set_1 | apply IsS75.set_2 | refine IsS75.far ?_ NB0_264.out _ | refine IsS75.far ?_ NB0_293.out _) | exact HI0.out)⟩, ⟨by repeat (first | (with_reducible first | exact HK.out | apply KeepBut.set_ | apply keep_drewN | apply keep_drew | apply keep_alloc | refine keep_far ?_ GW264.out _ | refine keep_far ?_ GW293.out _) | exact HK.out)⟩, ⟨by repeat (first | (with_reducible first | exact HB.out | apply below_alloc | apply pw_below_drewN | apply below_drew1 | refine below_set ?_ (IsS75.ge HI0.out) | refine below_set ?_ GE264.out | refine below_set ?_ GE293.out) | exact HB.out)⟩⟩
   case rest =>
    clear HC39
    try clear c1
    try clear c2
    try clear p2
    try clear c3
    try clear c4
    try clear p6
    try clear c7
    try clear c8
    try clear c9
    try clear c11
    try clear c13
    try clear c21
    try clear c22
    try clear c26
    try clear c29
    try clear c29b0
    try clear c29b1
    try clear c30
    try clear c30b0
    try clear c30b1
    try clear c35
    try clear c36
    try clear c41
    try clear c43
    try clear hcz23_0
    try clear hcz23_1
    try clear hcz23_2
    try clear hcz37_0
    try clear hcz37_1
    try clear hcz37_2
    try clear hfz23_0
    try clear hfz23_1
    try clear hfz23_2
    try clear hfz37_0
    try clear hfz37_1
    try clear hfz37_2
    try clear p2
    try clear p6
    obtain ⟨kq, x1001_38, x1002_38, x294002_38, u294002, HA, HJ38, HO_294001, HO_294002, BK264, BK293, HI0, HK, HB⟩ := hcut; cases kq with
    | zero => exact absurd HA.out (by simp [spec_l1Cur_cuckoo.j1])
    | succ kj38 =>
     have H := HA.out; clear HA
     simp only [spec_l1Cur_cuckoo.j1] at H
     replace H := Option.bind_eq_some_iff.mp H; obtain ⟨⟨t309, t310, t311⟩, A490, H⟩ := H; (try dsimp -simprocs only at H); have A49 := am A490; clear A490; have HC50 := am H; clear H
     go_upto_if 46 with (first | ((with_reducible refine gate_callee (f := 83) rfl ?_); refine gL (some 46) Try.func83 #[.pointer (some ⟨g, 0, none⟩), .int .i64 12] ?_; (with_reducible refine (spec_l1Cur_one.calls g s0_0 x1001_38 x1002_38 12 t309 t310 t311 w0 _ ?side1 ?side2 A49.out).mono ?_); (case side1 => repeat (first | (with_reducible first | exact HI0.out | apply IsS75.alloc | apply IsS75.drewN | apply IsS75.drew | apply IsS75.set_1 | apply IsS75.set_2 | refine IsS75.far ?_ NB0_264.out _ | refine IsS75.far ?_ NB0_293.out _) | exact HI0.out)); (case side2 => repeat (first | (with_reducible first | exact HB.out | apply below_alloc | apply pw_below_drewN | apply below_drew1 | refine below_set ?_ (IsS75.ge HI0.out) | refine below_set ?_ GE264.out | refine below_set ?_ GE293.out) | exact HB.out)); rintro e w51 ⟨rfl, hi, hb, hk⟩; refine ⟨_, rfl, ?_⟩; have n0_ := am (Kd.R_mono (Kd.R_keep (IsS75.apart (show IsS75 w0 _ g s0_0 x1001_38 x1002_38 from by repeat (first | (with_reducible first | exact HI0.out | apply IsS75.alloc | apply IsS75.drewN | apply IsS75.drew | apply IsS75.set_1 | apply IsS75.set_2 | refine IsS75.far ?_ NB0_264.out _ | refine IsS75.far ?_ NB0_293.out _) | exact HI0.out)) (Rz HO_294001.out) (by decide)) hk (fun _ h => h.2)) (fun _ h => h.1)); have n1_ := am (Kd.R_mono (Kd.R_keep (IsS75.apart (show IsS75 w0 _ g s0_0 x1001_38 x1002_38 from by repeat (first | (with_reducible first | exact HI0.out | apply IsS75.alloc | apply IsS75.drewN | apply IsS75.drew | apply IsS75.set_1 | apply IsS75.set_2 | refine IsS75.far ?_ NB0_264.out _ | refine IsS75.far ?_ NB0_293.out _) | exact HI0.out)) (Rz HO_294002.out) (by decide)) hk (fun _ h => h.2)) (fun _ h => h.1)); have n2_ := am (KeepBut.blk hk (g' := gb264) (o := .cells #[.int .i64 0, .slice none 0 0, .slice none 0 0] 51 (0, 0)) (Kz BK264.out) NB264_0.out (by simp)); have n3_ := am (KeepBut.blk hk (g' := gb293) (o := .cells #[.int .i64 x294000_7, u294001, u294002] 51 (0, 0)) (Kz BK293.out) NB293_0.out (by simp)); have n4_ := am (KeepBut.trans (by repeat (first | (with_reducible first | exact HK.out | apply KeepBut.set_ | apply keep_drewN | apply keep_drew | apply keep_alloc | refine keep_far ?_ GW264.out _ | refine keep_far ?_ GW293.out _) | exact HK.out)) hk (.inl rfl)); have n5_ := am (hb); have n6_ := am (hi); clear HO_294001 HO_294002 BK264 BK293 HK HB HI0; revert n0_ n1_ n2_ n3_ n4_ n5_ n6_; intro HO_294001 HO_294002 BK264 BK293 HK HB HI0; (try clear hb); (try clear hb2); (try clear hk); (try clear hi)))
     (try simp only [aP])
     go_cut [] (fun wc => ∃ (kq : Nat) (x1001_49 : Int) (x1002_49 : Int) (x294001_49 : List ByteArray) (x294002_49 : List ByteArray) (u294001 : Value) (u294002 : Value), Aside0 (spec_l1Cur_cuckoo.j2 kq s0_0 x1001_49 x1002_49 x294000_7 x294001_49 x294002_49 = some (r1, r2, r3, r4, r5)) ∧ Aside0 (kq ≤ kj38) ∧ Aside0 (Kd.R Kd.string 9 wc w.heap.size (fun k_ => some k_ ≠ (u294002 : Value).ownBlock) u294001 x294001_49) ∧ Aside0 (Kd.R Kd.string 9 wc w.heap.size (fun k_ => some k_ ≠ (u294001 : Value).ownBlock) u294002 x294002_49) ∧ Aside0 (wc.heap[gb264]? = some (.cells #[.int .i64 0, (.slice none 0 0), (.slice none 0 0)] 51 (0, 0))) ∧ Aside0 (wc.heap[gb293]? = some (.cells #[.int .i64 x294000_7, u294001, u294002] 51 (0, 0))) ∧ Aside0 (IsS75 w0 wc g s0_0 x1001_49 x1002_49) ∧ Aside0 (KeepBut w wc g none) ∧ Aside0 (Below w0.heap.size w0 wc))
     case first =>
      have H := HC50.out; clear HC50
      by_cases c52 : t309 = true
      ·subst c52
       rw [if_pos rfl] at H; replace H := Option.bind_eq_some_iff.mp H; obtain ⟨⟨t312, t313, t314⟩, A530, H⟩ := H; (try dsimp -simprocs only at H); have A53 := am A530; clear A530; replace H := Option.bind_eq_some_iff.mp H; obtain ⟨⟨t315, t316, t317⟩, A540, H⟩ := H; (try dsimp -simprocs only at H); have A54 := am A540; clear A540
       by_cases c55 : 0 ≤ t312
       ·rw [if_pos c55] at H
        have c55b0 : decide (0 ≤ t312) = true := decide_eq_true c55; clear c55
        (first | rw [c55b0] | (simp only [i64_w, i32_w]; rw [c55b0]) | skip)
        by_cases c56 : t312 < (x294001_7.length : Int)
        ·rw [if_pos c56] at H
         have c56b0 : decide (t312 < (x294001_7.length : Int)) = true := decide_eq_true c56; clear c56; obtain ⟨y318, hy318⟩ : ∃ y_ : List ByteArray, y_ = (x294001_7.set (t312 : Int).toNat t315) := ⟨_, rfl⟩
         replace H : (spec_l1Cur_cuckoo.j2 kj38 s0_0 t316 t317 x294000_7 y318 x294002_38) = some (r1, r2, r3, r4, r5) := by first | (rw [hy318]; with_reducible exact H) | (have H2_ := (Option.bind_some _ _).symm.trans H; rw [hy318]; with_reducible exact H2_) | (have H2_ := (Option.bind_some _ _).symm.trans H; with_reducible exact H2_) | with_reducible exact H | (rw [hy318]; exact H) | exact H
         have Ny318 := am hy318; clear hy318; have H' := am H; clear H
         try go_wp2
         have n0_ := am (Kd.R_drew HO_294001.out); have n1_ := am (Kd.R_drew HO_294002.out); have n2_ := am (blk_drew BK264.out); have n3_ := am (blk_drew BK293.out); have n4_ := am (IsS75.drew HI0.out); have n5_ := am (keep_drew HK.out); have n6_ := am (below_drew1 HB.out); clear HO_294001 HO_294002 BK264 BK293 HI0 HK HB; revert n0_ n1_ n2_ n3_ n4_ n5_ n6_; intro HO_294001 HO_294002 BK264 BK293 HI0 HK HB; obtain ⟨Ao59, co59, eo59⟩ := Kd.R_slice HO_294001.out
         (first | subst eo59 | (injection eo59 with f1_ f2_ f3_; have f4_ := f1_.symm; have f5_ := f3_.symm; clear f1_ f2_ f3_; subst f4_; subst f5_))
         refine start_ (n := 11) (S := fun w' => w'.cell? ⟨gb293, 0, none⟩ = some (.int .i64 x294000_7) ∧ w'.cell? ⟨gb293, 1, none⟩ = some (.slice Ao59 x294001_7.length co59) ∧ w'.cell? ⟨gb293, 2, none⟩ = some (u294002)) (ds := [10]) (bA 11 0) (by kernel_rfl) rfl rfl ⟨cz BK293 0, cz BK293 1, cz BK293 2⟩ (fun hHeld => ?_); refine with_tabW spec_l1Cur_cuckoo.tab9 spec_l1Cur_cuckoo.bits9 (fun HT_ HW_ => ?_); generalize w51.drew = w58 at HO_294001 HO_294002 BK264 BK293 HI0 HK HB hHeld ⊢; refine pZ 0 (some 47) (bA 11 1) HT_.out ?_; refine pZ 2 (some 49) (bA 11 5) HT_.out ?_; refine pZ 3 (some 50) (bA 11 13) HT_.out ?_; refine pZ 7 (some 54) (bA 11 141) HT_.out ?_; refine tZ3 1 (some 48) (bA 11 143) HT_.out HW_.out hHeld ?_; refine tZ3 4 (some 51) (bA 11 159) HT_.out HW_.out hHeld ?_; refine pZ 5 (some 52) (bA 11 191) HT_.out ?_; refine oZ 6 (some 53) (bA 11 255) HT_.out (fun K hK => ?_); refine gZ Try.func81 #[.pointer (some ⟨g, 0, none⟩), .int .i64 (x294001_7.length : Int)] ?_
         with_reducible refine (spec_l1Cur_pick.calls g s0_0 t310 t311 (x294001_7.length : Int) t312 t313 t314 w0 _ ?side1 ?side2 A53.out).mono ?_
         (case side1 => repeat (first | (with_reducible first | exact HI0.out | apply IsS75.alloc | apply IsS75.drewN | apply IsS75.drew | apply IsS75.set_1 | apply IsS75.set_2 | refine IsS75.far ?_ NB0_264.out _ | refine IsS75.far ?_ NB0_293.out _) | exact HI0.out))
         (case side2 => repeat (first | (with_reducible first | exact HB.out | apply below_alloc | apply pw_below_drewN | apply below_drew1 | refine below_set ?_ (IsS75.ge HI0.out) | refine below_set ?_ GE264.out | refine below_set ?_ GE293.out) | exact HB.out))
         rintro e w60 ⟨rfl, hi, hb, hk⟩; refine ⟨_, rfl, ?_⟩; have n0_ := am (Kd.R_mono (Kd.R_keep (IsS75.apart (show IsS75 w0 _ g s0_0 t310 t311 from by repeat (first | (with_reducible first | exact HI0.out | apply IsS75.alloc | apply IsS75.drewN | apply IsS75.drew | apply IsS75.set_1 | apply IsS75.set_2 | refine IsS75.far ?_ NB0_264.out _ | refine IsS75.far ?_ NB0_293.out _) | exact HI0.out)) (Rz HO_294001.out) (by decide)) hk (fun _ h => h.2)) (fun _ h => h.1)); have n1_ := am (Kd.R_mono (Kd.R_keep (IsS75.apart (show IsS75 w0 _ g s0_0 t310 t311 from by repeat (first | (with_reducible first | exact HI0.out | apply IsS75.alloc | apply IsS75.drewN | apply IsS75.drew | apply IsS75.set_1 | apply IsS75.set_2 | refine IsS75.far ?_ NB0_264.out _ | refine IsS75.far ?_ NB0_293.out _) | exact HI0.out)) (Rz HO_294002.out) (by decide)) hk (fun _ h => h.2)) (fun _ h => h.1)); have n2_ := am (KeepBut.blk hk (g' := gb264) (o := .cells #[.int .i64 0, .slice none 0 0, .slice none 0 0] 51 (0, 0)) (Kz BK264.out) NB264_0.out (by simp)); have n3_ := am (KeepBut.blk hk (g' := gb293) (o := .cells #[.int .i64 x294000_7, .slice Ao59 x294001_7.length co59, u294002] 51 (0, 0)) (Kz BK293.out) NB293_0.out (by simp)); have n4_ := am (KeepBut.trans (by repeat (first | (with_reducible first | exact HK.out | apply KeepBut.set_ | apply keep_drewN | apply keep_drew | apply keep_alloc | refine keep_far ?_ GW264.out _ | refine keep_far ?_ GW293.out _) | exact HK.out)) hk (.inl rfl)); have n5_ := am (hb); have n6_ := am (hi); clear HO_294001 HO_294002 BK264 BK293 HK HB HI0; revert n0_ n1_ n2_ n3_ n4_ n5_ n6_; intro HO_294001 HO_294002 BK264 BK293 HK HB HI0
         (try clear hb)
         (try clear hb2)
         (try clear hk)
         (try clear hi)
         refine hK.out _ _ ⟨cz BK293 0, cz BK293 1, cz BK293 2⟩ (fun hHeld => ?_); clear hK K; refine norm_ (a' := ?_) ?_ ?_; rotate_left; show Act.put _ (some 53) _ = _; simp only [aP, i64_w, i32_w]; rfl; refine oZ 8 (some 55) (bA 11 511) HT_.out (fun K hK => ?_); refine gZ Try.func98 #[.pointer (some ⟨g, 0, none⟩)] ?_
         with_reducible refine (spec_l1Cur_text.calls kj38 g s0_0 t313 t314 t315 t316 t317 w0 _ ?side1 ?side2 A54.out).mono ?_
         (case side1 => repeat (first | (with_reducible first | exact HI0.out | apply IsS75.alloc | apply IsS75.drewN | apply IsS75.drew | apply IsS75.set_1 | apply IsS75.set_2 | refine IsS75.far ?_ NB0_264.out _ | refine IsS75.far ?_ NB0_293.out _) | exact HI0.out))
         (case side2 => repeat (first | (with_reducible first | exact HB.out | apply below_alloc | apply pw_below_drewN | apply below_drew1 | refine below_set ?_ (IsS75.ge HI0.out) | refine below_set ?_ GE264.out | refine below_set ?_ GE293.out) | exact HB.out))
         rintro e w61 ⟨rfl, hi, hb, hk⟩; refine ⟨_, rfl, ?_⟩; have n0_ := am (Kd.R_mono (Kd.R_keep (IsS75.apart (show IsS75 w0 _ g s0_0 t313 t314 from by repeat (first | (with_reducible first | exact HI0.out | apply IsS75.alloc | apply IsS75.drewN | apply IsS75.drew | apply IsS75.set_1 | apply IsS75.set_2 | refine IsS75.far ?_ NB0_264.out _ | refine IsS75.far ?_ NB0_293.out _) | exact HI0.out)) (Rz HO_294001.out) (by decide)) hk (fun _ h => h.2)) (fun _ h => h.1)); have n1_ := am (Kd.R_mono (Kd.R_keep (IsS75.apart (show IsS75 w0 _ g s0_0 t313 t314 from by repeat (first | (with_reducible first | exact HI0.out | apply IsS75.alloc | apply IsS75.drewN | apply IsS75.drew | apply IsS75.set_1 | apply IsS75.set_2 | refine IsS75.far ?_ NB0_264.out _ | refine IsS75.far ?_ NB0_293.out _) | exact HI0.out)) (Rz HO_294002.out) (by decide)) hk (fun _ h => h.2)) (fun _ h => h.1)); have n2_ := am (KeepBut.blk hk (g' := gb264) (o := .cells #[.int .i64 0, .slice none 0 0, .slice none 0 0] 51 (0, 0)) (Kz BK264.out) NB264_0.out (by simp)); have n3_ := am (KeepBut.blk hk (g' := gb293) (o := .cells #[.int .i64 x294000_7, .slice Ao59 x294001_7.length co59, u294002] 51 (0, 0)) (Kz BK293.out) NB293_0.out (by simp)); have n4_ := am (KeepBut.trans (by repeat (first | (with_reducible first | exact HK.out | apply KeepBut.set_ | apply keep_drewN | apply keep_drew | apply keep_alloc | refine keep_far ?_ GW264.out _ | refine keep_far ?_ GW293.out _) | exact HK.out)) hk (.inl rfl)); have n5_ := am (hb); have n6_ := am (hi); clear HO_294001 HO_294002 BK264 BK293 HK HB HI0; revert n0_ n1_ n2_ n3_ n4_ n5_ n6_; intro HO_294001 HO_294002 BK264 BK293 HK HB HI0
         (try clear hb)
         (try clear hb2)
         (try clear hk)
         (try clear hi)
         have p57 : 0 ≤ (t312 : Int) := dT; have q57 : (t312 : Int) < ((x294001_7.length : Int) : Int) := dT; obtain ⟨go57, co57, eo57, gb57, gl57, cl57, HG57⟩ := Kd.R_form HO_294001.out (by omega)
         (first | cases eo57 | (injection eo57 with ea_ en_ ec_; (first | subst ea_ | (injection ea_ with ea_; subst ea_)); subst ec_; clear en_))
         have GB57 := am gb57; have GG57 := am HG57; clear gb57 gl57 HG57; obtain ⟨hx57_0, hf57_0⟩ := Kd.R_celln (⟨#[]⟩ : ByteArray) HO_294001.out (t312 : Int) p57 q57; replace p57 := eq_true p57; replace q57 := eq_true q57; have HN0_go57 := am (show g ≠ go57 from by have h_ := IsS75.own_ne HI0.out HO_294001.out (by decide); intro e_; exact h_ (by rw [e_]; rfl)); have HP62 := Kd.R_putn HO_294001.out (t312 : Int) t315; rw [← Ny318.out] at HP62; have HQ62 := am HP62; clear HP62; refine hK.out _ _ ⟨cz BK293 0, cz BK293 1, cz BK293 2⟩ (fun hHeld => ?_); clear hK K; refine norm_ (a' := ?_) ?_ ?_; rotate_left; show Act.put _ (some 55) _ = _; simp only [aP, i64_w, i32_w]; rfl; refine pZ 9 (some 56) (bA 11 1023) HT_.out ?_; refine lZ 10 none (bA 11 2047) HT_.out (fun K hK => ?_); refine skip_ (w1 := ?_) (by rfl) rfl ?_ ?_
         rotate_left
         ·go_simp
          rfl
         refine hK.out _ _ ?_; clear hK K; refine done_ (done_of HT_.out (by kernel_rfl)) ?_
         try go_wp2
         go_meet
         case rel => exact ⟨_, (t316), (t317), (y318), (x294002_38), (.slice (some ⟨go57, 0, none⟩) x294001_7.length co59), (u294002), H', ⟨by have := HJ7.out; have := HJ38.out; first | omega | exact Nat.le_refl _⟩, ⟨by first | exact HQ62.out | exact Rz HQ62.out⟩, ⟨Rz (Kd.R_mono (Kd.R_far (p := ⟨go57, (t312 : Int).toNat, none⟩) (Kd.R_mono HO_294002.out (fun k_ hk => (⟨hk, fun e_ => hk (by rw [e_]; rfl)⟩ : _ ∧ k_ ≠ go57))) (fun _ hk => hk.2) (.string t315)) (fun _ hk => hk.1))⟩, ⟨by (with_reducible repeat (first | refine blk_drewN ?_ _ | refine blk_drew ?_ | refine blk_alloc ?_ _)); refine blk_far ?_ (by have h_ := Kd.R_ne HO_294001.out BK264.out (by decide); intro e_; exact h_ (by rw [e_]; rfl)) _; (with_reducible repeat (first | refine blk_drewN ?_ _ | refine blk_drew ?_ | refine blk_alloc ?_ _)); exact BK264.out⟩, ⟨by (with_reducible repeat (first | refine blk_drewN ?_ _ | refine blk_drew ?_ | refine blk_alloc ?_ _)); refine blk_far ?_ (by have h_ := Kd.R_ne HO_294001.out BK293.out (by decide); intro e_; exact h_ (by rw [e_]; rfl)) _; (with_reducible repeat (first | refine blk_drewN ?_ _ | refine blk_drew ?_ | refine blk_alloc ?_ _)); exact BK293.out⟩, ⟨by repeat (first | (with_reducible first | exact HI0.out | apply IsS75.alloc | apply IsS75.drewN | apply IsS75.drew | apply IsS75.set_1 | apply IsS75.set_2 | refine IsS75.far ?_ HN0_go57.out _ | refine IsS75.far ?_ NB0_264.out _ | refine IsS75.far ?_ NB0_293.out _) | exact HI0.out)⟩, ⟨by repeat (first | (with_reducible first | exact HK.out | apply KeepBut.set_ | apply keep_drewN | apply keep_drew | apply keep_alloc | refine keep_far ?_ GB57.out _ | refine keep_far ?_ GW264.out _ | refine keep_far ?_ GW293.out _) | exact HK.out)⟩, ⟨by repeat (first | (with_reducible first | exact HB.out | apply below_alloc | apply pw_below_drewN | apply below_drew1 | refine below_set ?_ (Nat.le_trans HL.out GB57.out) | refine below_set ?_ (IsS75.ge HI0.out) | refine below_set ?_ GE264.out | refine below_set ?_ GE293.out) | exact HB.out)⟩⟩
        ·rw [if_neg c56] at H
         exact absurd H (by simp)
       ·rw [if_neg c55] at H
        exact absurd H (by simp)
      ·replace c52 := Bool.eq_false_iff.mpr c52
       subst c52
       rw [if_neg (show ¬ (false = true) by decide)] at H; have H' := am H; clear H
       go_wp2
       go_meet
       case rel => exact ⟨_, (t310), (t311), (x294001_7), (x294002_38), (u294001), (u294002), H', ⟨by have := HJ7.out; have := HJ38.out; first | omega | exact Nat.le_refl _⟩, ⟨Rz HO_294001.out⟩, ⟨Rz HO_294002.out⟩, ⟨Kz BK264.out⟩, ⟨Kz BK293.out⟩, ⟨by repeat (first | (with_reducible first | exact HI0.out | apply IsS75.alloc | apply IsS75.drewN | apply IsS75.drew | apply IsS75.set_1 | apply IsS75.set_2 | refine IsS75.far ?_ NB0_264.out _ | refine IsS75.far ?_ NB0_293.out _) | exact HI0.out)⟩, ⟨by repeat (first | (with_reducible first | exact HK.out | apply KeepBut.set_ | apply keep_drewN | apply keep_drew | apply keep_alloc | refine keep_far ?_ GW264.out _ | refine keep_far ?_ GW293.out _) | exact HK.out)⟩, ⟨by repeat (first | (with_reducible first | exact HB.out | apply below_alloc | apply pw_below_drewN | apply below_drew1 | refine below_set ?_ (IsS75.ge HI0.out) | refine below_set ?_ GE264.out | refine below_set ?_ GE293.out) | exact HB.out)⟩⟩
     case rest =>
      clear HC50
      try clear c1
      try clear c2
      try clear p2
      try clear c3
      try clear c4
      try clear c5
      try clear p5
      try clear q5
      try clear hx5
      try clear hf5
      try clear p6
      try clear c7
      try clear c8
      try clear c9
      try clear c11
      try clear c13
      try clear c21
      try clear c22
      try clear c26
      try clear c29
      try clear c29b0
      try clear c29b1
      try clear c30
      try clear c30b0
      try clear c30b1
      try clear c35
      try clear c36
      try clear c41
      try clear c43
      try clear c52
      try clear c55
      try clear c55b0
      try clear c56
      try clear c56b0
      try clear p57
      try clear q57
      try clear hx57
      try clear hf57
      try clear hcz23_0
      try clear hcz23_1
      try clear hcz23_2
      try clear hcz37_0
      try clear hcz37_1
      try clear hcz37_2
      try clear hfz23_0
      try clear hfz23_1
      try clear hfz23_2
      try clear hfz37_0
      try clear hfz37_1
      try clear hfz37_2
      try clear hx57_0
      try clear p2
      try clear p57
      try clear p6
      try clear q57
      obtain ⟨kq, x1001_49, x1002_49, x294001_49, x294002_49, u294001, u294002, HA, HJ49, HO_294001, HO_294002, BK264, BK293, HI0, HK, HB⟩ := hcut; cases kq with
      | zero => exact absurd HA.out (by simp [spec_l1Cur_cuckoo.j2])
      | succ kj49 =>
       have H := HA.out; clear HA
       simp only [spec_l1Cur_cuckoo.j2] at H
       replace H := Option.bind_eq_some_iff.mp H; obtain ⟨⟨t319, t320, t321⟩, A630, H⟩ := H; (try dsimp -simprocs only at H); have A63 := am A630; clear A630
       by_cases c64 : t319 = true
       ·subst c64
        rw [if_pos rfl] at H; replace H := Option.bind_eq_some_iff.mp H; obtain ⟨⟨t322, t323, t324⟩, A650, H⟩ := H; (try dsimp -simprocs only at H); have A65 := am A650; clear A650
        simp only [Option.some.injEq, Prod.mk.injEq] at H
        obtain ⟨rfl, rfl, rfl, rfl, rfl⟩ := H
        go_wp2_with (first | ((with_reducible refine gate_callee (f := 83) rfl ?_); refine gL (some 58) Try.func83 #[.pointer (some ⟨g, 0, none⟩), .int .i64 30] ?_; (with_reducible refine (spec_l1Cur_one.calls g s0_0 x1001_49 x1002_49 30 true t320 t321 w0 _ ?side1 ?side2 A63.out).mono ?_); (case side1 => repeat (first | (with_reducible first | exact HI0.out | apply IsS75.alloc | apply IsS75.drewN | apply IsS75.drew | apply IsS75.set_1 | apply IsS75.set_2 | refine IsS75.far ?_ NB0_264.out _ | refine IsS75.far ?_ NB0_293.out _) | exact HI0.out)); (case side2 => repeat (first | (with_reducible first | exact HB.out | apply below_alloc | apply pw_below_drewN | apply below_drew1 | refine below_set ?_ (IsS75.ge HI0.out) | refine below_set ?_ GE264.out | refine below_set ?_ GE293.out) | exact HB.out)); rintro e w66 ⟨rfl, hi, hb, hk⟩; refine ⟨_, rfl, ?_⟩; have n0_ := am (Kd.R_mono (Kd.R_keep (IsS75.apart (show IsS75 w0 _ g s0_0 x1001_49 x1002_49 from by repeat (first | (with_reducible first | exact HI0.out | apply IsS75.alloc | apply IsS75.drewN | apply IsS75.drew | apply IsS75.set_1 | apply IsS75.set_2 | refine IsS75.far ?_ NB0_264.out _ | refine IsS75.far ?_ NB0_293.out _) | exact HI0.out)) (Rz HO_294001.out) (by decide)) hk (fun _ h => h.2)) (fun _ h => h.1)); have n1_ := am (Kd.R_mono (Kd.R_keep (IsS75.apart (show IsS75 w0 _ g s0_0 x1001_49 x1002_49 from by repeat (first | (with_reducible first | exact HI0.out | apply IsS75.alloc | apply IsS75.drewN | apply IsS75.drew | apply IsS75.set_1 | apply IsS75.set_2 | refine IsS75.far ?_ NB0_264.out _ | refine IsS75.far ?_ NB0_293.out _) | exact HI0.out)) (Rz HO_294002.out) (by decide)) hk (fun _ h => h.2)) (fun _ h => h.1)); have n2_ := am (KeepBut.blk hk (g' := gb264) (o := .cells #[.int .i64 0, .slice none 0 0, .slice none 0 0] 51 (0, 0)) (Kz BK264.out) NB264_0.out (by simp)); have n3_ := am (KeepBut.blk hk (g' := gb293) (o := .cells #[.int .i64 x294000_7, u294001, u294002] 51 (0, 0)) (Kz BK293.out) NB293_0.out (by simp)); have n4_ := am (KeepBut.trans (by repeat (first | (with_reducible first | exact HK.out | apply KeepBut.set_ | apply keep_drewN | apply keep_drew | apply keep_alloc | refine keep_far ?_ GW264.out _ | refine keep_far ?_ GW293.out _) | exact HK.out)) hk (.inl rfl)); have n5_ := am (hb); have n6_ := am (hi); clear HO_294001 HO_294002 BK264 BK293 HK HB HI0; revert n0_ n1_ n2_ n3_ n4_ n5_ n6_; intro HO_294001 HO_294002 BK264 BK293 HK HB HI0; (try clear hb); (try clear hb2); (try clear hk); (try clear hi)) | ((with_reducible refine gate_callee (f := 70) rfl ?_); refine gL (some 60) Try.func70 #[.pointer (some ⟨g, 0, none⟩)] ?_; (with_reducible refine (spec_l1Cur_seed9.calls g s0_0 t320 t321 t322 t323 t324 w0 _ ?side1 ?side2 A65.out).mono ?_); (case side1 => repeat (first | (with_reducible first | exact HI0.out | apply IsS75.alloc | apply IsS75.drewN | apply IsS75.drew | apply IsS75.set_1 | apply IsS75.set_2 | refine IsS75.far ?_ NB0_264.out _ | refine IsS75.far ?_ NB0_293.out _) | exact HI0.out)); (case side2 => repeat (first | (with_reducible first | exact HB.out | apply below_alloc | apply pw_below_drewN | apply below_drew1 | refine below_set ?_ (IsS75.ge HI0.out) | refine below_set ?_ GE264.out | refine below_set ?_ GE293.out) | exact HB.out)); rintro e w67 ⟨rfl, hi, hb, hk⟩; refine ⟨_, rfl, ?_⟩; have n0_ := am (Kd.R_mono (Kd.R_keep (IsS75.apart (show IsS75 w0 _ g s0_0 t320 t321 from by repeat (first | (with_reducible first | exact HI0.out | apply IsS75.alloc | apply IsS75.drewN | apply IsS75.drew | apply IsS75.set_1 | apply IsS75.set_2 | refine IsS75.far ?_ NB0_264.out _ | refine IsS75.far ?_ NB0_293.out _) | exact HI0.out)) (Rz HO_294001.out) (by decide)) hk (fun _ h => h.2)) (fun _ h => h.1)); have n1_ := am (Kd.R_mono (Kd.R_keep (IsS75.apart (show IsS75 w0 _ g s0_0 t320 t321 from by repeat (first | (with_reducible first | exact HI0.out | apply IsS75.alloc | apply IsS75.drewN | apply IsS75.drew | apply IsS75.set_1 | apply IsS75.set_2 | refine IsS75.far ?_ NB0_264.out _ | refine IsS75.far ?_ NB0_293.out _) | exact HI0.out)) (Rz HO_294002.out) (by decide)) hk (fun _ h => h.2)) (fun _ h => h.1)); have n2_ := am (KeepBut.blk hk (g' := gb264) (o := .cells #[.int .i64 0, .slice none 0 0, .slice none 0 0] 51 (0, 0)) (Kz BK264.out) NB264_0.out (by simp)); have n3_ := am (KeepBut.blk hk (g' := gb293) (o := .cells #[.int .i64 x294000_7, u294001, u294002] 51 (0, 0)) (Kz BK293.out) NB293_0.out (by simp)); have n4_ := am (KeepBut.trans (by repeat (first | (with_reducible first | exact HK.out | apply KeepBut.set_ | apply keep_drewN | apply keep_drew | apply keep_alloc | refine keep_far ?_ GW264.out _ | refine keep_far ?_ GW293.out _) | exact HK.out)) hk (.inl rfl)); have n5_ := am (hb); have n6_ := am (hi); clear HO_294001 HO_294002 BK264 BK293 HK HB HI0; revert n0_ n1_ n2_ n3_ n4_ n5_ n6_; intro HO_294001 HO_294002 BK264 BK293 HK HB HI0; (try clear hb); (try clear hb2); (try clear hk); (try clear hi); have hnb68 := NB293_264.out; have hnc68 := NB264_293.out; have hnb69 := NB293_0.out; have hnc69 := NB0_293.out; obtain ⟨hcz70_0, hcz70_1, hcz70_2, hfz70_0, hfz70_1, hfz70_2⟩ := cf3 (w := w67) BK293; have hnb71 := NB264_0.out; have hnc71 := NB0_264.out; obtain ⟨hcz72_0, hcz72_1, hcz72_2, hfz72_0, hfz72_1, hfz72_2⟩ := cf3 (w := w67) BK264; obtain ⟨Ao73, co73, eo73⟩ := Kd.R_slice HO_294001.out; subst eo73; obtain ⟨Ao74, co74, eo74⟩ := Kd.R_slice HO_294002.out; subst eo74))
        refine bodyPost_ret (results_cell_row rfl _ _ gb264 51 #[.int .i64 t322, .slice Ao73 x294001_49.length co73, .slice Ao74 x294002_49.length co74] (0, 0) _ rfl (by (with_reducible repeat (first | refine blk_drewN ?_ _ | refine blk_drew ?_ | refine blk_alloc ?_ _)); refine blk_put (cs := #[.int .i64 t322, .slice Ao73 x294001_49.length co73, .slice none 0 0]) ?_ 2 _ rfl; (with_reducible repeat (first | refine blk_drewN ?_ _ | refine blk_drew ?_ | refine blk_alloc ?_ _)); refine blk_put (cs := #[.int .i64 t322, .slice none 0 0, .slice none 0 0]) ?_ 1 _ rfl; (with_reducible repeat (first | refine blk_drewN ?_ _ | refine blk_drew ?_ | refine blk_alloc ?_ _)); refine blk_put (cs := #[.int .i64 0, .slice none 0 0, .slice none 0 0]) ?_ 0 _ rfl; (with_reducible repeat (first | refine blk_drewN ?_ _ | refine blk_drew ?_ | refine blk_alloc ?_ _)); refine blk_far ?_ NB264_293.out _; exact Kz BK264.out) Try.underlying51 rfl (by kernel_rfl)) rfl ?_; exact ⟨_, _, eZ, Rz (Kd.R_mono (Kd.R_far (p := ⟨gb264, 2, none⟩) (Kd.R_far (p := ⟨gb264, 1, none⟩) (Kd.R_far (p := ⟨gb264, 0, none⟩) (Kd.R_far (p := ⟨gb293, 0, none⟩) (Kd.R_types (Kd.R_types HO_294001.out BK293.out (by decide)) BK264.out (by decide)) (fun _ hk => hk.1.2) (.int .i64 t322)) (fun _ hk => hk.2) (.int .i64 t322)) (fun _ hk => hk.2) (.slice Ao73 x294001_49.length co73)) (fun _ hk => hk.2) (.slice Ao74 x294002_49.length co74)) (fun _ hk => hk.1.1)), Rz (Kd.R_mono (Kd.R_far (p := ⟨gb264, 2, none⟩) (Kd.R_far (p := ⟨gb264, 1, none⟩) (Kd.R_far (p := ⟨gb264, 0, none⟩) (Kd.R_far (p := ⟨gb293, 0, none⟩) (Kd.R_types (Kd.R_types HO_294002.out BK293.out (by decide)) BK264.out (by decide)) (fun _ hk => hk.1.2) (.int .i64 t322)) (fun _ hk => hk.2) (.int .i64 t322)) (fun _ hk => hk.2) (.slice Ao73 x294001_49.length co73)) (fun _ hk => hk.2) (.slice Ao74 x294002_49.length co74)) (fun _ hk => hk.1.1)), by repeat (first | (with_reducible first | exact HI0.out | apply IsS75.alloc | apply IsS75.drewN | apply IsS75.drew | apply IsS75.set_1 | apply IsS75.set_2 | refine IsS75.far ?_ NB0_264.out _ | refine IsS75.far ?_ NB0_293.out _) | exact HI0.out), by repeat (first | (with_reducible first | exact HB.out | apply below_alloc | apply pw_below_drewN | apply below_drew1 | refine below_set ?_ (IsS75.ge HI0.out) | refine below_set ?_ GE264.out | refine below_set ?_ GE293.out) | exact HB.out), by repeat (first | (with_reducible first | exact HK.out | apply KeepBut.set_ | apply keep_drewN | apply keep_drew | apply keep_alloc | refine keep_far ?_ GW264.out _ | refine keep_far ?_ GW293.out _) | exact HK.out)⟩
       ·replace c64 := Bool.eq_false_iff.mpr c64
        subst c64
        rw [if_neg (show ¬ (false = true) by decide)] at H
        simp only [Option.some.injEq, Prod.mk.injEq] at H
        obtain ⟨rfl, rfl, rfl, rfl, rfl⟩ := H
        go_wp2_with (first | ((with_reducible refine gate_callee (f := 83) rfl ?_); refine gL (some 58) Try.func83 #[.pointer (some ⟨g, 0, none⟩), .int .i64 30] ?_; (with_reducible refine (spec_l1Cur_one.calls g s0_0 x1001_49 x1002_49 30 false t320 t321 w0 _ ?side1 ?side2 A63.out).mono ?_); (case side1 => repeat (first | (with_reducible first | exact HI0.out | apply IsS75.alloc | apply IsS75.drewN | apply IsS75.drew | apply IsS75.set_1 | apply IsS75.set_2 | refine IsS75.far ?_ NB0_264.out _ | refine IsS75.far ?_ NB0_293.out _) | exact HI0.out)); (case side2 => repeat (first | (with_reducible first | exact HB.out | apply below_alloc | apply pw_below_drewN | apply below_drew1 | refine below_set ?_ (IsS75.ge HI0.out) | refine below_set ?_ GE264.out | refine below_set ?_ GE293.out) | exact HB.out)); rintro e w75 ⟨rfl, hi, hb, hk⟩; refine ⟨_, rfl, ?_⟩; have n0_ := am (Kd.R_mono (Kd.R_keep (IsS75.apart (show IsS75 w0 _ g s0_0 x1001_49 x1002_49 from by repeat (first | (with_reducible first | exact HI0.out | apply IsS75.alloc | apply IsS75.drewN | apply IsS75.drew | apply IsS75.set_1 | apply IsS75.set_2 | refine IsS75.far ?_ NB0_264.out _ | refine IsS75.far ?_ NB0_293.out _) | exact HI0.out)) (Rz HO_294001.out) (by decide)) hk (fun _ h => h.2)) (fun _ h => h.1)); have n1_ := am (Kd.R_mono (Kd.R_keep (IsS75.apart (show IsS75 w0 _ g s0_0 x1001_49 x1002_49 from by repeat (first | (with_reducible first | exact HI0.out | apply IsS75.alloc | apply IsS75.drewN | apply IsS75.drew | apply IsS75.set_1 | apply IsS75.set_2 | refine IsS75.far ?_ NB0_264.out _ | refine IsS75.far ?_ NB0_293.out _) | exact HI0.out)) (Rz HO_294002.out) (by decide)) hk (fun _ h => h.2)) (fun _ h => h.1)); have n2_ := am (KeepBut.blk hk (g' := gb264) (o := .cells #[.int .i64 0, .slice none 0 0, .slice none 0 0] 51 (0, 0)) (Kz BK264.out) NB264_0.out (by simp)); have n3_ := am (KeepBut.blk hk (g' := gb293) (o := .cells #[.int .i64 x294000_7, u294001, u294002] 51 (0, 0)) (Kz BK293.out) NB293_0.out (by simp)); have n4_ := am (KeepBut.trans (by repeat (first | (with_reducible first | exact HK.out | apply KeepBut.set_ | apply keep_drewN | apply keep_drew | apply keep_alloc | refine keep_far ?_ GW264.out _ | refine keep_far ?_ GW293.out _) | exact HK.out)) hk (.inl rfl)); have n5_ := am (hb); have n6_ := am (hi); clear HO_294001 HO_294002 BK264 BK293 HK HB HI0; revert n0_ n1_ n2_ n3_ n4_ n5_ n6_; intro HO_294001 HO_294002 BK264 BK293 HK HB HI0; (try clear hb); (try clear hb2); (try clear hk); (try clear hi); have hnb76 := NB293_264.out; have hnc76 := NB264_293.out; have hnb77 := NB293_0.out; have hnc77 := NB0_293.out; obtain ⟨hcz78_0, hcz78_1, hcz78_2, hfz78_0, hfz78_1, hfz78_2⟩ := cf3 (w := w75) BK293; have hnb79 := NB264_0.out; have hnc79 := NB0_264.out; obtain ⟨hcz80_0, hcz80_1, hcz80_2, hfz80_0, hfz80_1, hfz80_2⟩ := cf3 (w := w75) BK264; obtain ⟨Ao81, co81, eo81⟩ := Kd.R_slice HO_294001.out; subst eo81; obtain ⟨Ao82, co82, eo82⟩ := Kd.R_slice HO_294002.out; subst eo82))
        refine bodyPost_ret (results_cell_row rfl _ _ gb264 51 #[.int .i64 x294000_7, .slice Ao81 x294001_49.length co81, .slice Ao82 x294002_49.length co82] (0, 0) _ rfl (by (with_reducible repeat (first | refine blk_drewN ?_ _ | refine blk_drew ?_ | refine blk_alloc ?_ _)); refine blk_put (cs := #[.int .i64 x294000_7, .slice Ao81 x294001_49.length co81, .slice none 0 0]) ?_ 2 _ rfl; (with_reducible repeat (first | refine blk_drewN ?_ _ | refine blk_drew ?_ | refine blk_alloc ?_ _)); refine blk_put (cs := #[.int .i64 x294000_7, .slice none 0 0, .slice none 0 0]) ?_ 1 _ rfl; (with_reducible repeat (first | refine blk_drewN ?_ _ | refine blk_drew ?_ | refine blk_alloc ?_ _)); refine blk_put (cs := #[.int .i64 0, .slice none 0 0, .slice none 0 0]) ?_ 0 _ rfl; exact Kz BK264.out) Try.underlying51 rfl (by kernel_rfl)) rfl ?_; exact ⟨_, _, eZ, Rz (Kd.R_mono (Kd.R_far (p := ⟨gb264, 2, none⟩) (Kd.R_far (p := ⟨gb264, 1, none⟩) (Kd.R_far (p := ⟨gb264, 0, none⟩) (Kd.R_types HO_294001.out BK264.out (by decide)) (fun _ hk => hk.2) (.int .i64 x294000_7)) (fun _ hk => hk.2) (.slice Ao81 x294001_49.length co81)) (fun _ hk => hk.2) (.slice Ao82 x294002_49.length co82)) (fun _ hk => hk.1)), Rz (Kd.R_mono (Kd.R_far (p := ⟨gb264, 2, none⟩) (Kd.R_far (p := ⟨gb264, 1, none⟩) (Kd.R_far (p := ⟨gb264, 0, none⟩) (Kd.R_types HO_294002.out BK264.out (by decide)) (fun _ hk => hk.2) (.int .i64 x294000_7)) (fun _ hk => hk.2) (.slice Ao81 x294001_49.length co81)) (fun _ hk => hk.2) (.slice Ao82 x294002_49.length co82)) (fun _ hk => hk.1)), by repeat (first | (with_reducible first | exact HI0.out | apply IsS75.alloc | apply IsS75.drewN | apply IsS75.drew | apply IsS75.set_1 | apply IsS75.set_2 | refine IsS75.far ?_ NB0_264.out _ | refine IsS75.far ?_ NB0_293.out _) | exact HI0.out), by repeat (first | (with_reducible first | exact HB.out | apply below_alloc | apply pw_below_drewN | apply below_drew1 | refine below_set ?_ (IsS75.ge HI0.out) | refine below_set ?_ GE264.out | refine below_set ?_ GE293.out) | exact HB.out), by repeat (first | (with_reducible first | exact HK.out | apply KeepBut.set_ | apply keep_drewN | apply keep_drew | apply keep_alloc | refine keep_far ?_ GW264.out _ | refine keep_far ?_ GW293.out _) | exact HK.out)⟩

def spec_l1OwnS.f (l0 : List ByteArray) : Option (List ByteArray) := (some (([] : List ByteArray) : List ByteArray)).bind fun y325 => (if y325.length + l0.length < 8796093022208 then (some (y325 ++ l0)) else (none))
theorem spec_l1OwnS.calls (A0 : Option Addr) (c0 : Nat) (l0 : List ByteArray) (r : List ByteArray) (w : World) (hr0 : Kd.C Kd.string w A0 l0.length l0) (hc0 : l0.length ≤ c0) (h : spec_l1OwnS.f l0 = some r) :
  Calls Try.prog 105 #[.slice A0 l0.length c0] w fun e w' => ∃ v0_ : Value, e = .returned (v0_) ∧ Kd.R Kd.string 9 w' w.heap.size (fun _ => True) v0_ r ∧ Below w.heap.size w w' := by
 have HR0 := am hr0; have HC0 := am hc0; clear hr0 hc0; have HB := am (Below.refl w.heap.size w); have H : ((some (([] : List ByteArray) : List ByteArray)).bind fun y325 => (if y325.length + l0.length < 8796093022208 then (some (y325 ++ l0)) else (none))) = some r := h; clear h; obtain ⟨y325, hy325⟩ : ∃ y_ : List ByteArray, y_ = (([] : List ByteArray)) := ⟨_, rfl⟩
 replace H : (if y325.length + l0.length < 8796093022208 then (some (y325 ++ l0)) else (none)) = some r := by first | (rw [hy325]; with_reducible exact H) | (have H2_ := (Option.bind_some _ _).symm.trans H; rw [hy325]; with_reducible exact H2_) | (have H2_ := (Option.bind_some _ _).symm.trans H; with_reducible exact H2_) | with_reducible exact H | (rw [hy325]; exact H) | exact H
 have Ny325 := am hy325; clear hy325
 by_cases c2 : y325.length + l0.length < 8796093022208
 ·rw [if_pos c2] at H
  have LMc2 := am c2; clear c2; obtain ⟨y328, hy328⟩ : ∃ y_ : List ByteArray, y_ = (y325 ++ l0) := ⟨_, rfl⟩
  replace H : (some y328) = some r := by first | (rw [hy328]; with_reducible exact H) | (have H2_ := (Option.bind_some _ _).symm.trans H; rw [hy328]; with_reducible exact H2_) | (have H2_ := (Option.bind_some _ _).symm.trans H; with_reducible exact H2_) | with_reducible exact H | (rw [hy328]; exact H) | exact H
  have Ny328 := am hy328; clear hy328; obtain rfl := Option.some.inj H
  go_enter Try.func105, Try.ntmps105
  go_wp2_with (first | ((with_reducible refine gate_dst (N := 3) rfl ?_); refine Kd.R_lit Kd.string _ 9 ?hg (N := 3) ?hd (xs := ([] : List ByteArray)) (inner := []) (ok := fun _ => True) (okp := fun _ => True) ?hr ?hp (fun _ hk => hk) trivial (Below.refl _ _) (Nat.le_refl _) (by simp) ?_; (case hd => rfl); (case hg => rfl); (case hr => first | (go_simp; done) | (go_simp; rfl)); (case hp => exact (Reps.none _ _)); intro v326 w3 ho4 hb hg_ hnew_; clear hg_ hnew_; (first | rw [← Ny325.out] at ho4 | (simp only [Int.reduceToNat] at ho4; rw [← Ny325.out] at ho4)); have n0_ := Rl ho4 HB; have n1_ := Bb HB hb; clear HB; revert n0_ n1_; intro HO327 HB; clear hb ho4) | ((with_reducible refine gate_builtin (b := .append) (xs := #[.tmp 3, .tmp 4]) rfl ?_); at_builtin; refine Kd.R_append_rows Kd.string (w0 := w) w.heap.size rfl (.tmp 3) (.tmp 4) 24 9 (.string ⟨#[]⟩) 16 rfl Try.underlying24 info9 rfl (by decide) (by omega) v326 y325 l0 _ _ _ (fun _ => True) (fun _ => False) rfl rfl ?aO ?aR (fun _ _ h => h) (fun _ h => h.elim) ?aF ?aB ?aS ?aL ?_; (case aR => repeat (first | exact (Kd.C_below HR0.out HB.out) | (with_reducible refine Kd.C_alloc ?_ _) | (with_reducible refine Kd.C_drewN ?_ _) | (with_reducible refine Kd.C_drew ?_))); (case aB => exact (Bz HB.out)); (case aF => exact (fun _ _ => trivial)); (case aO => exact (Rz HO327.out)); (case aS => exact (below_size (Bz HB.out))); (case aL => have := LMc2.out; omega); intro v329 w5 ho hb hg hat; rw [← Ny328.out] at ho; have n0_ := am (hb); have n1_ := am (ho); clear HB HO327; revert n0_ n1_; intro HB HO330; clear ho hb hg hat))
  go_ret
  exact ⟨_, eZ, Rz HO330.out, Bz HB.out⟩
 ·rw [if_neg c2] at H
  exact absurd H (by simp)

def spec_cuAll.l0 : Nat → List ByteArray → List ByteArray → Int → Int → Option (List ByteArray)
 | 0, _, _, _, _ => none
 | k + 1, x3, x11, x12, x13 => if x13 < x12 then (if 0 ≤ x13 then (if x13 < (x11.length : Int) then (if (rdOf ByteArray.empty x11 x13).toList = ([] : List UInt8) then (spec_cuAll.l0 k x3 x11 x12 (wrap64 (x13 + 1))) else ((spec_l1PutS.f k x3 (rdOf ByteArray.empty x11 x13)).bind fun t339 => (spec_cuAll.l0 k t339 x11 x12 (wrap64 (x13 + 1))))) else (none)) else (none)) else (some x3)
def spec_cuAll.f (k : Nat) (a0_0 : Int) (l0_1 : List ByteArray) (l0_2 : List ByteArray) : Option (List ByteArray) := (spec_l1OwnS.f l0_1).bind fun t332 => (if t332.length + l0_2.length < 8796093022208 then ((some (t332 ++ l0_2 : List ByteArray)).bind fun y335 => (spec_cuAll.l0 k ([] : List ByteArray) y335 (y335.length : Int) 0)) else (none))
def spec_cuAll.T2 : Bool × List (List Nat × List Nat) := (true, [([], []), ([0], [0]), ([1], [1]), ([], []), ([3], [3]), ([2, 4, 2], [2, 4]), ([5], [5]), ([], [])])
def spec_cuAll.B2 : List Nat := [0, 1, 3, 0, 8, 31, 63, 0]
theorem spec_cuAll.tab2 : rtab .any (opsOf Try.f96 2) = spec_cuAll.T2 := by kernel_rfl
theorem spec_cuAll.bits2 : waitsOk spec_cuAll.T2.2 spec_cuAll.B2 = true := by kernel_rfl
theorem spec_cuAll.calls (k : Nat) (a0_0 : Int) (A0_1 : Option Addr) (c0_1 : Nat) (l0_1 : List ByteArray) (A0_2 : Option Addr) (c0_2 : Nat) (l0_2 : List ByteArray) (r : List ByteArray) (w : World) (hr0_1 : Kd.C Kd.string w A0_1 l0_1.length l0_1) (hc0_1 : l0_1.length ≤ c0_1) (hr0_2 : Kd.C Kd.string w A0_2 l0_2.length l0_2) (hc0_2 : l0_2.length ≤ c0_2) (h : spec_cuAll.f k a0_0 l0_1 l0_2 = some r) :
  Calls Try.prog 96 #[.agg #[.int .i64 a0_0, .slice A0_1 l0_1.length c0_1, .slice A0_2 l0_2.length c0_2]] w fun e w' => ∃ v0_ : Value, e = .returned (v0_) ∧ Kd.R Kd.string 9 w' w.heap.size (fun _ => True) v0_ r ∧ Below w.heap.size w w' := by
 have hu51 := Try.underlying51; have HR0_1 := am hr0_1; have HC0_1 := am hc0_1; clear hr0_1 hc0_1; have HR0_2 := am hr0_2; have HC0_2 := am hc0_2; clear hr0_2 hc0_2; have HB := am (Below.refl w.heap.size w); have H : ((spec_l1OwnS.f l0_1).bind fun t332 => (if t332.length + l0_2.length < 8796093022208 then ((some (t332 ++ l0_2 : List ByteArray)).bind fun y335 => (spec_cuAll.l0 k ([] : List ByteArray) y335 (y335.length : Int) 0)) else (none))) = some r := h; clear h; replace H := Option.bind_eq_some_iff.mp H; obtain ⟨t332, A20, H⟩ := H; (try dsimp -simprocs only at H); have A2 := am A20; clear A20
 by_cases c3 : t332.length + l0_2.length < 8796093022208
 ·rw [if_pos c3] at H
  have LMc3 := am c3; clear c3; obtain ⟨y335, hy335⟩ : ∃ y_ : List ByteArray, y_ = (t332 ++ l0_2) := ⟨_, rfl⟩
  replace H : (spec_cuAll.l0 k ([] : List ByteArray) y335 (y335.length : Int) 0) = some r := by first | (rw [hy335]; with_reducible exact H) | (have H2_ := (Option.bind_some _ _).symm.trans H; rw [hy335]; with_reducible exact H2_) | (have H2_ := (Option.bind_some _ _).symm.trans H; with_reducible exact H2_) | with_reducible exact H | (rw [hy335]; exact H) | exact H
  have Ny335 := am hy335; clear hy335; have H' := am H; clear H
  go_enter Try.func96, Try.ntmps96
  try go_wp2_with (first | ((with_reducible refine gate_dst (N := 1) rfl ?_); refine bE 1 #[.int .i64 a0_0, .slice A0_1 l0_1.length c0_1, .slice A0_2 l0_2.length c0_2] 51 ?_; intro gb331 hg w4 hbox hb; have n0_ := Bb HB hb; have n1_ := am (hbox); have n2_ := Gl HB hg; have n3_ := Gl HB hg; clear HB; revert n0_ n1_ n2_ n3_; intro HB BK331 GW331 GE331; clear hb hbox hg))
  have n0_ := am (blk_drew BK331.out); have n1_ := am (below_drew1 HB.out); clear BK331 HB; revert n0_ n1_; intro BK331 HB; refine start_ (n := 8) (S := fun w' => w'.cell? ⟨gb331, 0, none⟩ = some (.int .i64 a0_0) ∧ w'.cell? ⟨gb331, 1, none⟩ = some (.slice A0_1 l0_1.length c0_1) ∧ w'.cell? ⟨gb331, 2, none⟩ = some (.slice A0_2 l0_2.length c0_2)) (ds := []) (bA 8 0) (by kernel_rfl) rfl rfl ⟨cz BK331 0, cz BK331 1, cz BK331 2⟩ (fun hHeld => ?_); refine with_tabW spec_cuAll.tab2 spec_cuAll.bits2 (fun HT_ HW_ => ?_); generalize w4.drew = w5 at BK331 HB hHeld ⊢; refine pZ 0 (some 6) (bA 8 1) HT_.out ?_; refine pZ 3 (some 9) (bA 8 9) HT_.out ?_; refine pZ 7 (some 13) (bA 8 137) HT_.out ?_; refine tZ3 1 (some 7) (bA 8 139) HT_.out HW_.out hHeld ?_; refine tZ3 4 (some 10) (bA 8 155) HT_.out HW_.out hHeld ?_; refine oZ 2 (some 8) (bA 8 159) HT_.out (fun K hK => ?_); refine gZ Try.func105 #[.slice A0_1 l0_1.length c0_1] ?_
  with_reducible refine (spec_l1OwnS.calls _ _ l0_1 t332 _ ?side1 ?side2 A2.out).mono ?_
  (case side1 => exact Cz (Kd.C_below HR0_1.out HB.out))
  (case side2 => exact HC0_1.out)
  rintro e w6 ⟨v333, rfl, ho0, hb⟩; refine ⟨_, rfl, ?_⟩; have n0_ := Rm ho0 HB; have n1_ := Kb BK331 hb; have n2_ := Bc HB hb; clear BK331 HB; revert n0_ n1_ n2_; intro HO334 BK331 HB
  (try clear hb)
  (try clear hb2)
  (try clear hk)
  (try clear hi)
  (try clear ho0)
  refine hK.out _ _ ⟨cz BK331 0, cz BK331 1, cz BK331 2⟩ (fun hHeld => ?_); clear hK K; refine norm_ (a' := ?_) ?_ ?_; rotate_left; show Act.put _ (some 8) _ = _; simp only [aP, i64_w, i32_w]; rfl; refine oZ 5 (some 11) (bA 8 191) HT_.out (fun K hK => ?_); refine Kd.R_append_rows_step Kd.string (w0 := w) w.heap.size (by rfl) (.tmp 8) (.tmp 10) 24 9 (.string ⟨#[]⟩) 16 rfl Try.underlying24 info9 rfl (by decide) (by omega) v333 t332 l0_2 _ _ _ (fun _ => True) (fun _ => False) rfl rfl ?aO ?aR (fun _ _ h => h) (fun _ h => h.elim) ?aF ?aB ?aS ?aL ?_
  (case aR => repeat (first | exact (Kd.C_below HR0_2.out HB.out) | (with_reducible refine Kd.C_alloc ?_ _) | (with_reducible refine Kd.C_drewN ?_ _) | (with_reducible refine Kd.C_drew ?_)))
  (case aB => exact (Bq))
  (case aF => exact (fun _ _ => trivial))
  (case aO => exact (Rz HO334.out))
  (case aS => exact (below_size (w := w) (Bq)))
  (case aL => have := LMc3.out; omega)
  intro v336 w7 ho hb hg hat; rw [← Ny335.out] at ho; have n0_ := am (blk_grown (g := gb331) (o := .cells #[.int .i64 a0_0, .slice A0_1 l0_1.length c0_1, .slice A0_2 l0_2.length c0_2] 51 (0, 0)) (Kz BK331.out) hg (Kd.R_ne HO334.out BK331.out (by decide))); have n1_ := am (hb); have n2_ := am (ho); clear BK331 HB HO334; revert n0_ n1_ n2_; intro BK331 HB HO337; clear ho hb hg hat; obtain ⟨Ao8, co8, eo8⟩ := Kd.R_slice HO337.out
  (first | subst eo8 | (injection eo8 with f1_ f2_ f3_; have f4_ := f1_.symm; have f5_ := f3_.symm; clear f1_ f2_ f3_; subst f4_; subst f5_))
  refine hK.out _ _ ⟨cz BK331 0, cz BK331 1, cz BK331 2⟩ (fun hHeld => ?_); clear hK K; refine norm_ (a' := ?_) ?_ ?_; rotate_left; show Act.put _ (some 11) _ = _; simp only [aP, i64_w, i32_w]; rfl; refine pZ 6 (some 12) (bA 8 255) HT_.out ?_; refine done_ (done_of HT_.out (by kernel_rfl)) ?_
  try go_wp2
  go_loopg [3, 13] k (fun kq v3 v13 w' => ∃ (x3_1 : List ByteArray) (x13_1 : Int), v13 = .int .i64 x13_1 ∧ Aside0 (spec_cuAll.l0 kq x3_1 y335 (y335.length : Int) x13_1 = some r) ∧ Aside0 (kq ≤ k) ∧ Aside0 (Kd.R Kd.string 9 w' w.heap.size (fun k_ => some k_ ≠ ((.slice Ao8 y335.length co8) : Value).ownBlock) v3 x3_1) ∧ Aside0 (Kd.R Kd.string 9 w' w.heap.size (fun k_ => some k_ ≠ (v3 : Value).ownBlock) (.slice Ao8 y335.length co8) y335) ∧ Aside0 (w'.heap[gb331]? = some (.cells #[.int .i64 a0_0, (.slice A0_1 l0_1.length c0_1), (.slice A0_2 l0_2.length c0_2)] 51 (0, 0))) ∧ Aside0 (Below w.heap.size w w'))
  case atStart => exact ⟨(([] : List ByteArray)), (0), wZ, H', ⟨Nat.le_refl _⟩, ⟨nZ⟩, ⟨Rz (Kd.R_mono HO337.out (fun _ hk => (by simp [Value.ownBlock])))⟩, ⟨Kz BK331.out⟩, ⟨Bq⟩⟩
  case round =>
   clear H'
   try clear c1
   try clear p2
   try clear c3
   obtain ⟨x3_1, x13_1, rfl, HA, HK1, HO_3, HO_11, BK331, HB⟩ := hrel; cases gk with
   | zero => exact absurd HA.out (by simp [spec_cuAll.l0])
   | succ k1 =>
    have H := HA.out; clear HA
    simp only [spec_cuAll.l0] at H
    by_cases c9 : x13_1 < (y335.length : Int)
    ·rw [if_pos c9] at H
     have c9b0 : decide (x13_1 < (y335.length : Int)) = true := decide_eq_true c9; clear c9
     by_cases c10 : 0 ≤ x13_1
     ·rw [if_pos c10] at H
      have c10b0 : decide (0 ≤ x13_1) = true := decide_eq_true c10; clear c10
      by_cases c11 : x13_1 < (y335.length : Int)
      ·rw [if_pos c11] at H
       have c11b0 : decide (x13_1 < (y335.length : Int)) = true := decide_eq_true c11; clear c11
       by_cases c12 : (rdOf ByteArray.empty y335 x13_1).toList = ([] : List UInt8)
       ·rw [if_pos c12] at H
        have c12b0 : ((rdOf ByteArray.empty y335 x13_1).toList == ([] : List UInt8)) = true := beq_iff_eq.mpr c12; have c12b1 : ((rdOf ByteArray.empty y335 x13_1).toList != ([] : List UInt8)) = false := bne_eq_false_iff_eq.mpr c12; clear c12; have H' := am H; clear H; obtain ⟨ad338, e338, hx338_0⟩ := Kd.at_string (Kd.R_reads' HO_11.out).2.2 x13_1 dT dT; cases e338; have p338 := eT (0 ≤ (x13_1 : Int)); have q338 := eT (x13_1 < (y335.length : Int))
        go_wp2
        go_roundg k1
        case measure => have := HK1.out; omega
        case rel => exact ⟨(x3_1), (wrap64 (x13_1 + 1)), wZ, H', ⟨by have := HK1.out; omega⟩, ⟨Rz HO_3.out⟩, ⟨Rz HO_11.out⟩, ⟨Kz BK331.out⟩, ⟨Bq⟩⟩
       ·rw [if_neg c12] at H
        have c12b0 : ((rdOf ByteArray.empty y335 x13_1).toList == ([] : List UInt8)) = false := beq_eq_false_iff_ne.mpr c12; have c12b1 : ((rdOf ByteArray.empty y335 x13_1).toList != ([] : List UInt8)) = true := bne_iff_ne.mpr c12; replace H := Option.bind_eq_some_iff.mp H; obtain ⟨t339, A130, H⟩ := H; (try dsimp -simprocs only at H); have A13 := am A130; clear A130; have H' := am H; clear H; obtain ⟨ad338, e338, hx338_0⟩ := Kd.at_string (Kd.R_reads' HO_11.out).2.2 x13_1 dT dT; cases e338; have p338 := eT (0 ≤ (x13_1 : Int)); have q338 := eT (x13_1 < (y335.length : Int)); obtain ⟨Ao14, co14, eo14⟩ := Kd.R_slice HO_3.out; subst eo14
        go_wp2_with (first | ((with_reducible refine gate_callee (f := 136) rfl ?_); refine gL (some 21) Try.func136 #[.slice Ao14 x3_1.length co14, .string (rdOf ByteArray.empty y335 x13_1)] ?_; (with_reducible refine (spec_l1PutS.calls k1 (fun k_ => some k_ = (.slice Ao14 x3_1.length co14 : Value).ownBlock) (.slice Ao14 x3_1.length co14) x3_1 (rdOf ByteArray.empty y335 x13_1) t339 w _ ?side1 ?side2 A13.out).mono ?_); (case side1 => repeat (first | (with_reducible first | exact HB.out | apply below_alloc | apply pw_below_drewN | apply below_drew1 | refine below_set ?_ GE331.out) | exact HB.out)); (case side2 => exact Kd.R_tight rfl HO_3.out); rintro e w15 ⟨v340, rfl, ho0, hb, hkp⟩; refine ⟨_, rfl, ?_⟩; have n0_ := am (Kd.R_mono (ok' := fun k_ => some k_ ≠ (v340 : Value).ownBlock) (Kd.R_keptB (HO_11.out) hkp (fun k_ hk_ hs_ => (hk_) hs_)) (fun k_ hk_ => fun e_ => Or.elim (ho0.1 k_ e_.symm) (fun hs_ => hk_.2.1 hs_) (fun hn_ => Nat.not_le.2 hk_.2.2 hn_))); have n1_ := am (blk_kept (Kz BK331.out) hkp (fun hs_ => (fun e_ => (Kd.R_ne HO_3.out BK331.out (by decide)) e_) hs_)); have n2_ := am (Kd.R_mono (ok' := fun k_ => some k_ ≠ (.slice (some ad338) y335.length co8 : Value).ownBlock) ho0 (fun k_ hk_ => Or.elim hk_ (fun hs_ => fun e_ => (((HO_11.out).1 k_ e_.symm)) hs_) (fun hn_ => (Kd.fresh' (Kd.R_lt (Rz HO_11.out)) k_ hn_)))); have n3_ := am (hb); clear HO_11 BK331 HB HO_3; revert n0_ n1_ n2_ n3_; intro HO_11 BK331 HO341 HB; (try clear hb); (try clear hkp); (try clear ho0)))
        go_roundg k1
        case measure => have := HK1.out; omega
        case rel => exact ⟨(t339), (wrap64 (x13_1 + 1)), wZ, H', ⟨by have := HK1.out; omega⟩, ⟨Rz HO341.out⟩, ⟨Rz HO_11.out⟩, ⟨Kz BK331.out⟩, ⟨Bq⟩⟩
      ·rw [if_neg c11] at H
       exact absurd H (by simp)
     ·rw [if_neg c10] at H
      exact absurd H (by simp)
    ·rw [if_neg c9] at H
     have c9b0 : decide (x13_1 < (y335.length : Int)) = false := decide_eq_false c9; clear c9; obtain rfl := Option.some.inj H
     go_wp2
     go_ret
     exact ⟨_, eZ, Rz (Kd.R_mono HO_3.out (fun _ hk => trivial)), Bq⟩
 ·rw [if_neg c3] at H
  exact absurd H (by simp)

def spec_l1Has.l0 : Nat → Int → List Int → Int → Int → Option (Bool)
 | 0, _, _, _, _ => none
 | k + 1, x1, x7, x8, x9 => if x9 < x8 then (if 0 ≤ x9 then (if x9 < (x7.length : Int) then (if (rd x7 x9) = x1 then (some true) else (spec_l1Has.l0 k x1 x7 x8 (wrap64 (x9 + 1)))) else (none)) else (none)) else (some false)
def spec_l1Has.f (k : Nat) (l0 : List Int) (a1 : Int) : Option (Bool) := spec_l1Has.l0 k a1 l0 (l0.length : Int) 0
theorem spec_l1Has.calls (k : Nat) (A0 : Option Addr) (c0 : Nat) (l0 : List Int) (a1 : Int) (r : Bool) (w : World) (hr0 : Kd.C (Kd.int .i64) w A0 l0.length l0) (hc0 : l0.length ≤ c0) (h : spec_l1Has.f k l0 a1 = some r) :
  Calls Try.prog 82 #[.slice A0 l0.length c0, .int .i64 a1] w fun e w' => e = .returned (.bool r) ∧ Drawn0 w w' := by
 have HR0 := am hr0; have HC0 := am hc0; clear hr0 hc0; have H : (spec_l1Has.l0 k a1 l0 (l0.length : Int) 0) = some r := h; clear h; have H' := am H; clear H
 go_enter Try.func82, Try.ntmps82
 go_wp2
 go_loopg [9] k (fun kq v9 w' => ∃ (x9_1 : Int), v9 = .int .i64 x9_1 ∧ Aside0 (spec_l1Has.l0 kq a1 l0 (l0.length : Int) x9_1 = some r) ∧ Aside0 (kq ≤ k) ∧ Drawn0 w w')
 case atStart => exact ⟨(0), wZ, H', ⟨Nat.le_refl _⟩, by repeat (first | exact Drawn0.refl _ | apply Drawn0.step)⟩
 case round =>
  clear H'
  try clear p2
  obtain ⟨x9_1, rfl, HA, HK1, ⟨m1, rfl⟩⟩ := hrel; cases gk with
  | zero => exact absurd HA.out (by simp [spec_l1Has.l0])
  | succ k1 =>
   have H := HA.out; clear HA
   simp only [spec_l1Has.l0] at H
   by_cases c3 : x9_1 < (l0.length : Int)
   ·rw [if_pos c3] at H
    have c3b0 : decide (x9_1 < (l0.length : Int)) = true := decide_eq_true c3; clear c3
    by_cases c4 : 0 ≤ x9_1
    ·rw [if_pos c4] at H
     have c4b0 : decide (0 ≤ x9_1) = true := decide_eq_true c4; clear c4
     by_cases c5 : x9_1 < (l0.length : Int)
     ·rw [if_pos c5] at H
      have c5b0 : decide (x9_1 < (l0.length : Int)) = true := decide_eq_true c5; clear c5
      by_cases c6 : (rd l0 x9_1) = a1
      ·rw [if_pos c6] at H
       have c6b0 : ((rd l0 x9_1) == a1) = true := beq_iff_eq.mpr c6; have c6b1 : ((rd l0 x9_1) != a1) = false := bne_eq_false_iff_eq.mpr c6; clear c6; obtain rfl := Option.some.inj H; obtain ⟨ad414, e414, hx414_0⟩ := Kd.at_int HR0.out x9_1 dT dT; cases e414; have p414 := eT (0 ≤ (x9_1 : Int)); have q414 := eT (x9_1 < (l0.length : Int))
       go_wp2
       go_ret
       exact ⟨by first | rfl | (simp; done) | (simp [*]; done), by repeat (first | exact Drawn0.refl _ | apply Drawn0.step)⟩
      ·rw [if_neg c6] at H
       have c6b0 : ((rd l0 x9_1) == a1) = false := beq_eq_false_iff_ne.mpr c6; have c6b1 : ((rd l0 x9_1) != a1) = true := bne_iff_ne.mpr c6; have H' := am H; clear H; obtain ⟨ad414, e414, hx414_0⟩ := Kd.at_int HR0.out x9_1 dT dT; cases e414; have p414 := eT (0 ≤ (x9_1 : Int)); have q414 := eT (x9_1 < (l0.length : Int))
       go_wp2
       go_roundg k1
       case measure => have := HK1.out; omega
       case rel => exact ⟨(wrap64 (x9_1 + 1)), wZ, H', ⟨by have := HK1.out; omega⟩, by repeat (first | exact Drawn0.refl _ | apply Drawn0.step)⟩
     ·rw [if_neg c5] at H
      exact absurd H (by simp)
    ·rw [if_neg c4] at H
     exact absurd H (by simp)
   ·rw [if_neg c3] at H
    have c3b0 : decide (x9_1 < (l0.length : Int)) = false := decide_eq_false c3; clear c3; obtain rfl := Option.some.inj H
    go_wp2
    go_ret
    exact ⟨by first | rfl | (simp; done) | (simp [*]; done), by repeat (first | exact Drawn0.refl _ | apply Drawn0.step)⟩

mutual
def spec_cuGood.j0 : Nat → Bool → Int → List ByteArray → List ByteArray → Option (Bool)
 | 0, _, _, _, _ => none
 | k + 1, x24, x422000, x422001, x422002 => if x24 = true then (some false) else (spec_cuGood.l0 k (x422002.length : Int) x422001 (x422001.length : Int) 0 x422000 x422001 x422002)
def spec_cuGood.l0 : Nat → Int → List ByteArray → Int → Int → Int → List ByteArray → List ByteArray → Option (Bool)
 | 0, _, _, _, _, _, _, _ => none
 | k + 1, x3, x29, x30, x31, x422000, x422001, x422002 => if x31 < x30 then (if 0 ≤ x31 then (if x31 < (x29.length : Int) then (if (rdOf ByteArray.empty x29 x31).toList = ([] : List UInt8) then (spec_cuGood.l0 k x3 x29 x30 (wrap64 (x31 + 1)) x422000 x422001 x422002) else ((spec_IsKey.f k (rdOf ByteArray.empty x29 x31)).bind fun t428 => (if t428 = true then ((spec_cuCells.f k x422000 (rdOf ByteArray.empty x29 x31) (x422001.length : Int)).bind fun t429 => ((spec_l1Has.f k t429 x31).bind fun t432 => (if t432 = true then (spec_cuGood.l0 k (wrap64 (x3 + 1)) x29 x30 (wrap64 (x31 + 1)) x422000 x422001 x422002) else (some false)))) else (some false)))) else (none)) else (none)) else (if x3 ≤ 40 then ((spec_cuAll.f k x422000 x422001 x422002).bind fun t424 => (some ((t424.length : Int) == x3))) else (some false))
end
def spec_cuGood.f (k : Nat) (a0_0 : Int) (l0_1 : List ByteArray) (l0_2 : List ByteArray) : Option (Bool) := (spec_cuSize.f a0_0 (l0_1.length : Int)).bind fun t422 => (if t422 = true then (if (l0_2.length : Int) > 4 then (spec_cuGood.j0 k true a0_0 l0_1 l0_2) else ((spec_biKeys.f k l0_2).bind fun t423 => (spec_cuGood.j0 k (!t423) a0_0 l0_1 l0_2))) else (spec_cuGood.j0 k true a0_0 l0_1 l0_2))
theorem spec_cuGood.calls (k : Nat) (a0_0 : Int) (A0_1 : Option Addr) (c0_1 : Nat) (l0_1 : List ByteArray) (A0_2 : Option Addr) (c0_2 : Nat) (l0_2 : List ByteArray) (r : Bool) (w : World) (hr0_1 : Kd.C Kd.string w A0_1 l0_1.length l0_1) (hc0_1 : l0_1.length ≤ c0_1) (hr0_2 : Kd.C Kd.string w A0_2 l0_2.length l0_2) (hc0_2 : l0_2.length ≤ c0_2) (h : spec_cuGood.f k a0_0 l0_1 l0_2 = some r) :
  Calls Try.prog 100 #[.agg #[.int .i64 a0_0, .slice A0_1 l0_1.length c0_1, .slice A0_2 l0_2.length c0_2]] w fun e w' => e = .returned (.bool r) ∧ Below w.heap.size w w' := by
 have hu51 := Try.underlying51; have HR0_1 := am hr0_1; have HC0_1 := am hc0_1; clear hr0_1 hc0_1; have HR0_2 := am hr0_2; have HC0_2 := am hc0_2; clear hr0_2 hc0_2; have HB := am (Below.refl w.heap.size w); have H : ((spec_cuSize.f a0_0 (l0_1.length : Int)).bind fun t422 => (if t422 = true then (if (l0_2.length : Int) > 4 then (spec_cuGood.j0 k true a0_0 l0_1 l0_2) else ((spec_biKeys.f k l0_2).bind fun t423 => (spec_cuGood.j0 k (!t423) a0_0 l0_1 l0_2))) else (spec_cuGood.j0 k true a0_0 l0_1 l0_2))) = some r := h; clear h; have HC2 := am H; clear H
 go_enter Try.func100, Try.ntmps100
 go_upto_region 1 with (first | ((with_reducible refine gate_dst (N := 1) rfl ?_); (try (refine gate_guard (by rfl) ?_; dsimp only)); refine bE 1 #[.int .i64 a0_0, .slice A0_1 l0_1.length c0_1, .slice A0_2 l0_2.length c0_2] 51 ?_; intro gb421 hg w3 hbox hb; have n0_ := Bb HB hb; have n1_ := am (hbox); have n2_ := Gl HB hg; have n3_ := Gl HB hg; clear HB; revert n0_ n1_ n2_ n3_; intro HB BK421 GW421 GE421; clear hb hbox hg))
 (try simp only [aP])
 go_cut [24] (fun v24 wc => ∃ (kq : Nat) (x24_1 : Bool), v24 = .bool x24_1 ∧ Aside0 (spec_cuGood.j0 kq x24_1 a0_0 l0_1 l0_2 = some r) ∧ Aside0 (kq ≤ k) ∧ Aside0 (wc.heap[gb421]? = some (.cells #[.int .i64 a0_0, (.slice A0_1 l0_1.length c0_1), (.slice A0_2 l0_2.length c0_2)] 51 (0, 0))) ∧ Aside0 (Below w.heap.size w wc))
 case first =>
  have H := HC2.out; clear HC2; replace H := Option.bind_eq_some_iff.mp H; obtain ⟨t422, A40, H⟩ := H; (try dsimp -simprocs only at H); have A4 := am A40; clear A40
  by_cases c5 : t422 = true
  ·subst c5
   rw [if_pos rfl] at H
   by_cases c6 : (l0_2.length : Int) > 4
   ·rw [if_pos c6] at H
    have c6b0 : decide (4 < (l0_2.length : Int)) = true := decide_eq_true c6; have c6b1 : decide (4 < l0_2.length) = true := decide_eq_true (by omega); clear c6
    (first | rw [c6b0] | (simp only [i64_w, i32_w]; rw [c6b0]) | skip)
    have H' := am H; clear H; obtain ⟨hcz7_0, hcz7_1, hcz7_2, hfz7_0, hfz7_1, hfz7_2⟩ := cf3 (w := w3) BK421
    go_wp2_with (first | ((with_reducible refine gate_callee (f := 122) rfl ?_); refine gL (some 11) Try.func122 #[.int .i64 a0_0, .int .i64 (l0_1.length : Int)] ?_; (with_reducible refine (spec_cuSize.calls a0_0 (l0_1.length : Int) true _ A4.out).mono ?_); rintro e w' ⟨rfl, ⟨nd, rfl⟩⟩; refine ⟨_, rfl, ?_⟩))
    go_meet
    case rel => exact ⟨_, (true), wZ, H', ⟨by first | omega | exact Nat.le_refl _⟩, ⟨Kz BK421.out⟩, ⟨Bq⟩⟩
   ·rw [if_neg c6] at H
    have c6b0 : decide (4 < (l0_2.length : Int)) = false := decide_eq_false c6; have c6b1 : decide (4 < l0_2.length) = false := decide_eq_false (by omega); clear c6
    (first | rw [c6b0] | (simp only [i64_w, i32_w]; rw [c6b0]) | skip)
    replace H := Option.bind_eq_some_iff.mp H; obtain ⟨t423, A80, H⟩ := H; (try dsimp -simprocs only at H); have A8 := am A80; clear A80; have H' := am H; clear H; obtain ⟨hcz9_0, hcz9_1, hcz9_2, hfz9_0, hfz9_1, hfz9_2⟩ := cf3 (w := w3) BK421
    go_wp2_with (first | ((with_reducible refine gate_callee (f := 122) rfl ?_); refine gL (some 11) Try.func122 #[.int .i64 a0_0, .int .i64 (l0_1.length : Int)] ?_; (with_reducible refine (spec_cuSize.calls a0_0 (l0_1.length : Int) true _ A4.out).mono ?_); rintro e w' ⟨rfl, ⟨nd, rfl⟩⟩; refine ⟨_, rfl, ?_⟩) | (go_at_call 123; (with_reducible refine (spec_biKeys.calls k _ _ l0_2 t423 _ ?side1 ?side2 A8.out).mono ?_); (case side1 => exact Cz (Kd.C_below HR0_2.out (Bq))); (case side2 => exact HC0_2.out); rintro e w' ⟨rfl, ⟨nd, rfl⟩⟩))
    go_meet
    case rel => exact ⟨_, (!t423), wZ, H', ⟨by first | omega | exact Nat.le_refl _⟩, ⟨Kz BK421.out⟩, ⟨Bq⟩⟩
  ·replace c5 := Bool.eq_false_iff.mpr c5
   subst c5
   rw [if_neg (show ¬ (false = true) by decide)] at H; have H' := am H; clear H; obtain ⟨hcz10_0, hcz10_1, hcz10_2, hfz10_0, hfz10_1, hfz10_2⟩ := cf3 (w := w3) BK421
   go_wp2_with (first | ((with_reducible refine gate_callee (f := 122) rfl ?_); refine gL (some 11) Try.func122 #[.int .i64 a0_0, .int .i64 (l0_1.length : Int)] ?_; (with_reducible refine (spec_cuSize.calls a0_0 (l0_1.length : Int) false _ A4.out).mono ?_); rintro e w' ⟨rfl, ⟨nd, rfl⟩⟩; refine ⟨_, rfl, ?_⟩))
   go_meet
   case rel => exact ⟨_, (true), wZ, H', ⟨by first | omega | exact Nat.le_refl _⟩, ⟨Kz BK421.out⟩, ⟨Bq⟩⟩
 case rest =>
  clear HC2
  try clear c1
  try clear p2
  try clear c5
  try clear c6
  try clear c6b0
  try clear c6b1
  try clear c10
  try clear hcz10_0
  try clear hcz10_1
  try clear hcz10_2
  try clear hcz7_0
  try clear hcz7_1
  try clear hcz7_2
  try clear hcz9_0
  try clear hcz9_1
  try clear hcz9_2
  try clear hfz10_0
  try clear hfz10_1
  try clear hfz10_2
  try clear hfz7_0
  try clear hfz7_1
  try clear hfz7_2
  try clear hfz9_0
  try clear hfz9_1
  try clear hfz9_2
  obtain ⟨kq, x24_1, rfl, HA, HJ1, BK421, HB⟩ := hcut; cases kq with
  | zero => exact absurd HA.out (by simp [spec_cuGood.j0])
  | succ kj1 =>
   have H := HA.out; clear HA
   simp only [spec_cuGood.j0] at H
   by_cases c11 : x24_1 = true
   ·subst c11
    rw [if_pos rfl] at H; obtain rfl := Option.some.inj H
    go_wp2
    go_ret
    exact ⟨eZ, Bq⟩
   ·replace c11 := Bool.eq_false_iff.mpr c11
    subst c11
    rw [if_neg (show ¬ (false = true) by decide)] at H; have H' := am H; clear H; obtain ⟨hcz12_0, hcz12_1, hcz12_2, hfz12_0, hfz12_1, hfz12_2⟩ := cf3 (w := wc) BK421
    go_wp2
    go_loopg [3, 31] kj1 (fun kq v3 v31 w' => ∃ (x3_2 : Int) (x31_2 : Int), v3 = .int .i64 x3_2 ∧ v31 = .int .i64 x31_2 ∧ Aside0 (spec_cuGood.l0 kq x3_2 l0_1 (l0_1.length : Int) x31_2 a0_0 l0_1 l0_2 = some r) ∧ Aside0 (kq ≤ kj1) ∧ Aside0 (w'.heap[gb421]? = some (.cells #[.int .i64 a0_0, (.slice A0_1 l0_1.length c0_1), (.slice A0_2 l0_2.length c0_2)] 51 (0, 0))) ∧ Aside0 (Below w.heap.size w w'))
    case atStart => exact ⟨((l0_2.length : Int)), (0), wZ, wZ, H', ⟨Nat.le_refl _⟩, ⟨Kz BK421.out⟩, ⟨Bq⟩⟩
    case round =>
     clear H'
     try clear c1
     try clear p2
     try clear c5
     try clear c6
     try clear c6b0
     try clear c6b1
     try clear c10
     try clear c11
     try clear c12
     try clear hcz10_0
     try clear hcz10_1
     try clear hcz10_2
     try clear hcz12_0
     try clear hcz12_1
     try clear hcz12_2
     try clear hcz7_0
     try clear hcz7_1
     try clear hcz7_2
     try clear hcz9_0
     try clear hcz9_1
     try clear hcz9_2
     try clear hfz10_0
     try clear hfz10_1
     try clear hfz10_2
     try clear hfz12_0
     try clear hfz12_1
     try clear hfz12_2
     try clear hfz7_0
     try clear hfz7_1
     try clear hfz7_2
     try clear hfz9_0
     try clear hfz9_1
     try clear hfz9_2
     try clear p2
     obtain ⟨x3_2, x31_2, rfl, rfl, HA, HK2, BK421, HB⟩ := hrel; cases gk with
     | zero => exact absurd HA.out (by simp [spec_cuGood.l0])
     | succ k2 =>
      have H := HA.out; clear HA
      simp only [spec_cuGood.l0] at H
      by_cases c13 : x31_2 < (l0_1.length : Int)
      ·rw [if_pos c13] at H
       have c13b0 : decide (x31_2 < (l0_1.length : Int)) = true := decide_eq_true c13; clear c13
       by_cases c14 : 0 ≤ x31_2
       ·rw [if_pos c14] at H
        have c14b0 : decide (0 ≤ x31_2) = true := decide_eq_true c14; clear c14
        by_cases c15 : x31_2 < (l0_1.length : Int)
        ·rw [if_pos c15] at H
         have c15b0 : decide (x31_2 < (l0_1.length : Int)) = true := decide_eq_true c15; clear c15
         by_cases c16 : (rdOf ByteArray.empty l0_1 x31_2).toList = ([] : List UInt8)
         ·rw [if_pos c16] at H
          have c16b0 : ((rdOf ByteArray.empty l0_1 x31_2).toList == ([] : List UInt8)) = true := beq_iff_eq.mpr c16; have c16b1 : ((rdOf ByteArray.empty l0_1 x31_2).toList != ([] : List UInt8)) = false := bne_eq_false_iff_eq.mpr c16; clear c16; have H' := am H; clear H; have p427 : 0 ≤ (x31_2 : Int) := dT; have q427 : x31_2 < (l0_1.length : Int) := dT; obtain ⟨ad427, e427, hx427_0⟩ := Kd.at_string HR0_1.out x31_2 p427 q427; cases e427; replace hx427_0 := (HB.out.cell (World.block_lt_of_cell? w _ hx427_0)).trans hx427_0; replace p427 := eq_true p427; replace q427 := eq_true q427
          go_wp2
          go_roundg k2
          case measure => have := HJ1.out; have := HK2.out; omega
          case rel => exact ⟨(x3_2), (wrap64 (x31_2 + 1)), wZ, wZ, H', ⟨by have := HJ1.out; have := HK2.out; omega⟩, ⟨Kz BK421.out⟩, ⟨Bq⟩⟩
         ·rw [if_neg c16] at H
          have c16b0 : ((rdOf ByteArray.empty l0_1 x31_2).toList == ([] : List UInt8)) = false := beq_eq_false_iff_ne.mpr c16; have c16b1 : ((rdOf ByteArray.empty l0_1 x31_2).toList != ([] : List UInt8)) = true := bne_iff_ne.mpr c16; replace H := Option.bind_eq_some_iff.mp H; obtain ⟨t428, A170, H⟩ := H; (try dsimp -simprocs only at H); have A17 := am A170; clear A170
          by_cases c18 : t428 = true
          ·subst c18
           rw [if_pos rfl] at H; replace H := Option.bind_eq_some_iff.mp H; obtain ⟨t429, A190, H⟩ := H; (try dsimp -simprocs only at H); have A19 := am A190; clear A190; replace H := Option.bind_eq_some_iff.mp H; obtain ⟨t432, A200, H⟩ := H; (try dsimp -simprocs only at H); have A20 := am A200; clear A200
           by_cases c21 : t432 = true
           ·subst c21
            rw [if_pos rfl] at H; have H' := am H; clear H; have p427 : 0 ≤ (x31_2 : Int) := dT; have q427 : x31_2 < (l0_1.length : Int) := dT; obtain ⟨ad427, e427, hx427_0⟩ := Kd.at_string HR0_1.out x31_2 p427 q427; cases e427; replace hx427_0 := (HB.out.cell (World.block_lt_of_cell? w _ hx427_0)).trans hx427_0; replace p427 := eq_true p427; replace q427 := eq_true q427
            go_wp2_with (first | ((with_reducible refine gate_callee (f := 101) rfl ?_); refine gL (some 39) Try.func101 #[.string (rdOf ByteArray.empty l0_1 x31_2)] ?_; (with_reducible refine (spec_IsKey.calls k2 (rdOf ByteArray.empty l0_1 x31_2) true _ A17.out).mono ?_); rintro e w' ⟨rfl, ⟨nd, rfl⟩⟩; refine ⟨_, rfl, ?_⟩; obtain ⟨hcz22_0, hcz22_1, hcz22_2, hfz22_0, hfz22_1, hfz22_2⟩ := cf3 (w := wr) BK421) | (go_at_call 125; (with_reducible refine (spec_cuCells.calls k2 a0_0 (rdOf ByteArray.empty l0_1 x31_2) (l0_1.length : Int) t429 _ A19.out).mono ?_); rintro e w23 ⟨v430, rfl, ho0, hb⟩; have n0_ := Rm ho0 HB; have n1_ := Kb BK421 hb; have n2_ := Bc HB hb; clear BK421 HB; revert n0_ n1_ n2_; intro HO431 BK421 HB; (try clear hb); (try clear hb2); (try clear hk); (try clear hi); (try clear ho0); obtain ⟨Ao24, co24, eo24⟩ := Kd.R_slice HO431.out; subst eo24) | (go_at_call 82; (with_reducible refine (spec_l1Has.calls k2 _ _ t429 x31_2 true _ ?side1 ?side2 A20.out).mono ?_); (case side1 => exact Cz ((Kd.R_reads' HO431.out).2.2)); (case side2 => exact (Kd.R_reads' HO431.out).2.1); rintro e w' ⟨rfl, ⟨nd, rfl⟩⟩))
            go_roundg k2
            case measure => have := HJ1.out; have := HK2.out; omega
            case rel => exact ⟨(wrap64 (x3_2 + 1)), (wrap64 (x31_2 + 1)), wZ, wZ, H', ⟨by have := HJ1.out; have := HK2.out; omega⟩, ⟨Kz BK421.out⟩, ⟨Bq⟩⟩
           ·replace c21 := Bool.eq_false_iff.mpr c21
            subst c21
            rw [if_neg (show ¬ (false = true) by decide)] at H; obtain rfl := Option.some.inj H; have p427 : 0 ≤ (x31_2 : Int) := dT; have q427 : x31_2 < (l0_1.length : Int) := dT; obtain ⟨ad427, e427, hx427_0⟩ := Kd.at_string HR0_1.out x31_2 p427 q427; cases e427; replace hx427_0 := (HB.out.cell (World.block_lt_of_cell? w _ hx427_0)).trans hx427_0; replace p427 := eq_true p427; replace q427 := eq_true q427
            go_wp2_with (first | ((with_reducible refine gate_callee (f := 101) rfl ?_); refine gL (some 39) Try.func101 #[.string (rdOf ByteArray.empty l0_1 x31_2)] ?_; (with_reducible refine (spec_IsKey.calls k2 (rdOf ByteArray.empty l0_1 x31_2) true _ A17.out).mono ?_); rintro e w' ⟨rfl, ⟨nd, rfl⟩⟩; refine ⟨_, rfl, ?_⟩; obtain ⟨hcz25_0, hcz25_1, hcz25_2, hfz25_0, hfz25_1, hfz25_2⟩ := cf3 (w := wr) BK421) | (go_at_call 125; (with_reducible refine (spec_cuCells.calls k2 a0_0 (rdOf ByteArray.empty l0_1 x31_2) (l0_1.length : Int) t429 _ A19.out).mono ?_); rintro e w26 ⟨v430, rfl, ho0, hb⟩; have n0_ := Rm ho0 HB; have n1_ := Kb BK421 hb; have n2_ := Bc HB hb; clear BK421 HB; revert n0_ n1_ n2_; intro HO431 BK421 HB; (try clear hb); (try clear hb2); (try clear hk); (try clear hi); (try clear ho0); obtain ⟨Ao27, co27, eo27⟩ := Kd.R_slice HO431.out; subst eo27) | (go_at_call 82; (with_reducible refine (spec_l1Has.calls k2 _ _ t429 x31_2 false _ ?side1 ?side2 A20.out).mono ?_); (case side1 => exact Cz ((Kd.R_reads' HO431.out).2.2)); (case side2 => exact (Kd.R_reads' HO431.out).2.1); rintro e w' ⟨rfl, ⟨nd, rfl⟩⟩))
            go_ret
            exact ⟨eZ, Bq⟩
          ·replace c18 := Bool.eq_false_iff.mpr c18
           subst c18
           rw [if_neg (show ¬ (false = true) by decide)] at H; obtain rfl := Option.some.inj H; have p427 : 0 ≤ (x31_2 : Int) := dT; have q427 : x31_2 < (l0_1.length : Int) := dT; obtain ⟨ad427, e427, hx427_0⟩ := Kd.at_string HR0_1.out x31_2 p427 q427; cases e427; replace hx427_0 := (HB.out.cell (World.block_lt_of_cell? w _ hx427_0)).trans hx427_0; replace p427 := eq_true p427; replace q427 := eq_true q427
           go_wp2_with (first | ((with_reducible refine gate_callee (f := 101) rfl ?_); refine gL (some 39) Try.func101 #[.string (rdOf ByteArray.empty l0_1 x31_2)] ?_; (with_reducible refine (spec_IsKey.calls k2 (rdOf ByteArray.empty l0_1 x31_2) false _ A17.out).mono ?_); rintro e w' ⟨rfl, ⟨nd, rfl⟩⟩; refine ⟨_, rfl, ?_⟩))
           go_ret
           exact ⟨eZ, Bq⟩
        ·rw [if_neg c15] at H
         exact absurd H (by simp)
       ·rw [if_neg c14] at H
        exact absurd H (by simp)
      ·rw [if_neg c13] at H
       have c13b0 : decide (x31_2 < (l0_1.length : Int)) = false := decide_eq_false c13; clear c13
       by_cases c28 : x3_2 ≤ 40
       ·rw [if_pos c28] at H
        have c28b0 : decide (x3_2 ≤ 40) = true := decide_eq_true c28; clear c28; replace H := Option.bind_eq_some_iff.mp H; obtain ⟨t424, A290, H⟩ := H; (try dsimp -simprocs only at H); have A29 := am A290; clear A290; obtain rfl := Option.some.inj H; obtain ⟨hcz30_0, hcz30_1, hcz30_2, hfz30_0, hfz30_1, hfz30_2⟩ := cf3 (w := wr) BK421
        go_wp2_with (first | (go_at_call 96; (with_reducible refine (spec_cuAll.calls k2 a0_0 _ _ l0_1 _ _ l0_2 t424 _ ?side1 ?side2 ?side3 ?side4 A29.out).mono ?_); (case side1 => exact Cz (Kd.C_below HR0_1.out HB.out)); (case side2 => exact HC0_1.out); (case side3 => exact Cz (Kd.C_below HR0_2.out HB.out)); (case side4 => exact HC0_2.out); rintro e w31 ⟨v425, rfl, ho0, hb⟩; have n0_ := Rm ho0 HB; have n1_ := Kb BK421 hb; have n2_ := Bc HB hb; clear BK421 HB; revert n0_ n1_ n2_; intro HO426 BK421 HB; (try clear hb); (try clear hb2); (try clear hk); (try clear hi); (try clear ho0); obtain ⟨Ao32, co32, eo32⟩ := Kd.R_slice HO426.out; subst eo32))
        go_ret
        exact ⟨eZ, Bq⟩
       ·rw [if_neg c28] at H
        have c28b0 : decide (x3_2 ≤ 40) = false := decide_eq_false c28; clear c28; obtain rfl := Option.some.inj H
        go_wp2
        go_ret
        exact ⟨eZ, Bq⟩

def spec_cuFind.l0 : Nat → ByteArray → List ByteArray → Int → Int → Option (Int)
 | 0, _, _, _, _ => none
 | k + 1, x1, x12, x13, x14 => if x14 < x13 then (if 0 ≤ x14 then (if x14 < (x12.length : Int) then (if (rdOf ByteArray.empty x12 x14).toList = x1.toList then (some x14) else (spec_cuFind.l0 k x1 x12 x13 (wrap64 (x14 + 1)))) else (none)) else (none)) else (some (-1))
def spec_cuFind.f (k : Nat) (a0_0 : Int) (l0_1 : List ByteArray) (l0_2 : List ByteArray) (a1 : ByteArray) : Option (Int) := (spec_l1OwnS.f l0_1).bind fun t434 => (if t434.length + l0_2.length < 8796093022208 then ((some (t434 ++ l0_2 : List ByteArray)).bind fun y437 => (spec_cuFind.l0 k a1 y437 (y437.length : Int) 0)) else (none))
def spec_cuFind.T1 : Bool × List (List Nat × List Nat) := (true, [([], []), ([0], [0]), ([1], [1]), ([], []), ([3], [3]), ([2, 4, 2], [2, 4]), ([5], [5]), ([], [])])
def spec_cuFind.B1 : List Nat := [0, 1, 3, 0, 8, 31, 63, 0]
theorem spec_cuFind.tab1 : rtab .any (opsOf Try.f102 1) = spec_cuFind.T1 := by kernel_rfl
theorem spec_cuFind.bits1 : waitsOk spec_cuFind.T1.2 spec_cuFind.B1 = true := by kernel_rfl
theorem spec_cuFind.calls (k : Nat) (a0_0 : Int) (A0_1 : Option Addr) (c0_1 : Nat) (l0_1 : List ByteArray) (A0_2 : Option Addr) (c0_2 : Nat) (l0_2 : List ByteArray) (a1 : ByteArray) (r : Int) (w : World) (hr0_1 : Kd.C Kd.string w A0_1 l0_1.length l0_1) (hc0_1 : l0_1.length ≤ c0_1) (hr0_2 : Kd.C Kd.string w A0_2 l0_2.length l0_2) (hc0_2 : l0_2.length ≤ c0_2) (h : spec_cuFind.f k a0_0 l0_1 l0_2 a1 = some r) :
  Calls Try.prog 102 #[.agg #[.int .i64 a0_0, .slice A0_1 l0_1.length c0_1, .slice A0_2 l0_2.length c0_2], .string a1] w fun e w' => e = .returned (.int .i64 r) ∧ Below w.heap.size w w' := by
 have hu51 := Try.underlying51; have HR0_1 := am hr0_1; have HC0_1 := am hc0_1; clear hr0_1 hc0_1; have HR0_2 := am hr0_2; have HC0_2 := am hc0_2; clear hr0_2 hc0_2; have HB := am (Below.refl w.heap.size w); have H : ((spec_l1OwnS.f l0_1).bind fun t434 => (if t434.length + l0_2.length < 8796093022208 then ((some (t434 ++ l0_2 : List ByteArray)).bind fun y437 => (spec_cuFind.l0 k a1 y437 (y437.length : Int) 0)) else (none))) = some r := h; clear h; replace H := Option.bind_eq_some_iff.mp H; obtain ⟨t434, A30, H⟩ := H; (try dsimp -simprocs only at H); have A3 := am A30; clear A30
 by_cases c4 : t434.length + l0_2.length < 8796093022208
 ·rw [if_pos c4] at H
  have LMc4 := am c4; clear c4; obtain ⟨y437, hy437⟩ : ∃ y_ : List ByteArray, y_ = (t434 ++ l0_2) := ⟨_, rfl⟩
  replace H : (spec_cuFind.l0 k a1 y437 (y437.length : Int) 0) = some r := by first | (rw [hy437]; with_reducible exact H) | (have H2_ := (Option.bind_some _ _).symm.trans H; rw [hy437]; with_reducible exact H2_) | (have H2_ := (Option.bind_some _ _).symm.trans H; with_reducible exact H2_) | with_reducible exact H | (rw [hy437]; exact H) | exact H
  have Ny437 := am hy437; clear hy437; have H' := am H; clear H
  go_enter Try.func102, Try.ntmps102
  try go_wp2_with (first | ((with_reducible refine gate_dst (N := 2) rfl ?_); refine bE 2 #[.int .i64 a0_0, .slice A0_1 l0_1.length c0_1, .slice A0_2 l0_2.length c0_2] 51 ?_; intro gb433 hg w5 hbox hb; have n0_ := Bb HB hb; have n1_ := am (hbox); have n2_ := Gl HB hg; have n3_ := Gl HB hg; clear HB; revert n0_ n1_ n2_ n3_; intro HB BK433 GW433 GE433; clear hb hbox hg))
  have n0_ := am (blk_drew BK433.out); have n1_ := am (below_drew1 HB.out); clear BK433 HB; revert n0_ n1_; intro BK433 HB; refine start_ (n := 8) (S := fun w' => w'.cell? ⟨gb433, 0, none⟩ = some (.int .i64 a0_0) ∧ w'.cell? ⟨gb433, 1, none⟩ = some (.slice A0_1 l0_1.length c0_1) ∧ w'.cell? ⟨gb433, 2, none⟩ = some (.slice A0_2 l0_2.length c0_2)) (ds := []) (bA 8 0) (by kernel_rfl) rfl rfl ⟨cz BK433 0, cz BK433 1, cz BK433 2⟩ (fun hHeld => ?_); refine with_tabW spec_cuFind.tab1 spec_cuFind.bits1 (fun HT_ HW_ => ?_); generalize w5.drew = w6 at BK433 HB hHeld ⊢; refine pZ 0 (some 7) (bA 8 1) HT_.out ?_; refine pZ 3 (some 10) (bA 8 9) HT_.out ?_; refine pZ 7 (some 14) (bA 8 137) HT_.out ?_; refine tZ3 1 (some 8) (bA 8 139) HT_.out HW_.out hHeld ?_; refine tZ3 4 (some 11) (bA 8 155) HT_.out HW_.out hHeld ?_; refine oZ 2 (some 9) (bA 8 159) HT_.out (fun K hK => ?_); refine gZ Try.func105 #[.slice A0_1 l0_1.length c0_1] ?_
  with_reducible refine (spec_l1OwnS.calls _ _ l0_1 t434 _ ?side1 ?side2 A3.out).mono ?_
  (case side1 => exact Cz (Kd.C_below HR0_1.out HB.out))
  (case side2 => exact HC0_1.out)
  rintro e w7 ⟨v435, rfl, ho0, hb⟩; refine ⟨_, rfl, ?_⟩; have n0_ := Rm ho0 HB; have n1_ := Kb BK433 hb; have n2_ := Bc HB hb; clear BK433 HB; revert n0_ n1_ n2_; intro HO436 BK433 HB
  (try clear hb)
  (try clear hb2)
  (try clear hk)
  (try clear hi)
  (try clear ho0)
  refine hK.out _ _ ⟨cz BK433 0, cz BK433 1, cz BK433 2⟩ (fun hHeld => ?_); clear hK K; refine norm_ (a' := ?_) ?_ ?_; rotate_left; show Act.put _ (some 9) _ = _; simp only [aP, i64_w, i32_w]; rfl; refine oZ 5 (some 12) (bA 8 191) HT_.out (fun K hK => ?_); refine Kd.R_append_rows_step Kd.string (w0 := w) w.heap.size (by rfl) (.tmp 9) (.tmp 11) 24 9 (.string ⟨#[]⟩) 16 rfl Try.underlying24 info9 rfl (by decide) (by omega) v435 t434 l0_2 _ _ _ (fun _ => True) (fun _ => False) rfl rfl ?aO ?aR (fun _ _ h => h) (fun _ h => h.elim) ?aF ?aB ?aS ?aL ?_
  (case aR => repeat (first | exact (Kd.C_below HR0_2.out HB.out) | (with_reducible refine Kd.C_alloc ?_ _) | (with_reducible refine Kd.C_drewN ?_ _) | (with_reducible refine Kd.C_drew ?_)))
  (case aB => exact (Bq))
  (case aF => exact (fun _ _ => trivial))
  (case aO => exact (Rz HO436.out))
  (case aS => exact (below_size (w := w) (Bq)))
  (case aL => have := LMc4.out; omega)
  intro v438 w8 ho hb hg hat; rw [← Ny437.out] at ho; have n0_ := am (blk_grown (g := gb433) (o := .cells #[.int .i64 a0_0, .slice A0_1 l0_1.length c0_1, .slice A0_2 l0_2.length c0_2] 51 (0, 0)) (Kz BK433.out) hg (Kd.R_ne HO436.out BK433.out (by decide))); have n1_ := am (hb); have n2_ := am (ho); clear BK433 HB HO436; revert n0_ n1_ n2_; intro BK433 HB HO439; clear ho hb hg hat; obtain ⟨Ao9, co9, eo9⟩ := Kd.R_slice HO439.out
  (first | subst eo9 | (injection eo9 with f1_ f2_ f3_; have f4_ := f1_.symm; have f5_ := f3_.symm; clear f1_ f2_ f3_; subst f4_; subst f5_))
  refine hK.out _ _ ⟨cz BK433 0, cz BK433 1, cz BK433 2⟩ (fun hHeld => ?_); clear hK K; refine norm_ (a' := ?_) ?_ ?_; rotate_left; show Act.put _ (some 12) _ = _; simp only [aP, i64_w, i32_w]; rfl; refine pZ 6 (some 13) (bA 8 255) HT_.out ?_; refine done_ (done_of HT_.out (by kernel_rfl)) ?_
  try go_wp2
  go_loopg [14] k (fun kq v14 w' => ∃ (x14_1 : Int), v14 = .int .i64 x14_1 ∧ Aside0 (spec_cuFind.l0 kq a1 y437 (y437.length : Int) x14_1 = some r) ∧ Aside0 (kq ≤ k) ∧ Aside0 (Kd.R Kd.string 9 w' w.heap.size (fun _ => True) (.slice Ao9 y437.length co9) y437) ∧ Aside0 (w'.heap[gb433]? = some (.cells #[.int .i64 a0_0, (.slice A0_1 l0_1.length c0_1), (.slice A0_2 l0_2.length c0_2)] 51 (0, 0))) ∧ Aside0 (Below w.heap.size w w'))
  case atStart => exact ⟨(0), wZ, H', ⟨Nat.le_refl _⟩, ⟨Rz HO439.out⟩, ⟨Kz BK433.out⟩, ⟨Bq⟩⟩
  case round =>
   clear H'
   try clear c1
   try clear p2
   try clear c4
   obtain ⟨x14_1, rfl, HA, HK1, HO_12, BK433, HB⟩ := hrel; cases gk with
   | zero => exact absurd HA.out (by simp [spec_cuFind.l0])
   | succ k1 =>
    have H := HA.out; clear HA
    simp only [spec_cuFind.l0] at H
    by_cases c10 : x14_1 < (y437.length : Int)
    ·rw [if_pos c10] at H
     have c10b0 : decide (x14_1 < (y437.length : Int)) = true := decide_eq_true c10; clear c10
     by_cases c11 : 0 ≤ x14_1
     ·rw [if_pos c11] at H
      have c11b0 : decide (0 ≤ x14_1) = true := decide_eq_true c11; clear c11
      by_cases c12 : x14_1 < (y437.length : Int)
      ·rw [if_pos c12] at H
       have c12b0 : decide (x14_1 < (y437.length : Int)) = true := decide_eq_true c12; clear c12
       by_cases c13 : (rdOf ByteArray.empty y437 x14_1).toList = a1.toList
       ·rw [if_pos c13] at H
        have c13b0 : ((rdOf ByteArray.empty y437 x14_1).toList == a1.toList) = true := beq_iff_eq.mpr c13; have c13b1 : ((rdOf ByteArray.empty y437 x14_1).toList != a1.toList) = false := bne_eq_false_iff_eq.mpr c13; clear c13; obtain rfl := Option.some.inj H; obtain ⟨ad440, e440, hx440_0⟩ := Kd.at_string (Kd.R_reads' HO_12.out).2.2 x14_1 dT dT; cases e440; have p440 := eT (0 ≤ (x14_1 : Int)); have q440 := eT (x14_1 < (y437.length : Int))
        go_wp2
        go_ret
        exact ⟨eZ, Bq⟩
       ·rw [if_neg c13] at H
        have c13b0 : ((rdOf ByteArray.empty y437 x14_1).toList == a1.toList) = false := beq_eq_false_iff_ne.mpr c13; have c13b1 : ((rdOf ByteArray.empty y437 x14_1).toList != a1.toList) = true := bne_iff_ne.mpr c13; have H' := am H; clear H; obtain ⟨ad440, e440, hx440_0⟩ := Kd.at_string (Kd.R_reads' HO_12.out).2.2 x14_1 dT dT; cases e440; have p440 := eT (0 ≤ (x14_1 : Int)); have q440 := eT (x14_1 < (y437.length : Int))
        go_wp2
        go_roundg k1
        case measure => have := HK1.out; omega
        case rel => exact ⟨(wrap64 (x14_1 + 1)), wZ, H', ⟨by have := HK1.out; omega⟩, ⟨Rz HO_12.out⟩, ⟨Kz BK433.out⟩, ⟨Bq⟩⟩
      ·rw [if_neg c12] at H
       exact absurd H (by simp)
     ·rw [if_neg c11] at H
      exact absurd H (by simp)
    ·rw [if_neg c10] at H
     have c10b0 : decide (x14_1 < (y437.length : Int)) = false := decide_eq_false c10; clear c10; obtain rfl := Option.some.inj H
     go_wp2
     go_ret
     exact ⟨eZ, Bq⟩
 ·rw [if_neg c4] at H
  exact absurd H (by simp)

-- BY HAND: function 104 (slices_Delete_string_string)

def impl_CuckooRemove.f (k : Nat) (a0_0 : Int) (l0_1 : List ByteArray) (l0_2 : List ByteArray) (a1 : ByteArray) : Option (Int × List ByteArray × List ByteArray × Bool) := (impl_CuckooFind.f k a0_0 l0_1 l0_2 a1).bind fun bt456 => (if bt456.2 = true then ((impl_cloneCuckoo.f a0_0 l0_1 l0_2).bind fun bt458 => (if bt456.1 < (l0_1.length : Int) then (if 0 ≤ bt456.1 then (if bt456.1 < (bt458.2.1.length : Int) then (some (bt458.1, (bt458.2.1.set (bt456.1 : Int).toNat (⟨#[]⟩ : ByteArray)), bt458.2.2, true)) else (none)) else (none)) else ((slices_Delete_string_string.f bt458.2.2 (wrap64 (bt456.1 - (l0_1.length : Int))) (wrap64 ((wrap64 (bt456.1 - (l0_1.length : Int))) + 1))).bind fun t467 => (some (bt458.1, bt458.2.1, t467, true))))) else (some (0, ([] : List ByteArray), ([] : List ByteArray), false)))
theorem impl_CuckooRemove.calls (k : Nat) (a0_0 : Int) (A0_1 : Option Addr) (c0_1 : Nat) (l0_1 : List ByteArray) (A0_2 : Option Addr) (c0_2 : Nat) (l0_2 : List ByteArray) (a1 : ByteArray) (r1 : Int) (r2 : List ByteArray) (r3 : List ByteArray) (r4 : Bool) (w : World) (hr0_1 : Kd.C Kd.string w A0_1 l0_1.length l0_1) (hc0_1 : l0_1.length ≤ c0_1) (hr0_2 : Kd.C Kd.string w A0_2 l0_2.length l0_2) (hc0_2 : l0_2.length ≤ c0_2) (h : impl_CuckooRemove.f k a0_0 l0_1 l0_2 a1 = some (r1, r2, r3, r4)) :
  Calls Try.prog 43 #[.agg #[.int .i64 a0_0, .slice A0_1 l0_1.length c0_1, .slice A0_2 l0_2.length c0_2], .string a1] w fun e w' => ∃ v1_ v2_ : Value, e = .returned (.tuple #[.agg #[.int .i64 r1, v1_, v2_], .bool r4]) ∧ Kd.R Kd.string 9 w' w.heap.size (fun k_ => some k_ ≠ (v2_ : Value).ownBlock) v1_ r2 ∧ Kd.R Kd.string 9 w' w.heap.size (fun k_ => some k_ ≠ (v1_ : Value).ownBlock) v2_ r3 ∧ Below w.heap.size w w' := by
 have hu51 := Try.underlying51; have HR0_1 := am hr0_1; have HC0_1 := am hc0_1; clear hr0_1 hc0_1; have HR0_2 := am hr0_2; have HC0_2 := am hc0_2; clear hr0_2 hc0_2; have HB := am (Below.refl w.heap.size w); have H : ((impl_CuckooFind.f k a0_0 l0_1 l0_2 a1).bind fun bt456 => (if bt456.2 = true then ((impl_cloneCuckoo.f a0_0 l0_1 l0_2).bind fun bt458 => (if bt456.1 < (l0_1.length : Int) then (if 0 ≤ bt456.1 then (if bt456.1 < (bt458.2.1.length : Int) then (some (bt458.1, (bt458.2.1.set (bt456.1 : Int).toNat (⟨#[]⟩ : ByteArray)), bt458.2.2, true)) else (none)) else (none)) else ((slices_Delete_string_string.f bt458.2.2 (wrap64 (bt456.1 - (l0_1.length : Int))) (wrap64 ((wrap64 (bt456.1 - (l0_1.length : Int))) + 1))).bind fun t467 => (some (bt458.1, bt458.2.1, t467, true))))) else (some (0, ([] : List ByteArray), ([] : List ByteArray), false)))) = some (r1, r2, r3, r4) := h; clear h; replace H := Option.bind_eq_some_iff.mp H; obtain ⟨⟨t456, t457⟩, A30, H⟩ := H; (try dsimp -simprocs only at H); have A3 := am A30; clear A30
 by_cases c4 : t457 = true
 ·subst c4
  rw [if_pos rfl] at H; replace H := Option.bind_eq_some_iff.mp H; obtain ⟨⟨t458, t459, t462⟩, A50, H⟩ := H; (try dsimp -simprocs only at H); have A5 := am A50; clear A50
  by_cases c6 : t456 < (l0_1.length : Int)
  ·rw [if_pos c6] at H
   have c6b0 : decide (t456 < (l0_1.length : Int)) = true := decide_eq_true c6; clear c6
   by_cases c7 : 0 ≤ t456
   ·rw [if_pos c7] at H
    have c7b0 : decide (0 ≤ t456) = true := decide_eq_true c7; clear c7
    by_cases c8 : t456 < (t459.length : Int)
    ·rw [if_pos c8] at H
     have c8b0 : decide (t456 < (t459.length : Int)) = true := decide_eq_true c8; clear c8; obtain ⟨y466, hy466⟩ : ∃ y_ : List ByteArray, y_ = (t459.set (t456 : Int).toNat (⟨#[]⟩ : ByteArray)) := ⟨_, rfl⟩
     replace H : (some (t458, y466, t462, true)) = some (r1, r2, r3, r4) := by first | (rw [hy466]; with_reducible exact H) | (have H2_ := (Option.bind_some _ _).symm.trans H; rw [hy466]; with_reducible exact H2_) | (have H2_ := (Option.bind_some _ _).symm.trans H; with_reducible exact H2_) | with_reducible exact H | (rw [hy466]; exact H) | exact H
     have Ny466 := am hy466; clear hy466
     simp only [Option.some.injEq, Prod.mk.injEq] at H
     obtain ⟨rfl, rfl, rfl, rfl⟩ := H
     go_enter Try.func43, Try.ntmps43
     go_wp2_with (first | ((with_reducible refine gate_dst (N := 2) rfl ?_); refine bE 2 #[.int .i64 a0_0, .slice A0_1 l0_1.length c0_1, .slice A0_2 l0_2.length c0_2] 51 ?_; intro gb454 hg w10 hbox hb; have n0_ := Bb HB hb; have n1_ := am (hbox); have n2_ := Gl HB hg; have n3_ := Gl HB hg; clear HB; revert n0_ n1_ n2_ n3_; intro HB BK454 GW454 GE454; clear hb hbox hg) | ((with_reducible refine gate_dst (N := 4) rfl ?_); refine bE 4 #[.int .i64 0, .slice none 0 0, .slice none 0 0] 51 ?_; intro gb455 hg w11 hbox hb; have n0_ := Kb BK454 hb; have n1_ := Bc HB hb; have n2_ := am (hbox); have n3_ := Gm HB hg; have n4_ := Gm HB hg; have n5_ := Nl BK454 hg; have n6_ := Ng BK454 hg; clear BK454 HB; revert n0_ n1_ n2_ n3_ n4_ n5_ n6_; intro BK454 HB BK455 GW455 GE455 NB454_455 NB455_454; clear hb hbox hg; have hnb12 := NB454_455.out; have hnc12 := NB455_454.out; obtain ⟨hcz13_0, hcz13_1, hcz13_2, hfz13_0, hfz13_1, hfz13_2⟩ := cf3 (w := w11) BK454) | ((with_reducible refine gate_callee (f := 41) rfl ?_); refine gL (some 13) Try.func41 #[.agg #[.int .i64 a0_0, .slice A0_1 l0_1.length c0_1, .slice A0_2 l0_2.length c0_2], .string a1] ?_; (with_reducible refine (impl_CuckooFind.calls k a0_0 _ _ l0_1 _ _ l0_2 a1 t456 true _ ?side1 ?side2 ?side3 ?side4 A3.out).mono ?_); (case side1 => exact Cz (Kd.C_below HR0_1.out HB.out)); (case side2 => exact HC0_1.out); (case side3 => exact Cz (Kd.C_below HR0_2.out HB.out)); (case side4 => exact HC0_2.out); rintro e w14 ⟨rfl, hb⟩; refine ⟨_, rfl, ?_⟩; have n0_ := Kb BK454 hb; have n1_ := Kb BK455 hb; have n2_ := Bc HB hb; clear BK454 BK455 HB; revert n0_ n1_ n2_; intro BK454 BK455 HB; (try clear hb); (try clear hb2); (try clear hk); (try clear hi); obtain ⟨hcz15_0, hcz15_1, hcz15_2, hfz15_0, hfz15_1, hfz15_2⟩ := cf3 (w := w14) BK454) | ((with_reducible refine gate_callee (f := 103) rfl ?_); refine gL (some 20) Try.func103 #[.agg #[.int .i64 a0_0, .slice A0_1 l0_1.length c0_1, .slice A0_2 l0_2.length c0_2]] ?_; (with_reducible refine (impl_cloneCuckoo.calls a0_0 _ _ l0_1 _ _ l0_2 t458 t459 t462 _ ?side1 ?side2 ?side3 ?side4 A5.out).mono ?_); (case side1 => exact Cz (Kd.C_below HR0_1.out HB.out)); (case side2 => exact HC0_1.out); (case side3 => exact Cz (Kd.C_below HR0_2.out HB.out)); (case side4 => exact HC0_2.out); rintro e w16 ⟨v460, v463, rfl, ho0, ho1, hb⟩; refine ⟨_, rfl, ?_⟩; have n0_ := Rm ho0 HB; have n1_ := Rm ho1 HB; have n2_ := Kb BK454 hb; have n3_ := Kb BK455 hb; have n4_ := Bc HB hb; clear BK454 BK455 HB; revert n0_ n1_ n2_ n3_ n4_; intro HO461 HO464 BK454 BK455 HB; (try clear hb); (try clear hb2); (try clear hk); (try clear hi); (try clear ho0); (try clear ho1)) | ((with_reducible refine gate_dst (N := 8) rfl ?_); refine bE 8 #[.int .i64 0, .slice none 0 0, .slice none 0 0] 51 ?_; intro gb465 hg w17 hbox hb; have n0_ := Rb HO461 hb; have n1_ := Rb HO464 hb; have n2_ := Kb BK454 hb; have n3_ := Kb BK455 hb; have n4_ := Bc HB hb; have n5_ := am (hbox); have n6_ := Gm HB hg; have n7_ := Gm HB hg; have n8_ := Nl BK454 hg; have n9_ := Ng BK454 hg; have n10_ := Nl BK455 hg; have n11_ := Ng BK455 hg; clear HO461 HO464 BK454 BK455 HB; revert n0_ n1_ n2_ n3_ n4_ n5_ n6_ n7_ n8_ n9_ n10_ n11_; intro HO461 HO464 BK454 BK455 HB BK465 GW465 GE465 NB454_465 NB465_454 NB455_465 NB465_455; clear hb hbox hg; have hnb18 := NB465_454.out; have hnc18 := NB454_465.out; have hnb19 := NB465_455.out; have hnc19 := NB455_465.out; obtain ⟨hcz20_0, hcz20_1, hcz20_2, hfz20_0, hfz20_1, hfz20_2⟩ := cf3 (w := w17) BK465; obtain ⟨Ao21, co21, eo21⟩ := Kd.R_slice HO461.out; subst eo21; obtain ⟨Ao22, co22, eo22⟩ := Kd.R_slice HO464.out; subst eo22) | ((with_reducible refine gate_store (t := 51) (p := 8) rfl ?_); refine store_event (t := 51) (p := 8) (v := ?vo_w23) (w1 := (((w17.setCell ⟨gb465, 0, none⟩ (.int .i64 t458)).setCell ⟨gb465, 1, none⟩ (.slice Ao21 t459.length co21)).setCell ⟨gb465, 2, none⟩ (.slice Ao22 t462.length co22))) ?hg ?ho ?hn ?hr ?_; (case ho => rfl); (case hg => rfl); (case hn => rfl); (case hr => first | (go_simp; done) | (go_simp; rfl)); intro w23 hw; have n0_ : Aside0 (Kd.R Kd.string 9 w23 w.heap.size (fun k_ => some k_ ≠ (.slice Ao22 t462.length co22 : Value).ownBlock) (.slice Ao21 t459.length co21) t459) := ⟨(by rw [hw]; exact (Rz (Kd.R_mono (Kd.R_far (p := ⟨gb465, 2, none⟩) (Kd.R_far (p := ⟨gb465, 1, none⟩) (Kd.R_far (p := ⟨gb465, 0, none⟩) (Kd.R_types HO461.out BK465.out (by decide)) (fun _ hk => hk.2) (.int .i64 t458)) (fun _ hk => hk.2) (.slice Ao21 t459.length co21)) (fun _ hk => hk.2) (.slice Ao22 t462.length co22)) (fun _ hk => hk.1))))⟩; have n1_ : Aside0 (Kd.R Kd.string 9 w23 w.heap.size (fun k_ => some k_ ≠ (.slice Ao21 t459.length co21 : Value).ownBlock) (.slice Ao22 t462.length co22) t462) := ⟨(by rw [hw]; exact (Rz (Kd.R_mono (Kd.R_far (p := ⟨gb465, 2, none⟩) (Kd.R_far (p := ⟨gb465, 1, none⟩) (Kd.R_far (p := ⟨gb465, 0, none⟩) (Kd.R_types HO464.out BK465.out (by decide)) (fun _ hk => hk.2) (.int .i64 t458)) (fun _ hk => hk.2) (.slice Ao21 t459.length co21)) (fun _ hk => hk.2) (.slice Ao22 t462.length co22)) (fun _ hk => hk.1))))⟩; have n2_ : Aside0 (w23.heap[gb454]? = some (.cells #[.int .i64 a0_0, .slice A0_1 l0_1.length c0_1, .slice A0_2 l0_2.length c0_2] 51 (0, 0))) := ⟨(by rw [hw]; exact (by (with_reducible repeat (first | refine blk_drewN ?_ _ | refine blk_drew ?_ | refine blk_alloc ?_ _)); refine blk_far ?_ NB454_465.out _; (with_reducible repeat (first | refine blk_drewN ?_ _ | refine blk_drew ?_ | refine blk_alloc ?_ _)); refine blk_far ?_ NB454_465.out _; (with_reducible repeat (first | refine blk_drewN ?_ _ | refine blk_drew ?_ | refine blk_alloc ?_ _)); refine blk_far ?_ NB454_465.out _; exact Kz BK454.out))⟩; have n3_ : Aside0 (w23.heap[gb455]? = some (.cells #[.int .i64 0, .slice none 0 0, .slice none 0 0] 51 (0, 0))) := ⟨(by rw [hw]; exact (by (with_reducible repeat (first | refine blk_drewN ?_ _ | refine blk_drew ?_ | refine blk_alloc ?_ _)); refine blk_far ?_ NB455_465.out _; (with_reducible repeat (first | refine blk_drewN ?_ _ | refine blk_drew ?_ | refine blk_alloc ?_ _)); refine blk_far ?_ NB455_465.out _; (with_reducible repeat (first | refine blk_drewN ?_ _ | refine blk_drew ?_ | refine blk_alloc ?_ _)); refine blk_far ?_ NB455_465.out _; exact Kz BK455.out))⟩; have n4_ : Aside0 (w23.heap[gb465]? = some (.cells #[.int .i64 t458, .slice Ao21 t459.length co21, .slice Ao22 t462.length co22] 51 (0, 0))) := ⟨(by rw [hw]; exact (by (with_reducible repeat (first | refine blk_drewN ?_ _ | refine blk_drew ?_ | refine blk_alloc ?_ _)); refine blk_put (cs := #[.int .i64 t458, .slice Ao21 t459.length co21, .slice none 0 0]) ?_ 2 _ rfl; (with_reducible repeat (first | refine blk_drewN ?_ _ | refine blk_drew ?_ | refine blk_alloc ?_ _)); refine blk_put (cs := #[.int .i64 t458, .slice none 0 0, .slice none 0 0]) ?_ 1 _ rfl; (with_reducible repeat (first | refine blk_drewN ?_ _ | refine blk_drew ?_ | refine blk_alloc ?_ _)); refine blk_put (cs := #[.int .i64 0, .slice none 0 0, .slice none 0 0]) ?_ 0 _ rfl; exact Kz BK465.out))⟩; have n5_ : Aside0 (Below w.heap.size w w23) := ⟨(by rw [hw]; exact (Bq))⟩; clear hw HO461 HO464 BK454 BK455 BK465 HB; revert n0_ n1_ n2_ n3_ n4_ n5_; intro HO461 HO464 BK454 BK455 BK465 HB; obtain ⟨hcz24_0, hcz24_1, hcz24_2, hfz24_0, hfz24_1, hfz24_2⟩ := cf3 (w := w23) BK454; obtain ⟨hcz25_0, hcz25_1, hcz25_2, hfz25_0, hfz25_1, hfz25_2⟩ := cf3 (w := w23) BK465; have p9 : 0 ≤ (t456 : Int) := dT; have q9 : (t456 : Int) < ((t459.length : Int) : Int) := dT; obtain ⟨go9, co9, eo9, gb9, gl9, cl9, HG9⟩ := Kd.R_form HO461.out (by omega); (first | cases eo9 | (injection eo9 with ea_ en_ ec_; (first | subst ea_ | (injection ea_ with ea_; subst ea_)); subst ec_; clear en_)); have GB9 := am gb9; have GG9 := am HG9; clear gb9 gl9 HG9; obtain ⟨hx9_0, hf9_0⟩ := Kd.R_celln (⟨#[]⟩ : ByteArray) HO461.out (t456 : Int) p9 q9; replace p9 := eq_true p9; replace q9 := eq_true q9; obtain ⟨hy26_, hz26_⟩ := Kd.R_celln (⟨#[]⟩ : ByteArray) HO461.out (t456 : Int) (dT) (dT); have HP26 := Kd.R_putg HO461.out (t456 : Int) (⟨#[]⟩ : ByteArray)) | ((with_reducible refine gate_store (t := 9) (p := 29) rfl ?_); refine store_event (t := 9) (p := 29) (v := ?vo_w27) (w1 := (w23.setCell ⟨go9, (t456 : Int).toNat, none⟩ (.string (⟨#[]⟩ : ByteArray)))) ?hg ?ho ?hn ?hr ?_; (case ho => rfl); (case hg => rfl); (case hn => rfl); (case hr => first | (go_simp; done) | (go_simp; rfl)); intro w27 hw; have hg : w23.grownBy w27 (some go9) := (by rw [hw]; exact HP26.2); have hp_ : Kd.R Kd.string 9 w27 w.heap.size (fun k_ => some k_ ≠ (.slice Ao22 t462.length co22 : Value).ownBlock) (.slice (some ⟨go9, 0, none⟩) t459.length co21) y466 := (by rw [hw, Ny466.out]; exact HP26.1); clear HP26; have n0_ := am (blk_grown (g := gb454) (o := .cells #[.int .i64 a0_0, .slice A0_1 l0_1.length c0_1, .slice A0_2 l0_2.length c0_2] 51 (0, 0)) (Kz BK454.out) hg (Kd.R_ne HO461.out BK454.out (by decide))); have n1_ := am (blk_grown (g := gb455) (o := .cells #[.int .i64 0, .slice none 0 0, .slice none 0 0] 51 (0, 0)) (Kz BK455.out) hg (Kd.R_ne HO461.out BK455.out (by decide))); have n2_ := am (hp_); have n3_ := am (Kd.R_after (v := (.slice (some ⟨go9, 0, none⟩) t459.length co21)) (v1 := (.slice (some ⟨go9, 0, none⟩) t459.length co21)) (ok := (fun _ => True)) (Rz (Kd.R_mono HO464.out (fun _ hk => ⟨trivial, hk⟩))) hg (.inl rfl)); have n4_ := am (blk_grown (g := gb465) (o := .cells #[.int .i64 t458, .slice (some ⟨go9, 0, none⟩) t459.length co21, .slice Ao22 t462.length co22] 51 (0, 0)) (Kz BK465.out) hg (Kd.R_ne HO461.out BK465.out (by decide))); have n5_ := am ((by rw [hw]; exact below_set (HB.out) GB9.out : Below w.heap.size w w27)); clear BK454 BK455 HO461 HO464 BK465 HB; revert n0_ n1_ n2_ n3_ n4_ n5_; intro BK454 BK455 HO461 HO464 BK465 HB; clear hg hw hp_; obtain ⟨hcz28_0, hcz28_1, hcz28_2, hfz28_0, hfz28_1, hfz28_2⟩ := cf3 (w := w27) BK465; obtain ⟨hcz29_0, hcz29_1, hcz29_2, hfz29_0, hfz29_1, hfz29_2⟩ := cf3 (w := w27) BK455))
     refine bodyPost_ret (results_ct rfl _ _ gb455 51 #[.int .i64 t458, .slice (some ⟨go9, 0, none⟩) t459.length co21, .slice Ao22 t462.length co22] (0, 0) _ rfl (by (with_reducible repeat (first | refine blk_drewN ?_ _ | refine blk_drew ?_ | refine blk_alloc ?_ _)); refine blk_put (cs := #[.int .i64 t458, .slice (some ⟨go9, 0, none⟩) t459.length co21, .slice none 0 0]) ?_ 2 _ rfl; (with_reducible repeat (first | refine blk_drewN ?_ _ | refine blk_drew ?_ | refine blk_alloc ?_ _)); refine blk_put (cs := #[.int .i64 t458, .slice none 0 0, .slice none 0 0]) ?_ 1 _ rfl; (with_reducible repeat (first | refine blk_drewN ?_ _ | refine blk_drew ?_ | refine blk_alloc ?_ _)); refine blk_put (cs := #[.int .i64 0, .slice none 0 0, .slice none 0 0]) ?_ 0 _ rfl; exact Kz BK455.out) Try.underlying51 rfl (by kernel_rfl)) rfl ?_; exact ⟨_, _, eZ, Rz (Kd.R_mono (Kd.R_far (p := ⟨gb455, 2, none⟩) (Kd.R_far (p := ⟨gb455, 1, none⟩) (Kd.R_far (p := ⟨gb455, 0, none⟩) (Kd.R_types HO461.out BK455.out (by decide)) (fun _ hk => hk.2) (.int .i64 t458)) (fun _ hk => hk.2) (.slice (some ⟨go9, 0, none⟩) t459.length co21)) (fun _ hk => hk.2) (.slice Ao22 t462.length co22)) (fun _ hk => hk.1)), Rz (Kd.R_mono (Kd.R_far (p := ⟨gb455, 2, none⟩) (Kd.R_far (p := ⟨gb455, 1, none⟩) (Kd.R_far (p := ⟨gb455, 0, none⟩) (Kd.R_types HO464.out BK455.out (by decide)) (fun _ hk => hk.2) (.int .i64 t458)) (fun _ hk => hk.2) (.slice (some ⟨go9, 0, none⟩) t459.length co21)) (fun _ hk => hk.2) (.slice Ao22 t462.length co22)) (fun _ hk => hk.1.2)), Bq⟩
    ·rw [if_neg c8] at H
     exact absurd H (by simp)
   ·rw [if_neg c7] at H
    exact absurd H (by simp)
  ·rw [if_neg c6] at H
   have c6b0 : decide (t456 < (l0_1.length : Int)) = false := decide_eq_false c6; clear c6; replace H := Option.bind_eq_some_iff.mp H; obtain ⟨t467, A300, H⟩ := H; (try dsimp -simprocs only at H); have A30 := am A300; clear A300
   simp only [Option.some.injEq, Prod.mk.injEq] at H
   obtain ⟨rfl, rfl, rfl, rfl⟩ := H
   go_enter Try.func43, Try.ntmps43
   go_wp2_with (first | ((with_reducible refine gate_dst (N := 2) rfl ?_); refine bE 2 #[.int .i64 a0_0, .slice A0_1 l0_1.length c0_1, .slice A0_2 l0_2.length c0_2] 51 ?_; intro gb454 hg w31 hbox hb; have n0_ := Bb HB hb; have n1_ := am (hbox); have n2_ := Gl HB hg; have n3_ := Gl HB hg; clear HB; revert n0_ n1_ n2_ n3_; intro HB BK454 GW454 GE454; clear hb hbox hg) | ((with_reducible refine gate_dst (N := 4) rfl ?_); refine bE 4 #[.int .i64 0, .slice none 0 0, .slice none 0 0] 51 ?_; intro gb455 hg w32 hbox hb; have n0_ := Kb BK454 hb; have n1_ := Bc HB hb; have n2_ := am (hbox); have n3_ := Gm HB hg; have n4_ := Gm HB hg; have n5_ := Nl BK454 hg; have n6_ := Ng BK454 hg; clear BK454 HB; revert n0_ n1_ n2_ n3_ n4_ n5_ n6_; intro BK454 HB BK455 GW455 GE455 NB454_455 NB455_454; clear hb hbox hg; have hnb33 := NB454_455.out; have hnc33 := NB455_454.out; obtain ⟨hcz34_0, hcz34_1, hcz34_2, hfz34_0, hfz34_1, hfz34_2⟩ := cf3 (w := w32) BK454) | ((with_reducible refine gate_callee (f := 41) rfl ?_); refine gL (some 13) Try.func41 #[.agg #[.int .i64 a0_0, .slice A0_1 l0_1.length c0_1, .slice A0_2 l0_2.length c0_2], .string a1] ?_; (with_reducible refine (impl_CuckooFind.calls k a0_0 _ _ l0_1 _ _ l0_2 a1 t456 true _ ?side1 ?side2 ?side3 ?side4 A3.out).mono ?_); (case side1 => exact Cz (Kd.C_below HR0_1.out HB.out)); (case side2 => exact HC0_1.out); (case side3 => exact Cz (Kd.C_below HR0_2.out HB.out)); (case side4 => exact HC0_2.out); rintro e w35 ⟨rfl, hb⟩; refine ⟨_, rfl, ?_⟩; have n0_ := Kb BK454 hb; have n1_ := Kb BK455 hb; have n2_ := Bc HB hb; clear BK454 BK455 HB; revert n0_ n1_ n2_; intro BK454 BK455 HB; (try clear hb); (try clear hb2); (try clear hk); (try clear hi); obtain ⟨hcz36_0, hcz36_1, hcz36_2, hfz36_0, hfz36_1, hfz36_2⟩ := cf3 (w := w35) BK454) | ((with_reducible refine gate_callee (f := 103) rfl ?_); refine gL (some 20) Try.func103 #[.agg #[.int .i64 a0_0, .slice A0_1 l0_1.length c0_1, .slice A0_2 l0_2.length c0_2]] ?_; (with_reducible refine (impl_cloneCuckoo.calls a0_0 _ _ l0_1 _ _ l0_2 t458 t459 t462 _ ?side1 ?side2 ?side3 ?side4 A5.out).mono ?_); (case side1 => exact Cz (Kd.C_below HR0_1.out HB.out)); (case side2 => exact HC0_1.out); (case side3 => exact Cz (Kd.C_below HR0_2.out HB.out)); (case side4 => exact HC0_2.out); rintro e w37 ⟨v460, v463, rfl, ho0, ho1, hb⟩; refine ⟨_, rfl, ?_⟩; have n0_ := Rm ho0 HB; have n1_ := Rm ho1 HB; have n2_ := Kb BK454 hb; have n3_ := Kb BK455 hb; have n4_ := Bc HB hb; clear BK454 BK455 HB; revert n0_ n1_ n2_ n3_ n4_; intro HO461 HO464 BK454 BK455 HB; (try clear hb); (try clear hb2); (try clear hk); (try clear hi); (try clear ho0); (try clear ho1)) | ((with_reducible refine gate_dst (N := 8) rfl ?_); refine bE 8 #[.int .i64 0, .slice none 0 0, .slice none 0 0] 51 ?_; intro gb465 hg w38 hbox hb; have n0_ := Rb HO461 hb; have n1_ := Rb HO464 hb; have n2_ := Kb BK454 hb; have n3_ := Kb BK455 hb; have n4_ := Bc HB hb; have n5_ := am (hbox); have n6_ := Gm HB hg; have n7_ := Gm HB hg; have n8_ := Nl BK454 hg; have n9_ := Ng BK454 hg; have n10_ := Nl BK455 hg; have n11_ := Ng BK455 hg; clear HO461 HO464 BK454 BK455 HB; revert n0_ n1_ n2_ n3_ n4_ n5_ n6_ n7_ n8_ n9_ n10_ n11_; intro HO461 HO464 BK454 BK455 HB BK465 GW465 GE465 NB454_465 NB465_454 NB455_465 NB465_455; clear hb hbox hg; have hnb39 := NB465_454.out; have hnc39 := NB454_465.out; have hnb40 := NB465_455.out; have hnc40 := NB455_465.out; obtain ⟨hcz41_0, hcz41_1, hcz41_2, hfz41_0, hfz41_1, hfz41_2⟩ := cf3 (w := w38) BK465; obtain ⟨Ao42, co42, eo42⟩ := Kd.R_slice HO461.out; subst eo42; obtain ⟨Ao43, co43, eo43⟩ := Kd.R_slice HO464.out; subst eo43) | ((with_reducible refine gate_store (t := 51) (p := 8) rfl ?_); refine store_event (t := 51) (p := 8) (v := ?vo_w44) (w1 := (((w38.setCell ⟨gb465, 0, none⟩ (.int .i64 t458)).setCell ⟨gb465, 1, none⟩ (.slice Ao42 t459.length co42)).setCell ⟨gb465, 2, none⟩ (.slice Ao43 t462.length co43))) ?hg ?ho ?hn ?hr ?_; (case ho => rfl); (case hg => rfl); (case hn => rfl); (case hr => first | (go_simp; done) | (go_simp; rfl)); intro w44 hw; have n0_ : Aside0 (Kd.R Kd.string 9 w44 w.heap.size (fun k_ => some k_ ≠ (.slice Ao43 t462.length co43 : Value).ownBlock) (.slice Ao42 t459.length co42) t459) := ⟨(by rw [hw]; exact (Rz (Kd.R_mono (Kd.R_far (p := ⟨gb465, 2, none⟩) (Kd.R_far (p := ⟨gb465, 1, none⟩) (Kd.R_far (p := ⟨gb465, 0, none⟩) (Kd.R_types HO461.out BK465.out (by decide)) (fun _ hk => hk.2) (.int .i64 t458)) (fun _ hk => hk.2) (.slice Ao42 t459.length co42)) (fun _ hk => hk.2) (.slice Ao43 t462.length co43)) (fun _ hk => hk.1))))⟩; have n1_ : Aside0 (Kd.R Kd.string 9 w44 w.heap.size (fun k_ => some k_ ≠ (.slice Ao42 t459.length co42 : Value).ownBlock) (.slice Ao43 t462.length co43) t462) := ⟨(by rw [hw]; exact (Rz (Kd.R_mono (Kd.R_far (p := ⟨gb465, 2, none⟩) (Kd.R_far (p := ⟨gb465, 1, none⟩) (Kd.R_far (p := ⟨gb465, 0, none⟩) (Kd.R_types HO464.out BK465.out (by decide)) (fun _ hk => hk.2) (.int .i64 t458)) (fun _ hk => hk.2) (.slice Ao42 t459.length co42)) (fun _ hk => hk.2) (.slice Ao43 t462.length co43)) (fun _ hk => hk.1))))⟩; have n2_ : Aside0 (w44.heap[gb454]? = some (.cells #[.int .i64 a0_0, .slice A0_1 l0_1.length c0_1, .slice A0_2 l0_2.length c0_2] 51 (0, 0))) := ⟨(by rw [hw]; exact (by (with_reducible repeat (first | refine blk_drewN ?_ _ | refine blk_drew ?_ | refine blk_alloc ?_ _)); refine blk_far ?_ NB454_465.out _; (with_reducible repeat (first | refine blk_drewN ?_ _ | refine blk_drew ?_ | refine blk_alloc ?_ _)); refine blk_far ?_ NB454_465.out _; (with_reducible repeat (first | refine blk_drewN ?_ _ | refine blk_drew ?_ | refine blk_alloc ?_ _)); refine blk_far ?_ NB454_465.out _; exact Kz BK454.out))⟩; have n3_ : Aside0 (w44.heap[gb455]? = some (.cells #[.int .i64 0, .slice none 0 0, .slice none 0 0] 51 (0, 0))) := ⟨(by rw [hw]; exact (by (with_reducible repeat (first | refine blk_drewN ?_ _ | refine blk_drew ?_ | refine blk_alloc ?_ _)); refine blk_far ?_ NB455_465.out _; (with_reducible repeat (first | refine blk_drewN ?_ _ | refine blk_drew ?_ | refine blk_alloc ?_ _)); refine blk_far ?_ NB455_465.out _; (with_reducible repeat (first | refine blk_drewN ?_ _ | refine blk_drew ?_ | refine blk_alloc ?_ _)); refine blk_far ?_ NB455_465.out _; exact Kz BK455.out))⟩; have n4_ : Aside0 (w44.heap[gb465]? = some (.cells #[.int .i64 t458, .slice Ao42 t459.length co42, .slice Ao43 t462.length co43] 51 (0, 0))) := ⟨(by rw [hw]; exact (by (with_reducible repeat (first | refine blk_drewN ?_ _ | refine blk_drew ?_ | refine blk_alloc ?_ _)); refine blk_put (cs := #[.int .i64 t458, .slice Ao42 t459.length co42, .slice none 0 0]) ?_ 2 _ rfl; (with_reducible repeat (first | refine blk_drewN ?_ _ | refine blk_drew ?_ | refine blk_alloc ?_ _)); refine blk_put (cs := #[.int .i64 t458, .slice none 0 0, .slice none 0 0]) ?_ 1 _ rfl; (with_reducible repeat (first | refine blk_drewN ?_ _ | refine blk_drew ?_ | refine blk_alloc ?_ _)); refine blk_put (cs := #[.int .i64 0, .slice none 0 0, .slice none 0 0]) ?_ 0 _ rfl; exact Kz BK465.out))⟩; have n5_ : Aside0 (Below w.heap.size w w44) := ⟨(by rw [hw]; exact (Bq))⟩; clear hw HO461 HO464 BK454 BK455 BK465 HB; revert n0_ n1_ n2_ n3_ n4_ n5_; intro HO461 HO464 BK454 BK455 BK465 HB; obtain ⟨hcz45_0, hcz45_1, hcz45_2, hfz45_0, hfz45_1, hfz45_2⟩ := cf3 (w := w44) BK454; obtain ⟨hcz46_0, hcz46_1, hcz46_2, hfz46_0, hfz46_1, hfz46_2⟩ := cf3 (w := w44) BK465) | ((with_reducible refine gate_callee (f := 104) rfl ?_); refine gL (some 40) Try.func104 #[.slice Ao43 t462.length co43, .int .i64 (wrap64 (t456 - (l0_1.length : Int))), .int .i64 (wrap64 ((wrap64 (t456 - (l0_1.length : Int))) + 1))] ?_; (with_reducible refine (slices_Delete_string_string.calls (fun k_ => some k_ = (.slice Ao43 t462.length co43 : Value).ownBlock) (.slice Ao43 t462.length co43) t462 (wrap64 (t456 - (l0_1.length : Int))) (wrap64 ((wrap64 (t456 - (l0_1.length : Int))) + 1)) t467 w _ ?side1 ?side2 A30.out).mono ?_); (case side1 => repeat (first | (with_reducible first | exact HB.out | apply below_alloc | apply pw_below_drewN | apply below_drew1 | refine below_set ?_ GE454.out | refine below_set ?_ GE455.out | refine below_set ?_ GE465.out) | exact HB.out)); (case side2 => exact Kd.R_tight rfl HO464.out); rintro e w47 ⟨v468, rfl, ho0, hb, hkp⟩; refine ⟨_, rfl, ?_⟩; have n0_ := am (blk_kept (Kz BK454.out) hkp (fun hs_ => (fun e_ => (Kd.R_ne HO464.out BK454.out (by decide)) e_) hs_)); have n1_ := am (blk_kept (Kz BK455.out) hkp (fun hs_ => (fun e_ => (Kd.R_ne HO464.out BK455.out (by decide)) e_) hs_)); have n2_ := am (Kd.R_mono (ok' := fun k_ => some k_ ≠ (v468 : Value).ownBlock) (Kd.R_keptB (HO461.out) hkp (fun k_ hk_ hs_ => (hk_) hs_)) (fun k_ hk_ => fun e_ => Or.elim (ho0.1 k_ e_.symm) (fun hs_ => hk_.2.1 hs_) (fun hn_ => Nat.not_le.2 hk_.2.2 hn_))); have n3_ := am (blk_kept (Kz BK465.out) hkp (fun hs_ => (fun e_ => (Kd.R_ne HO464.out BK465.out (by decide)) e_) hs_)); have n4_ := am (Kd.R_mono (ok' := fun k_ => some k_ ≠ (.slice Ao42 t459.length co42 : Value).ownBlock) ho0 (fun k_ hk_ => Or.elim hk_ (fun hs_ => fun e_ => (((HO461.out).1 k_ e_.symm)) hs_) (fun hn_ => (Kd.fresh' (Kd.R_lt (Rz HO461.out)) k_ hn_)))); have n5_ := am (hb); clear BK454 BK455 HO461 BK465 HB HO464; revert n0_ n1_ n2_ n3_ n4_ n5_; intro BK454 BK455 HO461 BK465 HO469 HB; (try clear hb); (try clear hkp); (try clear ho0); obtain ⟨Ao48, co48, eo48⟩ := Kd.R_slice HO469.out; subst eo48; obtain ⟨hcz49_0, hcz49_1, hcz49_2, hfz49_0, hfz49_1, hfz49_2⟩ := cf3 (w := w47) BK465; obtain ⟨hcz50_0, hcz50_1, hcz50_2, hfz50_0, hfz50_1, hfz50_2⟩ := cf3 (w := w47) BK455))
   refine bodyPost_ret (results_ct rfl _ _ gb455 51 #[.int .i64 t458, .slice Ao42 t459.length co42, .slice Ao48 t467.length co48] (0, 0) _ rfl (by (with_reducible repeat (first | refine blk_drewN ?_ _ | refine blk_drew ?_ | refine blk_alloc ?_ _)); refine blk_put (cs := #[.int .i64 t458, .slice Ao42 t459.length co42, .slice none 0 0]) ?_ 2 _ rfl; (with_reducible repeat (first | refine blk_drewN ?_ _ | refine blk_drew ?_ | refine blk_alloc ?_ _)); refine blk_put (cs := #[.int .i64 t458, .slice none 0 0, .slice none 0 0]) ?_ 1 _ rfl; (with_reducible repeat (first | refine blk_drewN ?_ _ | refine blk_drew ?_ | refine blk_alloc ?_ _)); refine blk_put (cs := #[.int .i64 0, .slice none 0 0, .slice none 0 0]) ?_ 0 _ rfl; (with_reducible repeat (first | refine blk_drewN ?_ _ | refine blk_drew ?_ | refine blk_alloc ?_ _)); refine blk_far ?_ NB455_465.out _; exact Kz BK455.out) Try.underlying51 rfl (by kernel_rfl)) rfl ?_; exact ⟨_, _, eZ, Rz (Kd.R_mono (Kd.R_far (p := ⟨gb455, 2, none⟩) (Kd.R_far (p := ⟨gb455, 1, none⟩) (Kd.R_far (p := ⟨gb455, 0, none⟩) (Kd.R_far (p := ⟨gb465, 2, none⟩) (Kd.R_types (Kd.R_types HO461.out BK465.out (by decide)) BK455.out (by decide)) (fun _ hk => hk.1.2) (.slice Ao48 t467.length co48)) (fun _ hk => hk.2) (.int .i64 t458)) (fun _ hk => hk.2) (.slice Ao42 t459.length co42)) (fun _ hk => hk.2) (.slice Ao48 t467.length co48)) (fun _ hk => hk.1.1)), Rz (Kd.R_mono (Kd.R_far (p := ⟨gb455, 2, none⟩) (Kd.R_far (p := ⟨gb455, 1, none⟩) (Kd.R_far (p := ⟨gb455, 0, none⟩) (Kd.R_far (p := ⟨gb465, 2, none⟩) (Kd.R_types (Kd.R_types HO469.out BK465.out (by decide)) BK455.out (by decide)) (fun _ hk => hk.1.2) (.slice Ao48 t467.length co48)) (fun _ hk => hk.2) (.int .i64 t458)) (fun _ hk => hk.2) (.slice Ao42 t459.length co42)) (fun _ hk => hk.2) (.slice Ao48 t467.length co48)) (fun _ hk => hk.1.1)), Bq⟩
 ·replace c4 := Bool.eq_false_iff.mpr c4
  subst c4
  rw [if_neg (show ¬ (false = true) by decide)] at H
  simp only [Option.some.injEq, Prod.mk.injEq] at H
  obtain ⟨rfl, rfl, rfl, rfl⟩ := H
  go_enter Try.func43, Try.ntmps43
  go_wp2_with (first | ((with_reducible refine gate_dst (N := 2) rfl ?_); refine bE 2 #[.int .i64 a0_0, .slice A0_1 l0_1.length c0_1, .slice A0_2 l0_2.length c0_2] 51 ?_; intro gb454 hg w51 hbox hb; have n0_ := Bb HB hb; have n1_ := am (hbox); have n2_ := Gl HB hg; have n3_ := Gl HB hg; clear HB; revert n0_ n1_ n2_ n3_; intro HB BK454 GW454 GE454; clear hb hbox hg) | ((with_reducible refine gate_dst (N := 4) rfl ?_); refine bE 4 #[.int .i64 0, .slice none 0 0, .slice none 0 0] 51 ?_; intro gb455 hg w52 hbox hb; have n0_ := Kb BK454 hb; have n1_ := Bc HB hb; have n2_ := am (hbox); have n3_ := Gm HB hg; have n4_ := Gm HB hg; have n5_ := Nl BK454 hg; have n6_ := Ng BK454 hg; clear BK454 HB; revert n0_ n1_ n2_ n3_ n4_ n5_ n6_; intro BK454 HB BK455 GW455 GE455 NB454_455 NB455_454; clear hb hbox hg; have hnb53 := NB454_455.out; have hnc53 := NB455_454.out; obtain ⟨hcz54_0, hcz54_1, hcz54_2, hfz54_0, hfz54_1, hfz54_2⟩ := cf3 (w := w52) BK454) | ((with_reducible refine gate_callee (f := 41) rfl ?_); refine gL (some 13) Try.func41 #[.agg #[.int .i64 a0_0, .slice A0_1 l0_1.length c0_1, .slice A0_2 l0_2.length c0_2], .string a1] ?_; (with_reducible refine (impl_CuckooFind.calls k a0_0 _ _ l0_1 _ _ l0_2 a1 t456 false _ ?side1 ?side2 ?side3 ?side4 A3.out).mono ?_); (case side1 => exact Cz (Kd.C_below HR0_1.out HB.out)); (case side2 => exact HC0_1.out); (case side3 => exact Cz (Kd.C_below HR0_2.out HB.out)); (case side4 => exact HC0_2.out); rintro e w55 ⟨rfl, hb⟩; refine ⟨_, rfl, ?_⟩; have n0_ := Kb BK454 hb; have n1_ := Kb BK455 hb; have n2_ := Bc HB hb; clear BK454 BK455 HB; revert n0_ n1_ n2_; intro BK454 BK455 HB; (try clear hb); (try clear hb2); (try clear hk); (try clear hi); obtain ⟨hcz56_0, hcz56_1, hcz56_2, hfz56_0, hfz56_1, hfz56_2⟩ := cf3 (w := w55) BK455))
  refine bodyPost_ret (results_ct rfl _ _ gb455 51 #[.int .i64 0, .slice none 0 0, .slice none 0 0] (0, 0) _ rfl (by (with_reducible repeat (first | refine blk_drewN ?_ _ | refine blk_drew ?_ | refine blk_alloc ?_ _)); refine blk_put (cs := #[.int .i64 0, .slice none 0 0, .slice none 0 0]) ?_ 2 _ rfl; (with_reducible repeat (first | refine blk_drewN ?_ _ | refine blk_drew ?_ | refine blk_alloc ?_ _)); refine blk_put (cs := #[.int .i64 0, .slice none 0 0, .slice none 0 0]) ?_ 1 _ rfl; (with_reducible repeat (first | refine blk_drewN ?_ _ | refine blk_drew ?_ | refine blk_alloc ?_ _)); refine blk_put (cs := #[.int .i64 0, .slice none 0 0, .slice none 0 0]) ?_ 0 _ rfl; exact Kz BK455.out) Try.underlying51 rfl (by kernel_rfl)) rfl ?_; exact ⟨_, _, eZ, nZ, nZ, Bq⟩

def laws_rHasText.l0 : Nat → ByteArray → List ByteArray → Int → Int → Option (Bool)
 | 0, _, _, _, _ => none
 | k + 1, x1, x7, x8, x9 => if x9 < x8 then (if 0 ≤ x9 then (if x9 < (x7.length : Int) then (if (rdOf ByteArray.empty x7 x9).toList = x1.toList then (some true) else (laws_rHasText.l0 k x1 x7 x8 (wrap64 (x9 + 1)))) else (none)) else (none)) else (some false)
def laws_rHasText.f (k : Nat) (l0 : List ByteArray) (a1 : ByteArray) : Option (Bool) := laws_rHasText.l0 k a1 l0 (l0.length : Int) 0
theorem laws_rHasText.calls (k : Nat) (A0 : Option Addr) (c0 : Nat) (l0 : List ByteArray) (a1 : ByteArray) (r : Bool) (w : World) (hr0 : Kd.C Kd.string w A0 l0.length l0) (hc0 : l0.length ≤ c0) (h : laws_rHasText.f k l0 a1 = some r) :
  Calls Try.prog 47 #[.slice A0 l0.length c0, .string a1] w fun e w' => e = .returned (.bool r) ∧ Drawn0 w w' := by
 have HR0 := am hr0; have HC0 := am hc0; clear hr0 hc0; have H : (laws_rHasText.l0 k a1 l0 (l0.length : Int) 0) = some r := h; clear h; have H' := am H; clear H
 go_enter Try.func47, Try.ntmps47
 go_wp2
 go_loopg [9] k (fun kq v9 w' => ∃ (x9_1 : Int), v9 = .int .i64 x9_1 ∧ Aside0 (laws_rHasText.l0 kq a1 l0 (l0.length : Int) x9_1 = some r) ∧ Aside0 (kq ≤ k) ∧ Drawn0 w w')
 case atStart => exact ⟨(0), wZ, H', ⟨Nat.le_refl _⟩, by repeat (first | exact Drawn0.refl _ | apply Drawn0.step)⟩
 case round =>
  clear H'
  try clear p2
  obtain ⟨x9_1, rfl, HA, HK1, ⟨m1, rfl⟩⟩ := hrel; cases gk with
  | zero => exact absurd HA.out (by simp [laws_rHasText.l0])
  | succ k1 =>
   have H := HA.out; clear HA
   simp only [laws_rHasText.l0] at H
   by_cases c3 : x9_1 < (l0.length : Int)
   ·rw [if_pos c3] at H
    have c3b0 : decide (x9_1 < (l0.length : Int)) = true := decide_eq_true c3; clear c3
    by_cases c4 : 0 ≤ x9_1
    ·rw [if_pos c4] at H
     have c4b0 : decide (0 ≤ x9_1) = true := decide_eq_true c4; clear c4
     by_cases c5 : x9_1 < (l0.length : Int)
     ·rw [if_pos c5] at H
      have c5b0 : decide (x9_1 < (l0.length : Int)) = true := decide_eq_true c5; clear c5
      by_cases c6 : (rdOf ByteArray.empty l0 x9_1).toList = a1.toList
      ·rw [if_pos c6] at H
       have c6b0 : ((rdOf ByteArray.empty l0 x9_1).toList == a1.toList) = true := beq_iff_eq.mpr c6; have c6b1 : ((rdOf ByteArray.empty l0 x9_1).toList != a1.toList) = false := bne_eq_false_iff_eq.mpr c6; clear c6; obtain rfl := Option.some.inj H; obtain ⟨ad497, e497, hx497_0⟩ := Kd.at_string HR0.out x9_1 dT dT; cases e497; have p497 := eT (0 ≤ (x9_1 : Int)); have q497 := eT (x9_1 < (l0.length : Int))
       go_wp2
       go_ret
       exact ⟨by first | rfl | (simp; done) | (simp [*]; done), by repeat (first | exact Drawn0.refl _ | apply Drawn0.step)⟩
      ·rw [if_neg c6] at H
       have c6b0 : ((rdOf ByteArray.empty l0 x9_1).toList == a1.toList) = false := beq_eq_false_iff_ne.mpr c6; have c6b1 : ((rdOf ByteArray.empty l0 x9_1).toList != a1.toList) = true := bne_iff_ne.mpr c6; have H' := am H; clear H; obtain ⟨ad497, e497, hx497_0⟩ := Kd.at_string HR0.out x9_1 dT dT; cases e497; have p497 := eT (0 ≤ (x9_1 : Int)); have q497 := eT (x9_1 < (l0.length : Int))
       go_wp2
       go_roundg k1
       case measure => have := HK1.out; omega
       case rel => exact ⟨(wrap64 (x9_1 + 1)), wZ, H', ⟨by have := HK1.out; omega⟩, by repeat (first | exact Drawn0.refl _ | apply Drawn0.step)⟩
     ·rw [if_neg c5] at H
      exact absurd H (by simp)
    ·rw [if_neg c4] at H
     exact absurd H (by simp)
   ·rw [if_neg c3] at H
    have c3b0 : decide (x9_1 < (l0.length : Int)) = false := decide_eq_false c3; clear c3; obtain rfl := Option.some.inj H
    go_wp2
    go_ret
    exact ⟨by first | rfl | (simp; done) | (simp [*]; done), by repeat (first | exact Drawn0.refl _ | apply Drawn0.step)⟩

end Go.Proofs.Ytephjmmkggcmeaa.PG
