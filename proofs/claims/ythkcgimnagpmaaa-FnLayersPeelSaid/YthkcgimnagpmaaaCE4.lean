import Derived.Test.YthkcgimnagpmaaaCE1
import Derived.Test.YthkcgimnagpmaaaCE2
import Derived.Test.YthkcgimnagpmaaaCE3
import Derived.Test.YthkcgimnagpmaaaCE0
import Derived.Lib.Bytes
-- printed by a program of this session (wip/gp) out of the translation; Lean checks it
namespace Go.Proofs.Ythkcgimnagpmaaa.PA
open Go.RowKit Go.Proofs.YthkcgimnagpmaaaW.PrintWords Go.Proofs.YthkcgimnagpmaaaW.PrintLast Go.Proofs.YthkcgimnagpmaaaW.PrintMore Go.Proofs.YthkcgimnagpmaaaSq
attribute [local go_sem] max2_int min2_int max_two min_two max_three min_three max_four min_four   -- for this text's walks alone
attribute [local go_sem] Go.Proofs.YthkcgimnagpmaaaGp.str_geq Go.Proofs.YthkcgimnagpmaaaGp.str_gtr Go.Proofs.YthkcgimnagpmaaaGp.str_leq
set_option linter.unusedVariables false
set_option linter.unusedSimpArgs false

set_option maxHeartbeats 8000000
set_option maxRecDepth 100000
mutual
def laws_FnLayersPeel.j0 : Nat → List (List Int) → List (List Int) → Bool → Bool → Int → List (List Int) → Option (Bool)
 | 0, _, _, _, _, _, _ => none
 | k + 1, x6, x8, x9, x44, x1272000, x1272001 => if x44 = true then (some false) else (if x9 = true then ((impl_CoreOf.f k x1272000 x1272001).bind fun bt1280 => ((impl_HyperDegrees.f k x1272000 x1272001).bind fun bt1284 => (if bt1280.2 = true then (laws_FnLayersPeel.j1 k x6 x8 bt1280.1 bt1284.1 (!bt1284.2) x1272000 x1272001) else (laws_FnLayersPeel.j1 k x6 x8 bt1280.1 bt1284.1 true x1272000 x1272001)))) else (some true))
def laws_FnLayersPeel.j1 : Nat → List (List Int) → List (List Int) → List Int → List Int → Bool → Int → List (List Int) → Option (Bool)
 | 0, _, _, _, _, _, _, _ => none
 | k + 1, x6, x8, x10, x12, x62, x1272000, x1272001 => if x62 = true then (some false) else ((some (([] : List Int) : List Int)).bind fun y1288 => (if y1288.length + x10.length < 17592186044416 then (laws_FnLayersPeel.l0 k x6 x8 x12 (y1288 ++ x10) x6 (x6.length : Int) 0 x1272000 x1272001) else (none)))
def laws_FnLayersPeel.l0 : Nat → List (List Int) → List (List Int) → List Int → List Int → List (List Int) → Int → Int → Int → List (List Int) → Option (Bool)
 | 0, _, _, _, _, _, _, _, _, _ => none
 | k + 1, x6, x8, x12, x14, x66, x67, x68, x1272000, x1272001 => if x68 < x67 then (if 0 ≤ x68 then (if x68 < (x66.length : Int) then (if x68 < (x8.length : Int) then ((laws_pSameInts.f k (rd_L2 x66 x68) (rd_L2 x8 x68)).bind fun t1296 => (if t1296 = true then (if ((rd_L2 x66 x68).length : Int) = 0 then (some false) else (if x14.length + (rd_L2 x66 x68).length < 17592186044416 then (laws_FnLayersPeel.l0 k x6 x8 x12 (x14 ++ (rd_L2 x66 x68)) x66 x67 (wrap64 (x68 + 1)) x1272000 x1272001) else (none))) else (some false))) else (none)) else (none)) else (none)) else ((laws_pAllOnce.f k x14 (x1272001.length : Int)).bind fun t1300 => (if t1300 = true then (laws_FnLayersPeel.l1 k x6 x12 x1272001 (x1272001.length : Int) 0) else (some false)))
def laws_FnLayersPeel.l1 : Nat → List (List Int) → List Int → List (List Int) → Int → Int → Option (Bool)
 | 0, _, _, _, _, _ => none
 | k + 1, x6, x12, x96, x97, x98 => if x98 < x97 then (if 0 ≤ x98 then (if x98 < (x96.length : Int) then (if 0 < ((rd_L2 x96 x98).length : Int) then (if 0 ≤ (rd (rd_L2 x96 x98) 0) then (if (rd (rd_L2 x96 x98) 0) < (x12.length : Int) then (if (rd x12 (rd (rd_L2 x96 x98) 0)) = 1 then (if (x6.length : Int) > 0 then (if 0 < (x6.length : Int) then ((laws_pHas.f k (rd_L2 x6 0) x98).bind fun t1305 => (if (true != t1305) = true then (some false) else (laws_FnLayersPeel.l1 k x6 x12 x96 x97 (wrap64 (x98 + 1))))) else (none)) else (if (true != false) = true then (some false) else (laws_FnLayersPeel.l1 k x6 x12 x96 x97 (wrap64 (x98 + 1))))) else (if 1 < ((rd_L2 x96 x98).length : Int) then (if 0 ≤ (rd (rd_L2 x96 x98) 1) then (if (rd (rd_L2 x96 x98) 1) < (x12.length : Int) then (if (rd x12 (rd (rd_L2 x96 x98) 1)) = 1 then (if (x6.length : Int) > 0 then (if 0 < (x6.length : Int) then ((laws_pHas.f k (rd_L2 x6 0) x98).bind fun t1309 => (if (true != t1309) = true then (some false) else (laws_FnLayersPeel.l1 k x6 x12 x96 x97 (wrap64 (x98 + 1))))) else (none)) else (if (true != false) = true then (some false) else (laws_FnLayersPeel.l1 k x6 x12 x96 x97 (wrap64 (x98 + 1))))) else (if 2 < ((rd_L2 x96 x98).length : Int) then (if 0 ≤ (rd (rd_L2 x96 x98) 2) then (if (rd (rd_L2 x96 x98) 2) < (x12.length : Int) then (if (x6.length : Int) > 0 then (if 0 < (x6.length : Int) then ((laws_pHas.f k (rd_L2 x6 0) x98).bind fun t1313 => (if (((rd x12 (rd (rd_L2 x96 x98) 2)) == 1) != t1313) = true then (some false) else (laws_FnLayersPeel.l1 k x6 x12 x96 x97 (wrap64 (x98 + 1))))) else (none)) else (if (((rd x12 (rd (rd_L2 x96 x98) 2)) == 1) != false) = true then (some false) else (laws_FnLayersPeel.l1 k x6 x12 x96 x97 (wrap64 (x98 + 1))))) else (none)) else (none)) else (none))) else (none)) else (none)) else (none))) else (none)) else (none)) else (none)) else (none)) else (none)) else (some true)
end
def laws_FnLayersPeel.f (k : Nat) (l0 : List Int) (l1 : List Int) : Option (Bool) := (laws_big.f l0 l1).bind fun t1266 => (if t1266 = true then (some true) else ((spec_DrawLayersOf.f k l0).bind fun bt1267 => ((impl_LayersOf.f k bt1267.1 bt1267.2).bind fun bt1272 => ((spec_LayersOf.f k bt1267.1 bt1267.2).bind fun bt1276 => (if (bt1272.2 != bt1276.2) = true then (laws_FnLayersPeel.j0 k bt1272.1 bt1276.1 bt1276.2 true bt1267.1 bt1267.2) else (laws_FnLayersPeel.j0 k bt1272.1 bt1276.1 bt1276.2 ((bt1272.1.length : Int) != (bt1276.1.length : Int)) bt1267.1 bt1267.2))))))
theorem laws_FnLayersPeel.calls (k : Nat) (A0 : Option Addr) (c0 : Nat) (l0 : List Int) (A1 : Option Addr) (c1 : Nat) (l1 : List Int) (r : Bool) (w : World) (hr0 : Kd.C (Kd.int .u8) w A0 l0.length l0) (hc0 : l0.length ≤ c0) (hr1 : Kd.C (Kd.int .u8) w A1 l1.length l1) (hc1 : l1.length ≤ c1) (h : laws_FnLayersPeel.f k l0 l1 = some r) :
  Calls Try.prog 4 #[.slice A0 l0.length c0, .slice A1 l1.length c1] w fun e w' => e = .returned (.bool r) ∧ Below w.heap.size w w' := by
 have hu37 := Try.underlying37; have HR0 := am hr0; have HC0 := am hc0; clear hr0 hc0; have HR1 := am hr1; have HC1 := am hc1; clear hr1 hc1; have HB := am (Below.refl w.heap.size w); have H : ((laws_big.f l0 l1).bind fun t1266 => (if t1266 = true then (some true) else ((spec_DrawLayersOf.f k l0).bind fun bt1267 => ((impl_LayersOf.f k bt1267.1 bt1267.2).bind fun bt1272 => ((spec_LayersOf.f k bt1267.1 bt1267.2).bind fun bt1276 => (if (bt1272.2 != bt1276.2) = true then (laws_FnLayersPeel.j0 k bt1272.1 bt1276.1 bt1276.2 true bt1267.1 bt1267.2) else (laws_FnLayersPeel.j0 k bt1272.1 bt1276.1 bt1276.2 ((bt1272.1.length : Int) != (bt1276.1.length : Int)) bt1267.1 bt1267.2))))))) = some r := h; clear h; replace H := Option.bind_eq_some_iff.mp H; obtain ⟨t1266, A30, H⟩ := H; (try dsimp -simprocs only at H); have A3 := am A30; clear A30
 by_cases c4 : t1266 = true
 ·subst c4
  rw [if_pos rfl] at H; obtain rfl := Option.some.inj H
  go_enter Try.func4, Try.ntmps4
  go_wp2_with (first | ((with_reducible refine gate_callee (f := 12) rfl ?_); refine gL (some 22) Try.func12 #[.slice A0 l0.length c0, .slice A1 l1.length c1] ?_; (with_reducible refine (laws_big.calls _ _ l0 _ _ l1 true _ ?side1 ?side2 ?side3 ?side4 A3.out).mono ?_); (case side1 => exact Cz HR0.out); (case side2 => exact HC0.out); (case side3 => exact Cz HR1.out); (case side4 => exact HC1.out); rintro e w' ⟨rfl, ⟨nd, rfl⟩⟩; refine ⟨_, rfl, ?_⟩))
  go_ret
  exact ⟨eZ, Bz HB.out⟩
 ·replace c4 := Bool.eq_false_iff.mpr c4
  subst c4
  rw [if_neg (show ¬ (false = true) by decide)] at H; replace H := Option.bind_eq_some_iff.mp H; obtain ⟨⟨t1267, t1268⟩, A50, H⟩ := H; (try dsimp -simprocs only at H); have A5 := am A50; clear A50; replace H := Option.bind_eq_some_iff.mp H; obtain ⟨⟨t1272, t1275⟩, A60, H⟩ := H; (try dsimp -simprocs only at H); have A6 := am A60; clear A60; replace H := Option.bind_eq_some_iff.mp H; obtain ⟨⟨t1276, t1279⟩, A70, H⟩ := H; (try dsimp -simprocs only at H); have A7 := am A70; clear A70; have HC8 := am H; clear H
  go_enter Try.func4, Try.ntmps4
  go_upto_region 6 with (first | ((with_reducible refine gate_callee (f := 12) rfl ?_); refine gL (some 22) Try.func12 #[.slice A0 l0.length c0, .slice A1 l1.length c1] ?_; (with_reducible refine (laws_big.calls _ _ l0 _ _ l1 false _ ?side1 ?side2 ?side3 ?side4 A3.out).mono ?_); (case side1 => exact Cz HR0.out); (case side2 => exact HC0.out); (case side3 => exact Cz HR1.out); (case side4 => exact HC1.out); rintro e w' ⟨rfl, ⟨nd, rfl⟩⟩; refine ⟨_, rfl, ?_⟩) | ((with_reducible refine gate_callee (f := 19) rfl ?_); refine gL (some 24) Try.func19 #[.slice A0 l0.length c0] ?_; (with_reducible refine (spec_DrawLayersOf.calls k _ _ l0 t1267 t1268 _ ?side1 ?side2 A5.out).mono ?_); (case side1 => exact Cz HR0.out); (case side2 => exact HC0.out); rintro e w9 ⟨v1269, rfl, ho0, hb⟩; refine ⟨_, rfl, ?_⟩; have n0_ := am (Kd.S_lower ho0 (below_size (Bz HB.out))); have n1_ := Bb HB hb; clear HB; revert n0_ n1_; intro HO1270 HB; (try clear hb); (try clear hb2); (try clear hk); (try clear hi); (try clear ho0)) | ((with_reducible refine gate_dst (N := 5) rfl ?_); (try (refine gate_guard (by rfl) ?_; dsimp only)); refine bE 5 #[.int .i64 0, .slice none 0 0] 37 ?_; intro gb1271 hg w10 hbox hb; have n0_ := am (Kd.S_below (by (with_reducible repeat (first | apply Kd.S_alloc | apply Kd.S_drewN | apply Kd.S_drew)); exact HO1270.out) hb); have n1_ := Bb HB hb; have n2_ := am (hbox); have n3_ := Gl HB hg; have n4_ := Gl HB hg; clear HO1270 HB; revert n0_ n1_ n2_ n3_ n4_; intro HO1270 HB BK1271 GW1271 GE1271; clear hb hbox hg; obtain ⟨hcz11_0, hcz11_1, hfz11_0, hfz11_1⟩ := cf2 (w := w10) BK1271; obtain ⟨Ao12, co12, eo12⟩ := Kd.S_slice HO1270.out; subst eo12) | ((with_reducible refine gate_callee (f := 20) rfl ?_); refine gL (some 27) Try.func20 #[.agg #[.int .i64 t1267, .slice Ao12 t1268.length co12]] ?_; (with_reducible refine (impl_LayersOf.calls k t1267 _ _ t1268 t1272 t1275 _ ?side1 ?side2 A6.out).mono ?_); (case side1 => refine (Kd.S_reads' (e := 32) (base := w.heap.size) (ok := fun k_ => True) (n := t1268.length) (c := co12) ?_).2.2; exact (by (with_reducible repeat (first | apply Kd.S_alloc | apply Kd.S_drewN | apply Kd.S_drew)); exact (Kd.S_mono (Kd.S_far (p := ⟨gb1271, 1, none⟩) (Kd.S_far (p := ⟨gb1271, 0, none⟩) (Kd.S_types HO1270.out BK1271.out (by decide)) (fun _ hk => hk.2) (.int .i64 t1267)) (fun _ hk => hk.2) (.slice Ao12 t1268.length co12)) (fun _ h_ => h_.1)))); (case side2 => exact (Kd.S_reads' HO1270.out).2.1); rintro e w13 ⟨v1273, rfl, ho0, hb⟩; refine ⟨_, rfl, ?_⟩; have n0_ := am (Kd.S_elder' (by (with_reducible repeat (first | apply Kd.S_alloc | apply Kd.S_drewN | apply Kd.S_drew)); exact (Kd.S_mono (Kd.S_far (p := ⟨gb1271, 1, none⟩) (Kd.S_far (p := ⟨gb1271, 0, none⟩) (Kd.S_types HO1270.out BK1271.out (by decide)) (fun _ hk => hk.2) (.int .i64 t1267)) (fun _ hk => hk.2) (.slice Ao12 t1268.length co12)) (fun _ h_ => h_.1))) (Kd.S_base ho0) hb); have n1_ := am (Kd.S_lower (Kd.S_new' ho0 (Kd.S_lt (by (with_reducible repeat (first | apply Kd.S_alloc | apply Kd.S_drewN | apply Kd.S_drew)); exact (Kd.S_mono (Kd.S_far (p := ⟨gb1271, 1, none⟩) (Kd.S_far (p := ⟨gb1271, 0, none⟩) (Kd.S_types HO1270.out BK1271.out (by decide)) (fun _ hk => hk.2) (.int .i64 t1267)) (fun _ hk => hk.2) (.slice Ao12 t1268.length co12)) (fun _ h_ => h_.1))))) (below_size (w := w) (Bq))); have n2_ := am (blk_below (g := gb1271) (o := .cells #[.int .i64 t1267, .slice Ao12 t1268.length co12] 37 (0, 0)) (by (with_reducible repeat (first | refine blk_drewN ?_ _ | refine blk_drew ?_ | refine blk_alloc ?_ _)); refine blk_put (cs := #[.int .i64 t1267, .slice none 0 0]) ?_ 1 _ rfl; (with_reducible repeat (first | refine blk_drewN ?_ _ | refine blk_drew ?_ | refine blk_alloc ?_ _)); refine blk_put (cs := #[.int .i64 0, .slice none 0 0]) ?_ 0 _ rfl; exact Kz BK1271.out) hb); have n3_ := Bc HB hb; clear HO1270 BK1271 HB; revert n0_ n1_ n2_ n3_; intro HO1270 HO1274 BK1271 HB; (try clear hb); (try clear hb2); (try clear hk); (try clear hi); (try clear ho0); obtain ⟨hcz14_0, hcz14_1, hfz14_0, hfz14_1⟩ := cf2 (w := w13) BK1271) | ((with_reducible refine gate_callee (f := 21) rfl ?_); refine gL (some 32) Try.func21 #[.agg #[.int .i64 t1267, .slice Ao12 t1268.length co12]] ?_; (with_reducible refine (spec_LayersOf.calls k t1267 _ _ t1268 t1276 t1279 _ ?side1 ?side2 A7.out).mono ?_); (case side1 => exact Cz ((Kd.S_reads' HO1270.out).2.2)); (case side2 => exact (Kd.S_reads' HO1270.out).2.1); rintro e w15 ⟨v1277, rfl, ho0, hb⟩; refine ⟨_, rfl, ?_⟩; have n0_ := am (Kd.S_elder' (by (with_reducible repeat (first | apply Kd.S_alloc | apply Kd.S_drewN | apply Kd.S_drew)); exact HO1270.out) (Kd.S_base ho0) hb); have n1_ := am (Kd.S_elder' (by (with_reducible repeat (first | apply Kd.S_alloc | apply Kd.S_drewN | apply Kd.S_drew)); exact HO1274.out) (Kd.S_base ho0) hb); have n2_ := am (Kd.S_lower (Kd.S_new' (Kd.S_new' ho0 (Kd.S_lt (by (with_reducible repeat (first | apply Kd.S_alloc | apply Kd.S_drewN | apply Kd.S_drew)); exact HO1270.out))) (Kd.S_lt (by (with_reducible repeat (first | apply Kd.S_alloc | apply Kd.S_drewN | apply Kd.S_drew)); exact HO1274.out))) (below_size (w := w) (Bq))); have n3_ := Kb BK1271 hb; have n4_ := Bc HB hb; clear HO1270 HO1274 BK1271 HB; revert n0_ n1_ n2_ n3_ n4_; intro HO1270 HO1274 HO1278 BK1271 HB; (try clear hb); (try clear hb2); (try clear hk); (try clear hi); (try clear ho0)))
  (try simp only [aP])
  go_cut [44] (fun v44 wc => ∃ (kq : Nat) (x44_7 : Bool), v44 = .bool x44_7 ∧ Aside0 (laws_FnLayersPeel.j0 kq t1272 t1276 t1279 x44_7 t1267 t1268 = some r) ∧ Aside0 (kq ≤ k) ∧ Aside0 (Kd.S (Kd.slice 3 (Kd.int .i64)) 32 wc w.heap.size (fun k_ => some k_ ≠ (v1277 : Value).ownBlock ∧ some k_ ≠ ((.slice Ao12 t1268.length co12) : Value).ownBlock) v1273 t1272) ∧ Aside0 (Kd.S (Kd.slice 3 (Kd.int .i64)) 32 wc w.heap.size (fun k_ => some k_ ≠ (v1273 : Value).ownBlock ∧ some k_ ≠ ((.slice Ao12 t1268.length co12) : Value).ownBlock) v1277 t1276) ∧ Aside0 (Kd.S (Kd.slice 3 (Kd.int .i64)) 32 wc w.heap.size (fun k_ => some k_ ≠ (v1273 : Value).ownBlock ∧ some k_ ≠ (v1277 : Value).ownBlock) (.slice Ao12 t1268.length co12) t1268) ∧ Aside0 (wc.heap[gb1271]? = some (.cells #[.int .i64 t1267, (.slice Ao12 t1268.length co12)] 37 (0, 0))) ∧ Aside0 (Below w.heap.size w wc))
  case first =>
   have H := HC8.out; clear HC8
   by_cases c16 : (t1275 != t1279) = true
   ·rw [if_pos c16] at H
    have c16b0 : (t1275 != t1279) = true := c16
    (try (have c16b1 : decide (t1275 = t1279) = false := by simpa using c16))
    (try (have c16b2 : (t1275 == t1279) = false := by simpa using c16))
    (try (have c16b3 : ¬ (t1275 = t1279) := by simpa using c16))
    clear c16
    (first | rw [c16b0] | (simp only [i64_w, i32_w]; rw [c16b0]) | skip)
    have H' := am H; clear H
    go_wp2
    go_meet
    case rel => exact ⟨_, (true), wZ, H', ⟨by first | omega | exact Nat.le_refl _⟩, ⟨by (with_reducible repeat (first | apply Kd.S_alloc | apply Kd.S_drewN | apply Kd.S_drew)); exact Kd.S_mono HO1274.out (fun _ hk => ⟨hk.2, hk.1.2⟩)⟩, ⟨by (with_reducible repeat (first | apply Kd.S_alloc | apply Kd.S_drewN | apply Kd.S_drew)); exact Kd.S_mono HO1278.out (fun _ hk => ⟨hk.2, hk.1.2⟩)⟩, ⟨by (with_reducible repeat (first | apply Kd.S_alloc | apply Kd.S_drewN | apply Kd.S_drew)); exact Kd.S_mono HO1270.out (fun _ hk => ⟨hk.1.2, hk.2⟩)⟩, ⟨Kz BK1271.out⟩, ⟨Bq⟩⟩
   ·rw [if_neg c16] at H
    have c16b0 : (t1275 != t1279) = false := by simpa using c16
    (try (have c16b1 : decide (t1275 = t1279) = true := by simpa using c16))
    (try (have c16b2 : (t1275 == t1279) = true := by simpa using c16))
    clear c16
    (first | rw [c16b0] | (simp only [i64_w, i32_w]; rw [c16b0]) | skip)
    have H' := am H; clear H; obtain ⟨Ao17, co17, eo17⟩ := Kd.S_slice HO1274.out; subst eo17; obtain ⟨Ao18, co18, eo18⟩ := Kd.S_slice HO1278.out; subst eo18
    go_wp2
    go_meet
    case rel => exact ⟨_, (((t1272.length : Int) != (t1276.length : Int))), wZ, H', ⟨by first | omega | exact Nat.le_refl _⟩, ⟨by (with_reducible repeat (first | apply Kd.S_alloc | apply Kd.S_drewN | apply Kd.S_drew)); exact Kd.S_mono HO1274.out (fun _ hk => ⟨hk.2, hk.1.2⟩)⟩, ⟨by (with_reducible repeat (first | apply Kd.S_alloc | apply Kd.S_drewN | apply Kd.S_drew)); exact Kd.S_mono HO1278.out (fun _ hk => ⟨hk.2, hk.1.2⟩)⟩, ⟨by (with_reducible repeat (first | apply Kd.S_alloc | apply Kd.S_drewN | apply Kd.S_drew)); exact Kd.S_mono HO1270.out (fun _ hk => ⟨hk.1.2, hk.2⟩)⟩, ⟨Kz BK1271.out⟩, ⟨Bq⟩⟩
  case rest =>
   clear HC8
   try clear c1
   try clear c2
   try clear p2
   try clear c4
   try clear c12
   try clear c16
   try clear c16b0
   try clear c16b1
   try clear c16b2
   try clear hcz11_0
   try clear hcz11_1
   try clear hcz14_0
   try clear hcz14_1
   try clear hfz11_0
   try clear hfz11_1
   try clear hfz14_0
   try clear hfz14_1
   obtain ⟨kq, x44_7, rfl, HA, HJ7, HO_6, HO_8, HO_1272001, BK1271, HB⟩ := hcut; cases kq with
   | zero => exact absurd HA.out (by simp [laws_FnLayersPeel.j0])
   | succ kj7 =>
    have H := HA.out; clear HA
    simp only [laws_FnLayersPeel.j0] at H
    by_cases c19 : x44_7 = true
    ·subst c19
     rw [if_pos rfl] at H; obtain rfl := Option.some.inj H
     go_wp2
     go_ret
     exact ⟨eZ, Bq⟩
    ·replace c19 := Bool.eq_false_iff.mpr c19
     subst c19
     rw [if_neg (show ¬ (false = true) by decide)] at H
     by_cases c20 : t1279 = true
     ·subst c20
      rw [if_pos rfl] at H; replace H := Option.bind_eq_some_iff.mp H; obtain ⟨⟨t1280, t1283⟩, A210, H⟩ := H; (try dsimp -simprocs only at H); have A21 := am A210; clear A210; replace H := Option.bind_eq_some_iff.mp H; obtain ⟨⟨t1284, t1287⟩, A220, H⟩ := H; (try dsimp -simprocs only at H); have A22 := am A220; clear A220; have HC23 := am H; clear H; obtain ⟨hcz24_0, hcz24_1, hfz24_0, hfz24_1⟩ := cf2 (w := wc) BK1271
      go_upto_region 12 with (first | ((with_reducible refine gate_callee (f := 22) rfl ?_); refine gL (some 49) Try.func22 #[.agg #[.int .i64 t1267, .slice Ao12 t1268.length co12]] ?_; (with_reducible refine (impl_CoreOf.calls kj7 t1267 _ _ t1268 t1280 t1283 _ ?side1 ?side2 A21.out).mono ?_); (case side1 => exact Cz ((Kd.S_reads' HO_1272001.out).2.2)); (case side2 => exact (Kd.S_reads' HO_1272001.out).2.1); rintro e w25 ⟨v1281, rfl, ho0, hb⟩; refine ⟨_, rfl, ?_⟩; have n0_ := am (Kd.S_elder' (by (with_reducible repeat (first | apply Kd.S_alloc | apply Kd.S_drewN | apply Kd.S_drew)); exact HO_6.out) (Kd.R_base ho0) hb); have n1_ := am (Kd.S_elder' (by (with_reducible repeat (first | apply Kd.S_alloc | apply Kd.S_drewN | apply Kd.S_drew)); exact HO_8.out) (Kd.R_base ho0) hb); have n2_ := am (Kd.S_elder' (by (with_reducible repeat (first | apply Kd.S_alloc | apply Kd.S_drewN | apply Kd.S_drew)); exact HO_1272001.out) (Kd.R_base ho0) hb); have n3_ := Rm ho0 HB; have n4_ := Kb BK1271 hb; have n5_ := Bc HB hb; clear HO_6 HO_8 HO_1272001 BK1271 HB; revert n0_ n1_ n2_ n3_ n4_ n5_; intro HO_6 HO_8 HO_1272001 HO1282 BK1271 HB; (try clear hb); (try clear hb2); (try clear hk); (try clear hi); (try clear ho0); obtain ⟨hcz26_0, hcz26_1, hfz26_0, hfz26_1⟩ := cf2 (w := w25) BK1271) | ((with_reducible refine gate_callee (f := 23) rfl ?_); refine gL (some 54) Try.func23 #[.agg #[.int .i64 t1267, .slice Ao12 t1268.length co12]] ?_; (with_reducible refine (impl_HyperDegrees.calls kj7 t1267 _ _ t1268 t1284 t1287 _ ?side1 ?side2 A22.out).mono ?_); (case side1 => exact Cz ((Kd.S_reads' HO_1272001.out).2.2)); (case side2 => exact (Kd.S_reads' HO_1272001.out).2.1); rintro e w27 ⟨v1285, rfl, ho0, hb⟩; refine ⟨_, rfl, ?_⟩; have n0_ := am (Kd.S_elder' (by (with_reducible repeat (first | apply Kd.S_alloc | apply Kd.S_drewN | apply Kd.S_drew)); exact HO_6.out) (Kd.R_base ho0) hb); have n1_ := am (Kd.S_elder' (by (with_reducible repeat (first | apply Kd.S_alloc | apply Kd.S_drewN | apply Kd.S_drew)); exact HO_8.out) (Kd.R_base ho0) hb); have n2_ := am (Kd.S_elder' (by (with_reducible repeat (first | apply Kd.S_alloc | apply Kd.S_drewN | apply Kd.S_drew)); exact HO_1272001.out) (Kd.R_base ho0) hb); have n3_ := Re HO1282 (Kd.R_base ho0) hb; have n4_ := Rm (Kd.R_new' ho0 (Kd.R_lt (Rz HO1282.out))) HB; have n5_ := Kb BK1271 hb; have n6_ := Bc HB hb; clear HO_6 HO_8 HO_1272001 HO1282 BK1271 HB; revert n0_ n1_ n2_ n3_ n4_ n5_ n6_; intro HO_6 HO_8 HO_1272001 HO1282 HO1286 BK1271 HB; (try clear hb); (try clear hb2); (try clear hk); (try clear hi); (try clear ho0)))
      (try simp only [aP])
      go_cut [62] (fun v62 wc => ∃ (kq : Nat) (x62_22 : Bool), v62 = .bool x62_22 ∧ Aside0 (laws_FnLayersPeel.j1 kq t1272 t1276 t1280 t1284 x62_22 t1267 t1268 = some r) ∧ Aside0 (kq ≤ kj7) ∧ Aside0 (Kd.S (Kd.slice 3 (Kd.int .i64)) 32 wc w.heap.size (fun k_ => some k_ ≠ (v1277 : Value).ownBlock ∧ some k_ ≠ (v1281 : Value).ownBlock ∧ some k_ ≠ (v1285 : Value).ownBlock ∧ some k_ ≠ ((.slice Ao12 t1268.length co12) : Value).ownBlock) v1273 t1272) ∧ Aside0 (Kd.S (Kd.slice 3 (Kd.int .i64)) 32 wc w.heap.size (fun k_ => some k_ ≠ (v1273 : Value).ownBlock ∧ some k_ ≠ (v1281 : Value).ownBlock ∧ some k_ ≠ (v1285 : Value).ownBlock ∧ some k_ ≠ ((.slice Ao12 t1268.length co12) : Value).ownBlock) v1277 t1276) ∧ Aside0 (Kd.R (Kd.int .i64) 3 wc w.heap.size (fun k_ => some k_ ≠ (v1285 : Value).ownBlock) v1281 t1280) ∧ Aside0 (Kd.R (Kd.int .i64) 3 wc w.heap.size (fun k_ => some k_ ≠ (v1281 : Value).ownBlock) v1285 t1284) ∧ Aside0 (Kd.S (Kd.slice 3 (Kd.int .i64)) 32 wc w.heap.size (fun k_ => some k_ ≠ (v1273 : Value).ownBlock ∧ some k_ ≠ (v1277 : Value).ownBlock ∧ some k_ ≠ (v1281 : Value).ownBlock ∧ some k_ ≠ (v1285 : Value).ownBlock) (.slice Ao12 t1268.length co12) t1268) ∧ Aside0 (wc.heap[gb1271]? = some (.cells #[.int .i64 t1267, (.slice Ao12 t1268.length co12)] 37 (0, 0))) ∧ Aside0 (Below w.heap.size w wc))
      case first =>
       have H := HC23.out; clear HC23
       by_cases c28 : t1283 = true
       ·subst c28
        rw [if_pos rfl] at H; have H' := am H; clear H
        go_wp2
        go_meet
        case rel => exact ⟨_, (!t1287), wZ, H', ⟨by have := HJ7.out; first | omega | exact Nat.le_refl _⟩, ⟨by (with_reducible repeat (first | apply Kd.S_alloc | apply Kd.S_drewN | apply Kd.S_drew)); exact Kd.S_mono HO_6.out (fun _ hk => ⟨hk.1.1.1, ⟨hk.1.2, ⟨hk.2, hk.1.1.2⟩⟩⟩)⟩, ⟨by (with_reducible repeat (first | apply Kd.S_alloc | apply Kd.S_drewN | apply Kd.S_drew)); exact Kd.S_mono HO_8.out (fun _ hk => ⟨hk.1.1.1, ⟨hk.1.2, ⟨hk.2, hk.1.1.2⟩⟩⟩)⟩, ⟨Rz (Kd.R_mono HO1282.out (fun _ hk => hk.2))⟩, ⟨Rz (Kd.R_mono HO1286.out (fun _ hk => hk.2))⟩, ⟨by (with_reducible repeat (first | apply Kd.S_alloc | apply Kd.S_drewN | apply Kd.S_drew)); exact Kd.S_mono HO_1272001.out (fun _ hk => ⟨hk.1.1.1, ⟨hk.1.1.2, ⟨hk.1.2, hk.2⟩⟩⟩)⟩, ⟨Kz BK1271.out⟩, ⟨Bq⟩⟩
       ·replace c28 := Bool.eq_false_iff.mpr c28
        subst c28
        rw [if_neg (show ¬ (false = true) by decide)] at H; have H' := am H; clear H
        go_wp2
        go_meet
        case rel => exact ⟨_, (true), wZ, H', ⟨by have := HJ7.out; first | omega | exact Nat.le_refl _⟩, ⟨by (with_reducible repeat (first | apply Kd.S_alloc | apply Kd.S_drewN | apply Kd.S_drew)); exact Kd.S_mono HO_6.out (fun _ hk => ⟨hk.1.1.1, ⟨hk.1.2, ⟨hk.2, hk.1.1.2⟩⟩⟩)⟩, ⟨by (with_reducible repeat (first | apply Kd.S_alloc | apply Kd.S_drewN | apply Kd.S_drew)); exact Kd.S_mono HO_8.out (fun _ hk => ⟨hk.1.1.1, ⟨hk.1.2, ⟨hk.2, hk.1.1.2⟩⟩⟩)⟩, ⟨Rz (Kd.R_mono HO1282.out (fun _ hk => hk.2))⟩, ⟨Rz (Kd.R_mono HO1286.out (fun _ hk => hk.2))⟩, ⟨by (with_reducible repeat (first | apply Kd.S_alloc | apply Kd.S_drewN | apply Kd.S_drew)); exact Kd.S_mono HO_1272001.out (fun _ hk => ⟨hk.1.1.1, ⟨hk.1.1.2, ⟨hk.1.2, hk.2⟩⟩⟩)⟩, ⟨Kz BK1271.out⟩, ⟨Bq⟩⟩
      case rest =>
       clear HC23
       try clear c1
       try clear c2
       try clear p2
       try clear c4
       try clear c12
       try clear c16
       try clear c16b0
       try clear c16b1
       try clear c16b2
       try clear c19
       try clear c20
       try clear c21
       try clear c22
       try clear c23
       try clear c28
       try clear hcz11_0
       try clear hcz11_1
       try clear hcz14_0
       try clear hcz14_1
       try clear hcz24_0
       try clear hcz24_1
       try clear hcz26_0
       try clear hcz26_1
       try clear hfz11_0
       try clear hfz11_1
       try clear hfz14_0
       try clear hfz14_1
       try clear hfz24_0
       try clear hfz24_1
       try clear hfz26_0
       try clear hfz26_1
       try clear p2
       obtain ⟨kq, x62_22, rfl, HA, HJ22, HO_6, HO_8, HO_10, HO_12, HO_1272001, BK1271, HB⟩ := hcut; cases kq with
       | zero => exact absurd HA.out (by simp [laws_FnLayersPeel.j1])
       | succ kj22 =>
        have H := HA.out; clear HA
        simp only [laws_FnLayersPeel.j1] at H
        by_cases c29 : x62_22 = true
        ·subst c29
         rw [if_pos rfl] at H; obtain rfl := Option.some.inj H
         go_wp2
         go_ret
         exact ⟨eZ, Bq⟩
        ·replace c29 := Bool.eq_false_iff.mpr c29
         subst c29
         rw [if_neg (show ¬ (false = true) by decide)] at H; obtain ⟨y1288, hy1288⟩ : ∃ y_ : List Int, y_ = (([] : List Int)) := ⟨_, rfl⟩
         replace H : (if y1288.length + t1280.length < 17592186044416 then (laws_FnLayersPeel.l0 kj22 t1272 t1276 t1284 (y1288 ++ t1280) t1272 (t1272.length : Int) 0 t1267 t1268) else (none)) = some r := by first | (rw [hy1288]; with_reducible exact H) | (have H2_ := (Option.bind_some _ _).symm.trans H; rw [hy1288]; with_reducible exact H2_) | (have H2_ := (Option.bind_some _ _).symm.trans H; with_reducible exact H2_) | with_reducible exact H | (rw [hy1288]; exact H) | exact H
         have Ny1288 := am hy1288; clear hy1288
         by_cases c30 : y1288.length + t1280.length < 17592186044416
         ·rw [if_pos c30] at H
          have LMc30 := am c30; clear c30; obtain ⟨y1291, hy1291⟩ : ∃ y_ : List Int, y_ = (y1288 ++ t1280) := ⟨_, rfl⟩
          replace H : (laws_FnLayersPeel.l0 kj22 t1272 t1276 t1284 y1291 t1272 (t1272.length : Int) 0 t1267 t1268) = some r := by first | (rw [hy1291]; with_reducible exact H) | (have H2_ := (Option.bind_some _ _).symm.trans H; rw [hy1291]; with_reducible exact H2_) | (have H2_ := (Option.bind_some _ _).symm.trans H; with_reducible exact H2_) | with_reducible exact H | (rw [hy1291]; exact H) | exact H
          have Ny1291 := am hy1291; clear hy1291; have H' := am H; clear H
          go_wp2_with (first | ((with_reducible refine gate_dst (N := 63) rfl ?_); (try (refine gate_guard (by rfl) ?_; dsimp only)); refine Kd.R_lit (Kd.int .i64) _ 3 ?hg (N := 63) ?hd (xs := ([] : List Int)) (inner := []) (ok := fun _ => True) (okp := fun _ => True) ?hr ?hp (fun _ hk => hk) trivial (Below.refl _ _) (Nat.le_refl _) (by simp) ?_; (case hd => rfl); (case hg => rfl); (case hr => first | (go_simp; done) | (go_simp; rfl)); (case hp => exact (Reps.none _ _)); intro v1289 w31 ho32 hb hg_ hnew_; clear hg_ hnew_; (first | rw [← Ny1288.out] at ho32 | (simp only [Int.reduceToNat] at ho32; rw [← Ny1288.out] at ho32)); have n0_ := am (Kd.S_elder' (by (with_reducible repeat (first | apply Kd.S_alloc | apply Kd.S_drewN | apply Kd.S_drew)); exact HO_6.out) (Kd.R_base ho32) hb); have n1_ := am (Kd.S_elder' (by (with_reducible repeat (first | apply Kd.S_alloc | apply Kd.S_drewN | apply Kd.S_drew)); exact HO_8.out) (Kd.R_base ho32) hb); have n2_ := Re HO_10 (Kd.R_base ho32) hb; have n3_ := Re HO_12 (Kd.R_base ho32) hb; have n4_ := am (Kd.S_elder' (by (with_reducible repeat (first | apply Kd.S_alloc | apply Kd.S_drewN | apply Kd.S_drew)); exact HO_1272001.out) (Kd.R_base ho32) hb); have n5_ := Rm (Kd.R_new' (Kd.R_new' ho32 (Kd.R_lt (Rz HO_10.out))) (Kd.R_lt (Rz HO_12.out))) HB; have n6_ := Kb BK1271 hb; have n7_ := Bc HB hb; clear HO_6 HO_8 HO_10 HO_12 HO_1272001 BK1271 HB; revert n0_ n1_ n2_ n3_ n4_ n5_ n6_ n7_; intro HO_6 HO_8 HO_10 HO_12 HO_1272001 HO1290 BK1271 HB; clear hb ho32; obtain ⟨Ao34, co34, eo34⟩ := Kd.R_slice HO_10.out; subst eo34) | ((with_reducible refine gate_builtin (b := .append) (xs := #[.tmp 63, .tmp 64]) rfl ?_); (try (refine gate_guard (by rfl) ?_; dsimp only)); at_builtin; refine Kd.R_append_rows (Kd.int .i64) (w0 := w) w.heap.size rfl (.tmp 63) (.tmp 64) 32 3 (.int .i64 0) 8 rfl Try.underlying32 info3 rfl (by decide) (by omega) v1289 y1288 t1280 _ _ _ (fun k_ => some k_ ≠ (.slice Ao34 t1280.length co34 : Value).ownBlock ∧ some k_ ≠ (v1285 : Value).ownBlock) (fun _ => False) rfl rfl ?aO ?aR (fun _ _ h => h) (fun _ h => h.elim) ?aF ?aB ?aS ?aL ?_; (case aR => repeat (first | exact (Kd.R_reads' HO_10.out).2.2 | (with_reducible refine Kd.C_alloc ?_ _) | (with_reducible refine Kd.C_drewN ?_ _) | (with_reducible refine Kd.C_drew ?_))); (case aB => exact (Bq)); (case aF => exact (fun k_ hk => ⟨Kd.fresh' (Kd.R_lt (Rz HO_10.out)) k_ hk, Kd.fresh' (Kd.R_lt (Rz HO_12.out)) k_ hk⟩)); (case aO => exact (Rz (Kd.R_mono HO1290.out (fun _ hk => ⟨hk.1.2, hk.2⟩)))); (case aS => exact (below_size (w := w) (Bq))); (case aL => have := LMc30.out; omega); intro v1292 w33 ho hb hg hat; rw [← Ny1291.out] at ho; have n0_ := am (Kd.S_after (ok := (fun k_ => some k_ ≠ (v1277 : Value).ownBlock ∧ some k_ ≠ (.slice Ao34 t1280.length co34 : Value).ownBlock ∧ some k_ ≠ (v1285 : Value).ownBlock ∧ some k_ ≠ (.slice Ao12 t1268.length co12 : Value).ownBlock)) (by (with_reducible repeat (first | apply Kd.S_alloc | apply Kd.S_drewN | apply Kd.S_drew)); exact HO_6.out) hg hat); have n1_ := am (Kd.S_after (ok := (fun k_ => some k_ ≠ (v1273 : Value).ownBlock ∧ some k_ ≠ (.slice Ao34 t1280.length co34 : Value).ownBlock ∧ some k_ ≠ (v1285 : Value).ownBlock ∧ some k_ ≠ (.slice Ao12 t1268.length co12 : Value).ownBlock)) (by (with_reducible repeat (first | apply Kd.S_alloc | apply Kd.S_drewN | apply Kd.S_drew)); exact HO_8.out) hg hat); have n2_ := am (Kd.R_after (ok := (fun k_ => some k_ ≠ (v1285 : Value).ownBlock)) (Rz HO_10.out) hg hat); have n3_ := am (Kd.R_after (ok := (fun k_ => some k_ ≠ (.slice Ao34 t1280.length co34 : Value).ownBlock)) (Rz HO_12.out) hg hat); have n4_ := am (Kd.S_after (ok := (fun k_ => some k_ ≠ (v1273 : Value).ownBlock ∧ some k_ ≠ (v1277 : Value).ownBlock ∧ some k_ ≠ (.slice Ao34 t1280.length co34 : Value).ownBlock ∧ some k_ ≠ (v1285 : Value).ownBlock)) (by (with_reducible repeat (first | apply Kd.S_alloc | apply Kd.S_drewN | apply Kd.S_drew)); exact HO_1272001.out) hg hat); have n5_ := am (blk_grown (g := gb1271) (o := .cells #[.int .i64 t1267, .slice Ao12 t1268.length co12] 37 (0, 0)) (Kz BK1271.out) hg (Kd.R_ne HO1290.out BK1271.out (by decide))); have n6_ := am (hb); have n7_ := am (ho); clear HO_6 HO_8 HO_10 HO_12 HO_1272001 BK1271 HB HO1290; revert n0_ n1_ n2_ n3_ n4_ n5_ n6_ n7_; intro HO_6 HO_8 HO_10 HO_12 HO_1272001 BK1271 HB HO1293; clear ho hb hg hat; obtain ⟨Ao35, co35, eo35⟩ := Kd.S_slice HO_6.out; subst eo35))
          (try simp only [aP])
          go_loopg [14, 68] kj22 (fun kq v14 v68 w' => ∃ (x14_3 : List Int) (x68_3 : Int), v68 = .int .i64 x68_3 ∧ Aside0 (laws_FnLayersPeel.l0 kq t1272 t1276 t1284 x14_3 t1272 (t1272.length : Int) x68_3 t1267 t1268 = some r) ∧ Aside0 (kq ≤ kj22) ∧ Aside0 (Kd.S (Kd.slice 3 (Kd.int .i64)) 32 w' w.heap.size (fun k_ => some k_ ≠ (v1277 : Value).ownBlock ∧ some k_ ≠ (v1285 : Value).ownBlock ∧ some k_ ≠ (v14 : Value).ownBlock ∧ some k_ ≠ ((.slice Ao12 t1268.length co12) : Value).ownBlock) (.slice Ao35 t1272.length co35) t1272) ∧ Aside0 (Kd.S (Kd.slice 3 (Kd.int .i64)) 32 w' w.heap.size (fun k_ => some k_ ≠ ((.slice Ao35 t1272.length co35) : Value).ownBlock ∧ some k_ ≠ (v1285 : Value).ownBlock ∧ some k_ ≠ (v14 : Value).ownBlock ∧ some k_ ≠ ((.slice Ao35 t1272.length co35) : Value).ownBlock ∧ some k_ ≠ ((.slice Ao12 t1268.length co12) : Value).ownBlock) v1277 t1276) ∧ Aside0 (Kd.R (Kd.int .i64) 3 w' w.heap.size (fun k_ => some k_ ≠ (v14 : Value).ownBlock) v1285 t1284) ∧ Aside0 (Kd.R (Kd.int .i64) 3 w' w.heap.size (fun k_ => some k_ ≠ (v1285 : Value).ownBlock) v14 x14_3) ∧ Aside0 (Kd.S (Kd.slice 3 (Kd.int .i64)) 32 w' w.heap.size (fun k_ => some k_ ≠ (v1277 : Value).ownBlock ∧ some k_ ≠ (v1285 : Value).ownBlock ∧ some k_ ≠ (v14 : Value).ownBlock ∧ some k_ ≠ ((.slice Ao12 t1268.length co12) : Value).ownBlock) (.slice Ao35 t1272.length co35) t1272) ∧ Aside0 (Kd.S (Kd.slice 3 (Kd.int .i64)) 32 w' w.heap.size (fun k_ => some k_ ≠ ((.slice Ao35 t1272.length co35) : Value).ownBlock ∧ some k_ ≠ (v1277 : Value).ownBlock ∧ some k_ ≠ (v1285 : Value).ownBlock ∧ some k_ ≠ (v14 : Value).ownBlock ∧ some k_ ≠ ((.slice Ao35 t1272.length co35) : Value).ownBlock) (.slice Ao12 t1268.length co12) t1268) ∧ Aside0 (w'.heap[gb1271]? = some (.cells #[.int .i64 t1267, (.slice Ao12 t1268.length co12)] 37 (0, 0))) ∧ Aside0 (Below w.heap.size w w'))
          case atStart => exact ⟨(y1291), (0), wZ, H', ⟨Nat.le_refl _⟩, ⟨by (with_reducible repeat (first | apply Kd.S_alloc | apply Kd.S_drewN | apply Kd.S_drew)); exact Kd.S_mono HO_6.out (fun _ hk => ⟨hk.1.1, ⟨hk.1.2.2.1, ⟨hk.2, hk.1.2.2.2⟩⟩⟩)⟩, ⟨by (with_reducible repeat (first | apply Kd.S_alloc | apply Kd.S_drewN | apply Kd.S_drew)); exact Kd.S_mono HO_8.out (fun _ hk => ⟨hk.1.1, ⟨hk.1.2.2.1, ⟨hk.2, ⟨hk.1.1, hk.1.2.2.2⟩⟩⟩⟩)⟩, ⟨Rz (Kd.R_mono HO_12.out (fun _ hk => hk.2))⟩, ⟨Rz (Kd.R_mono HO1293.out (fun _ hk => hk.2))⟩, ⟨by (with_reducible repeat (first | apply Kd.S_alloc | apply Kd.S_drewN | apply Kd.S_drew)); exact Kd.S_mono HO_6.out (fun _ hk => ⟨hk.1.1, ⟨hk.1.2.2.1, ⟨hk.2, hk.1.2.2.2⟩⟩⟩)⟩, ⟨by (with_reducible repeat (first | apply Kd.S_alloc | apply Kd.S_drewN | apply Kd.S_drew)); exact Kd.S_mono HO_1272001.out (fun _ hk => ⟨hk.1.1, ⟨hk.1.2.1, ⟨hk.1.2.2.2, ⟨hk.2, hk.1.1⟩⟩⟩⟩)⟩, ⟨Kz BK1271.out⟩, ⟨Bq⟩⟩
          case round =>
           clear H'
           try clear c1
           try clear c2
           try clear p2
           try clear c3
           try clear c4
           try clear c12
           try clear c16
           try clear c16b0
           try clear c16b1
           try clear c16b2
           try clear c19
           try clear c20
           try clear c21
           try clear c22
           try clear c23
           try clear c28
           try clear c29
           try clear c30
           try clear hcz11_0
           try clear hcz11_1
           try clear hcz14_0
           try clear hcz14_1
           try clear hcz24_0
           try clear hcz24_1
           try clear hcz26_0
           try clear hcz26_1
           try clear hfz11_0
           try clear hfz11_1
           try clear hfz14_0
           try clear hfz14_1
           try clear hfz24_0
           try clear hfz24_1
           try clear hfz26_0
           try clear hfz26_1
           try clear p2
           obtain ⟨x14_3, x68_3, rfl, HA, HK3, HO_6, HO_8, HO_12, HO_14, HO_66, HO_1272001, BK1271, HB⟩ := hrel; cases gk with
           | zero => exact absurd HA.out (by simp [laws_FnLayersPeel.l0])
           | succ k3 =>
            have H := HA.out; clear HA
            simp only [laws_FnLayersPeel.l0] at H
            by_cases c36 : x68_3 < (t1272.length : Int)
            ·rw [if_pos c36] at H
             have c36b0 : decide (x68_3 < (t1272.length : Int)) = true := decide_eq_true c36; clear c36
             by_cases c37 : 0 ≤ x68_3
             ·rw [if_pos c37] at H
              have c37b0 : decide (0 ≤ x68_3) = true := decide_eq_true c37; clear c37
              by_cases c38 : x68_3 < (t1272.length : Int)
              ·rw [if_pos c38] at H
               have c38b0 : decide (x68_3 < (t1272.length : Int)) = true := decide_eq_true c38; clear c38
               by_cases c39 : x68_3 < (t1276.length : Int)
               ·rw [if_pos c39] at H
                have c39b0 : decide (x68_3 < (t1276.length : Int)) = true := decide_eq_true c39; clear c39; replace H := Option.bind_eq_some_iff.mp H; obtain ⟨t1296, A400, H⟩ := H; (try dsimp -simprocs only at H); have A40 := am A400; clear A400
                by_cases c41 : t1296 = true
                ·subst c41
                 rw [if_pos rfl] at H
                 by_cases c42 : ((rd_L2 t1272 x68_3).length : Int) = 0
                 ·rw [if_pos c42] at H
                  have c42b0 : (((rd_L2 t1272 x68_3).length : Int) == 0) = true := beq_iff_eq.mpr c42; have c42b1 : (((rd_L2 t1272 x68_3).length : Int) != 0) = false := bne_eq_false_iff_eq.mpr c42; clear c42; obtain rfl := Option.some.inj H; have p1294 : 0 ≤ (x68_3 : Int) := dT; have q1294 : x68_3 < (t1272.length : Int) := dT; obtain ⟨ad1294, A1294_0, c1294_0, e1294, hx1294_0, hl1294_0, hi1294_0⟩ := at_L2 (Kd.S_reads' HO_66.out).2.2 x68_3 p1294 q1294; cases e1294; obtain ⟨ce1294, hce1294, hMe1294, hcc1294⟩ := Kd.S_get HO_66.out [] x68_3 p1294 (by first | exact q1294 | exact dT | (have e_ := (Kd.S_reads' HO_66.out).1; omega)); obtain ⟨ve1294_0, rfl, ge1294_0⟩ := hMe1294; have hv1294_0 := hcc1294 0 _ rfl; rw [Nat.add_zero, show ((Kd.slice 3 (Kd.int .i64))).sz = 1 from rfl, Nat.mul_one] at hv1294_0; replace hv1294_0 := Option.some.inj (hv1294_0.symm.trans hx1294_0); rw [hv1294_0] at ge1294_0; have HL1294_0 := am (show Kd.R (Kd.int .i64) 3 _ _ _ _ (rd_L2 t1272 x68_3) from ge1294_0); clear hv1294_0 ge1294_0; clear hcc1294 hce1294; have HR1294_0 := am hi1294_0; have HC1294_0 := am hl1294_0; clear hi1294_0 hl1294_0; replace p1294 := eq_true p1294; replace q1294 := eq_true q1294; obtain ⟨Ao43, co43, eo43⟩ := Kd.S_slice HO_8.out; subst eo43; have p1295 : 0 ≤ (x68_3 : Int) := dT; have q1295 : x68_3 < (t1276.length : Int) := dT; obtain ⟨ad1295, A1295_0, c1295_0, e1295, hx1295_0, hl1295_0, hi1295_0⟩ := at_L2 (Kd.S_reads' HO_8.out).2.2 x68_3 p1295 q1295; cases e1295; obtain ⟨ce1295, hce1295, hMe1295, hcc1295⟩ := Kd.S_get HO_8.out [] x68_3 p1295 (by first | exact q1295 | exact dT | (have e_ := (Kd.S_reads' HO_8.out).1; omega)); obtain ⟨ve1295_0, rfl, ge1295_0⟩ := hMe1295; have hv1295_0 := hcc1295 0 _ rfl; rw [Nat.add_zero, show ((Kd.slice 3 (Kd.int .i64))).sz = 1 from rfl, Nat.mul_one] at hv1295_0; replace hv1295_0 := Option.some.inj (hv1295_0.symm.trans hx1295_0); rw [hv1295_0] at ge1295_0; have HL1295_0 := am (show Kd.R (Kd.int .i64) 3 _ _ _ _ (rd_L2 t1276 x68_3) from ge1295_0); clear hv1295_0 ge1295_0; clear hcc1295 hce1295; have HR1295_0 := am hi1295_0; have HC1295_0 := am hl1295_0; clear hi1295_0 hl1295_0; replace p1295 := eq_true p1295; replace q1295 := eq_true q1295
                  go_wp2_with (first | ((with_reducible refine gate_callee (f := 24) rfl ?_); refine gL (some 78) Try.func24 #[.slice A1294_0 (rd_L2 t1272 x68_3).length c1294_0, .slice A1295_0 (rd_L2 t1276 x68_3).length c1295_0] ?_; (with_reducible refine (laws_pSameInts.calls k3 _ _ (rd_L2 t1272 x68_3) _ _ (rd_L2 t1276 x68_3) true _ ?side1 ?side2 ?side3 ?side4 A40.out).mono ?_); (case side1 => repeat (first | exact (by repeat (first | (with_reducible exact HR1294_0.out) | (with_reducible refine Kd.C_alloc ?_ _) | (with_reducible refine Kd.C_drewN ?_ _) | (with_reducible refine Kd.C_drew ?_) | exact HR1294_0.out)) | (with_reducible refine Kd.C_alloc ?_ _) | (with_reducible refine Kd.C_drewN ?_ _) | (with_reducible refine Kd.C_drew ?_))); (case side2 => exact HC1294_0.out); (case side3 => repeat (first | exact (by repeat (first | (with_reducible exact HR1295_0.out) | (with_reducible refine Kd.C_alloc ?_ _) | (with_reducible refine Kd.C_drewN ?_ _) | (with_reducible refine Kd.C_drew ?_) | exact HR1295_0.out)) | (with_reducible refine Kd.C_alloc ?_ _) | (with_reducible refine Kd.C_drewN ?_ _) | (with_reducible refine Kd.C_drew ?_))); (case side4 => exact HC1295_0.out); rintro e w' ⟨rfl, ⟨nd, rfl⟩⟩; refine ⟨_, rfl, ?_⟩))
                  go_ret
                  exact ⟨eZ, Bq⟩
                 ·rw [if_neg c42] at H
                  have c42b0 : (((rd_L2 t1272 x68_3).length : Int) == 0) = false := beq_eq_false_iff_ne.mpr c42; have c42b1 : (((rd_L2 t1272 x68_3).length : Int) != 0) = true := bne_iff_ne.mpr c42
                  have c42b2 : ¬ ((rd_L2 t1272 x68_3) = []) := fun h_ => c42 (by rw [h_]; rfl)
                  by_cases c44 : x14_3.length + (rd_L2 t1272 x68_3).length < 17592186044416
                  ·rw [if_pos c44] at H
                   have LMc44 := am c44; clear c44; obtain ⟨y1297, hy1297⟩ : ∃ y_ : List Int, y_ = (x14_3 ++ (rd_L2 t1272 x68_3)) := ⟨_, rfl⟩
                   replace H : (laws_FnLayersPeel.l0 k3 t1272 t1276 t1284 y1297 t1272 (t1272.length : Int) (wrap64 (x68_3 + 1)) t1267 t1268) = some r := by first | (rw [hy1297]; with_reducible exact H) | (have H2_ := (Option.bind_some _ _).symm.trans H; rw [hy1297]; with_reducible exact H2_) | (have H2_ := (Option.bind_some _ _).symm.trans H; with_reducible exact H2_) | with_reducible exact H | (rw [hy1297]; exact H) | exact H
                   have Ny1297 := am hy1297; clear hy1297; have H' := am H; clear H; have p1294 : 0 ≤ (x68_3 : Int) := dT; have q1294 : x68_3 < (t1272.length : Int) := dT; obtain ⟨ad1294, A1294_0, c1294_0, e1294, hx1294_0, hl1294_0, hi1294_0⟩ := at_L2 (Kd.S_reads' HO_66.out).2.2 x68_3 p1294 q1294; cases e1294; obtain ⟨ce1294, hce1294, hMe1294, hcc1294⟩ := Kd.S_get HO_66.out [] x68_3 p1294 (by first | exact q1294 | exact dT | (have e_ := (Kd.S_reads' HO_66.out).1; omega)); obtain ⟨ve1294_0, rfl, ge1294_0⟩ := hMe1294; have hv1294_0 := hcc1294 0 _ rfl; rw [Nat.add_zero, show ((Kd.slice 3 (Kd.int .i64))).sz = 1 from rfl, Nat.mul_one] at hv1294_0; replace hv1294_0 := Option.some.inj (hv1294_0.symm.trans hx1294_0); rw [hv1294_0] at ge1294_0; have HL1294_0 := am (show Kd.R (Kd.int .i64) 3 _ _ _ _ (rd_L2 t1272 x68_3) from ge1294_0); clear hv1294_0 ge1294_0; clear hcc1294 hce1294; have HR1294_0 := am hi1294_0; have HC1294_0 := am hl1294_0; clear hi1294_0 hl1294_0; replace p1294 := eq_true p1294; replace q1294 := eq_true q1294; obtain ⟨Ao45, co45, eo45⟩ := Kd.S_slice HO_8.out; subst eo45; have p1295 : 0 ≤ (x68_3 : Int) := dT; have q1295 : x68_3 < (t1276.length : Int) := dT; obtain ⟨ad1295, A1295_0, c1295_0, e1295, hx1295_0, hl1295_0, hi1295_0⟩ := at_L2 (Kd.S_reads' HO_8.out).2.2 x68_3 p1295 q1295; cases e1295; obtain ⟨ce1295, hce1295, hMe1295, hcc1295⟩ := Kd.S_get HO_8.out [] x68_3 p1295 (by first | exact q1295 | exact dT | (have e_ := (Kd.S_reads' HO_8.out).1; omega)); obtain ⟨ve1295_0, rfl, ge1295_0⟩ := hMe1295; have hv1295_0 := hcc1295 0 _ rfl; rw [Nat.add_zero, show ((Kd.slice 3 (Kd.int .i64))).sz = 1 from rfl, Nat.mul_one] at hv1295_0; replace hv1295_0 := Option.some.inj (hv1295_0.symm.trans hx1295_0); rw [hv1295_0] at ge1295_0; have HL1295_0 := am (show Kd.R (Kd.int .i64) 3 _ _ _ _ (rd_L2 t1276 x68_3) from ge1295_0); clear hv1295_0 ge1295_0; clear hcc1295 hce1295; have HR1295_0 := am hi1295_0; have HC1295_0 := am hl1295_0; clear hi1295_0 hl1295_0; replace p1295 := eq_true p1295; replace q1295 := eq_true q1295
                   go_wp2_with (first | ((with_reducible refine gate_callee (f := 24) rfl ?_); refine gL (some 78) Try.func24 #[.slice A1294_0 (rd_L2 t1272 x68_3).length c1294_0, .slice A1295_0 (rd_L2 t1276 x68_3).length c1295_0] ?_; (with_reducible refine (laws_pSameInts.calls k3 _ _ (rd_L2 t1272 x68_3) _ _ (rd_L2 t1276 x68_3) true _ ?side1 ?side2 ?side3 ?side4 A40.out).mono ?_); (case side1 => repeat (first | exact (by repeat (first | (with_reducible exact HR1294_0.out) | (with_reducible refine Kd.C_alloc ?_ _) | (with_reducible refine Kd.C_drewN ?_ _) | (with_reducible refine Kd.C_drew ?_) | exact HR1294_0.out)) | (with_reducible refine Kd.C_alloc ?_ _) | (with_reducible refine Kd.C_drewN ?_ _) | (with_reducible refine Kd.C_drew ?_))); (case side2 => exact HC1294_0.out); (case side3 => repeat (first | exact (by repeat (first | (with_reducible exact HR1295_0.out) | (with_reducible refine Kd.C_alloc ?_ _) | (with_reducible refine Kd.C_drewN ?_ _) | (with_reducible refine Kd.C_drew ?_) | exact HR1295_0.out)) | (with_reducible refine Kd.C_alloc ?_ _) | (with_reducible refine Kd.C_drewN ?_ _) | (with_reducible refine Kd.C_drew ?_))); (case side4 => exact HC1295_0.out); rintro e w' ⟨rfl, ⟨nd, rfl⟩⟩; refine ⟨_, rfl, ?_⟩) | ((with_reducible refine gate_builtin (b := .append) (xs := #[.tmp 85, .tmp 86]) rfl ?_); (try (refine gate_guard (by rfl) ?_; dsimp only)); at_builtin; refine Kd.R_append_rows (Kd.int .i64) (w0 := w) w.heap.size rfl (.tmp 85) (.tmp 86) 32 3 (.int .i64 0) 8 rfl Try.underlying32 info3 rfl (by decide) (by omega) u14 x14_3 (rd_L2 t1272 x68_3) _ _ _ (fun k_ => some k_ ≠ (v1285 : Value).ownBlock) (fun _ => False) rfl rfl ?aO ?aR (fun _ _ h => h) (fun _ h => h.elim) ?aF ?aB ?aS ?aL ?_; (case aR => repeat (first | exact (by repeat (first | (with_reducible exact HR1294_0.out) | (with_reducible refine Kd.C_alloc ?_ _) | (with_reducible refine Kd.C_drewN ?_ _) | (with_reducible refine Kd.C_drew ?_) | exact HR1294_0.out)) | (with_reducible refine Kd.C_alloc ?_ _) | (with_reducible refine Kd.C_drewN ?_ _) | (with_reducible refine Kd.C_drew ?_))); (case aB => exact (Bq)); (case aF => exact (fun k_ hk => Kd.fresh' (Kd.R_lt (Rz HO_12.out)) k_ hk)); (case aO => exact (Rz HO_14.out)); (case aS => exact (below_size (w := w) (Bq))); (case aL => have := LMc44.out; omega); intro v1298 w46 ho hb hg hat; rw [← Ny1297.out] at ho; have n0_ := am (Kd.S_after (ok := (fun k_ => some k_ ≠ (.slice (some ad1295) t1276.length co45 : Value).ownBlock ∧ some k_ ≠ (v1285 : Value).ownBlock ∧ some k_ ≠ (.slice Ao12 t1268.length co12 : Value).ownBlock)) (by (with_reducible repeat (first | apply Kd.S_alloc | apply Kd.S_drewN | apply Kd.S_drew)); exact Kd.S_mono HO_6.out (fun _ hk => ⟨⟨hk.1, ⟨hk.2.1, hk.2.2.2⟩⟩, hk.2.2.1⟩)) hg hat); have n1_ := am (Kd.S_after (ok := (fun k_ => some k_ ≠ (.slice (some ad1294) t1272.length co35 : Value).ownBlock ∧ some k_ ≠ (v1285 : Value).ownBlock ∧ some k_ ≠ (.slice (some ad1294) t1272.length co35 : Value).ownBlock ∧ some k_ ≠ (.slice Ao12 t1268.length co12 : Value).ownBlock)) (by (with_reducible repeat (first | apply Kd.S_alloc | apply Kd.S_drewN | apply Kd.S_drew)); exact Kd.S_mono HO_8.out (fun _ hk => ⟨⟨hk.1, ⟨hk.2.1, ⟨hk.2.2.2.1, hk.2.2.2.2⟩⟩⟩, hk.2.2.1⟩)) hg hat); have n2_ := am (Kd.R_after (ok := (fun _ => True)) (Rz (Kd.R_mono HO_12.out (fun _ hk => ⟨trivial, hk⟩))) hg hat); have n3_ := am (Kd.S_after (ok := (fun k_ => some k_ ≠ (.slice (some ad1295) t1276.length co45 : Value).ownBlock ∧ some k_ ≠ (v1285 : Value).ownBlock ∧ some k_ ≠ (.slice Ao12 t1268.length co12 : Value).ownBlock)) (by (with_reducible repeat (first | apply Kd.S_alloc | apply Kd.S_drewN | apply Kd.S_drew)); exact Kd.S_mono HO_66.out (fun _ hk => ⟨⟨hk.1, ⟨hk.2.1, hk.2.2.2⟩⟩, hk.2.2.1⟩)) hg hat); have n4_ := am (Kd.S_after (ok := (fun k_ => some k_ ≠ (.slice (some ad1294) t1272.length co35 : Value).ownBlock ∧ some k_ ≠ (.slice (some ad1295) t1276.length co45 : Value).ownBlock ∧ some k_ ≠ (v1285 : Value).ownBlock ∧ some k_ ≠ (.slice (some ad1294) t1272.length co35 : Value).ownBlock)) (by (with_reducible repeat (first | apply Kd.S_alloc | apply Kd.S_drewN | apply Kd.S_drew)); exact Kd.S_mono HO_1272001.out (fun _ hk => ⟨⟨hk.1, ⟨hk.2.1, ⟨hk.2.2.1, hk.2.2.2.2⟩⟩⟩, hk.2.2.2.1⟩)) hg hat); have n5_ := am (blk_grown (g := gb1271) (o := .cells #[.int .i64 t1267, .slice Ao12 t1268.length co12] 37 (0, 0)) (Kz BK1271.out) hg (Kd.R_ne HO_14.out BK1271.out (by decide))); have n6_ := am (Kd.R_after (ok := (fun k_ => some k_ ≠ (.slice (some ad1295) t1276.length co45 : Value).ownBlock ∧ some k_ ≠ (v1285 : Value).ownBlock ∧ some k_ ≠ (.slice (some ad1294) t1272.length co35 : Value).ownBlock ∧ some k_ ≠ (.slice Ao12 t1268.length co12 : Value).ownBlock)) (Rz (Kd.R_mono HL1294_0.out (fun _ hk => ⟨⟨hk.1.1, ⟨hk.1.2.1, ⟨hk.2, hk.1.2.2.2⟩⟩⟩, hk.1.2.2.1⟩))) hg hat); have n7_ := am (Kd.R_after (ok := (fun k_ => some k_ ≠ (.slice (some ad1294) t1272.length co35 : Value).ownBlock ∧ some k_ ≠ (.slice (some ad1295) t1276.length co45 : Value).ownBlock ∧ some k_ ≠ (v1285 : Value).ownBlock ∧ some k_ ≠ (.slice (some ad1294) t1272.length co35 : Value).ownBlock ∧ some k_ ≠ (.slice Ao12 t1268.length co12 : Value).ownBlock)) (Rz (Kd.R_mono HL1295_0.out (fun _ hk => ⟨⟨hk.1.1, ⟨hk.2, ⟨hk.1.2.1, ⟨hk.1.2.2.2.1, hk.1.2.2.2.2⟩⟩⟩⟩, hk.1.2.2.1⟩))) hg hat); have n8_ := am (hb); have n9_ := am (ho); clear HO_6 HO_8 HO_12 HO_66 HO_1272001 BK1271 HL1294_0 HL1295_0 HB HO_14; revert n0_ n1_ n2_ n3_ n4_ n5_ n6_ n7_ n8_ n9_; intro HO_6 HO_8 HO_12 HO_66 HO_1272001 BK1271 HL1294_0 HL1295_0 HB HO1299; clear ho hb hg hat))
                   go_roundg k3
                   case measure => have := HJ7.out; have := HJ22.out; have := HK3.out; omega
                   case rel => exact ⟨(y1297), (wrap64 (x68_3 + 1)), wZ, H', ⟨by have := HJ7.out; have := HJ22.out; have := HK3.out; omega⟩, ⟨by (with_reducible repeat (first | apply Kd.S_alloc | apply Kd.S_drewN | apply Kd.S_drew)); exact Kd.S_mono HO_6.out (fun _ hk => ⟨hk.1.1, ⟨hk.1.2.1, ⟨hk.2, hk.1.2.2⟩⟩⟩)⟩, ⟨by (with_reducible repeat (first | apply Kd.S_alloc | apply Kd.S_drewN | apply Kd.S_drew)); exact Kd.S_mono HO_8.out (fun _ hk => ⟨hk.1.1, ⟨hk.1.2.1, ⟨hk.2, ⟨hk.1.2.2.1, hk.1.2.2.2⟩⟩⟩⟩)⟩, ⟨Rz (Kd.R_mono HO_12.out (fun _ hk => hk.2))⟩, ⟨Rz HO1299.out⟩, ⟨by (with_reducible repeat (first | apply Kd.S_alloc | apply Kd.S_drewN | apply Kd.S_drew)); exact Kd.S_mono HO_66.out (fun _ hk => ⟨hk.1.1, ⟨hk.1.2.1, ⟨hk.2, hk.1.2.2⟩⟩⟩)⟩, ⟨by (with_reducible repeat (first | apply Kd.S_alloc | apply Kd.S_drewN | apply Kd.S_drew)); exact Kd.S_mono HO_1272001.out (fun _ hk => ⟨hk.1.1, ⟨hk.1.2.1, ⟨hk.1.2.2.1, ⟨hk.2, hk.1.2.2.2⟩⟩⟩⟩)⟩, ⟨Kz BK1271.out⟩, ⟨Bq⟩⟩
                  ·rw [if_neg c44] at H
                   exact absurd H (by simp)
                ·replace c41 := Bool.eq_false_iff.mpr c41
                 subst c41
                 rw [if_neg (show ¬ (false = true) by decide)] at H; obtain rfl := Option.some.inj H; have p1294 : 0 ≤ (x68_3 : Int) := dT; have q1294 : x68_3 < (t1272.length : Int) := dT; obtain ⟨ad1294, A1294_0, c1294_0, e1294, hx1294_0, hl1294_0, hi1294_0⟩ := at_L2 (Kd.S_reads' HO_66.out).2.2 x68_3 p1294 q1294; cases e1294; obtain ⟨ce1294, hce1294, hMe1294, hcc1294⟩ := Kd.S_get HO_66.out [] x68_3 p1294 (by first | exact q1294 | exact dT | (have e_ := (Kd.S_reads' HO_66.out).1; omega)); obtain ⟨ve1294_0, rfl, ge1294_0⟩ := hMe1294; have hv1294_0 := hcc1294 0 _ rfl; rw [Nat.add_zero, show ((Kd.slice 3 (Kd.int .i64))).sz = 1 from rfl, Nat.mul_one] at hv1294_0; replace hv1294_0 := Option.some.inj (hv1294_0.symm.trans hx1294_0); rw [hv1294_0] at ge1294_0; have HL1294_0 := am (show Kd.R (Kd.int .i64) 3 _ _ _ _ (rd_L2 t1272 x68_3) from ge1294_0); clear hv1294_0 ge1294_0; clear hcc1294 hce1294; have HR1294_0 := am hi1294_0; have HC1294_0 := am hl1294_0; clear hi1294_0 hl1294_0; replace p1294 := eq_true p1294; replace q1294 := eq_true q1294; obtain ⟨Ao47, co47, eo47⟩ := Kd.S_slice HO_8.out; subst eo47; have p1295 : 0 ≤ (x68_3 : Int) := dT; have q1295 : x68_3 < (t1276.length : Int) := dT; obtain ⟨ad1295, A1295_0, c1295_0, e1295, hx1295_0, hl1295_0, hi1295_0⟩ := at_L2 (Kd.S_reads' HO_8.out).2.2 x68_3 p1295 q1295; cases e1295; obtain ⟨ce1295, hce1295, hMe1295, hcc1295⟩ := Kd.S_get HO_8.out [] x68_3 p1295 (by first | exact q1295 | exact dT | (have e_ := (Kd.S_reads' HO_8.out).1; omega)); obtain ⟨ve1295_0, rfl, ge1295_0⟩ := hMe1295; have hv1295_0 := hcc1295 0 _ rfl; rw [Nat.add_zero, show ((Kd.slice 3 (Kd.int .i64))).sz = 1 from rfl, Nat.mul_one] at hv1295_0; replace hv1295_0 := Option.some.inj (hv1295_0.symm.trans hx1295_0); rw [hv1295_0] at ge1295_0; have HL1295_0 := am (show Kd.R (Kd.int .i64) 3 _ _ _ _ (rd_L2 t1276 x68_3) from ge1295_0); clear hv1295_0 ge1295_0; clear hcc1295 hce1295; have HR1295_0 := am hi1295_0; have HC1295_0 := am hl1295_0; clear hi1295_0 hl1295_0; replace p1295 := eq_true p1295; replace q1295 := eq_true q1295
                 go_wp2_with (first | ((with_reducible refine gate_callee (f := 24) rfl ?_); refine gL (some 78) Try.func24 #[.slice A1294_0 (rd_L2 t1272 x68_3).length c1294_0, .slice A1295_0 (rd_L2 t1276 x68_3).length c1295_0] ?_; (with_reducible refine (laws_pSameInts.calls k3 _ _ (rd_L2 t1272 x68_3) _ _ (rd_L2 t1276 x68_3) false _ ?side1 ?side2 ?side3 ?side4 A40.out).mono ?_); (case side1 => repeat (first | exact (by repeat (first | (with_reducible exact HR1294_0.out) | (with_reducible refine Kd.C_alloc ?_ _) | (with_reducible refine Kd.C_drewN ?_ _) | (with_reducible refine Kd.C_drew ?_) | exact HR1294_0.out)) | (with_reducible refine Kd.C_alloc ?_ _) | (with_reducible refine Kd.C_drewN ?_ _) | (with_reducible refine Kd.C_drew ?_))); (case side2 => exact HC1294_0.out); (case side3 => repeat (first | exact (by repeat (first | (with_reducible exact HR1295_0.out) | (with_reducible refine Kd.C_alloc ?_ _) | (with_reducible refine Kd.C_drewN ?_ _) | (with_reducible refine Kd.C_drew ?_) | exact HR1295_0.out)) | (with_reducible refine Kd.C_alloc ?_ _) | (with_reducible refine Kd.C_drewN ?_ _) | (with_reducible refine Kd.C_drew ?_))); (case side4 => exact HC1295_0.out); rintro e w' ⟨rfl, ⟨nd, rfl⟩⟩; refine ⟨_, rfl, ?_⟩))
                 go_ret
                 exact ⟨eZ, Bq⟩
               ·rw [if_neg c39] at H
                exact absurd H (by simp)
              ·rw [if_neg c38] at H
               exact absurd H (by simp)
             ·rw [if_neg c37] at H
              exact absurd H (by simp)
            ·rw [if_neg c36] at H
             have c36b0 : decide (x68_3 < (t1272.length : Int)) = false := decide_eq_false c36; clear c36; replace H := Option.bind_eq_some_iff.mp H; obtain ⟨t1300, A480, H⟩ := H; (try dsimp -simprocs only at H); have A48 := am A480; clear A480
             by_cases c49 : t1300 = true
             ·subst c49
              rw [if_pos rfl] at H; have H' := am H; clear H; obtain ⟨hcz50_0, hcz50_1, hfz50_0, hfz50_1⟩ := cf2 (w := wr) BK1271; obtain ⟨Ao51, co51, eo51⟩ := Kd.R_slice HO_14.out; subst eo51
              go_wp2_with (first | ((with_reducible refine gate_callee (f := 25) rfl ?_); refine gL (some 93) Try.func25 #[.slice Ao51 x14_3.length co51, .int .i64 (t1268.length : Int)] ?_; (with_reducible refine (laws_pAllOnce.calls k3 _ _ x14_3 (t1268.length : Int) true _ ?side1 ?side2 A48.out).mono ?_); (case side1 => exact Cz ((Kd.R_reads' HO_14.out).2.2)); (case side2 => exact (Kd.R_reads' HO_14.out).2.1); rintro e w' ⟨rfl, ⟨nd, rfl⟩⟩; refine ⟨_, rfl, ?_⟩))
              (try simp only [aP])
              go_loopg [98] k3 (fun kq v98 w' => ∃ (x98_4 : Int), v98 = .int .i64 x98_4 ∧ Aside0 (laws_FnLayersPeel.l1 kq t1272 t1284 t1268 (t1268.length : Int) x98_4 = some r) ∧ Aside0 (kq ≤ k3) ∧ Aside0 (Kd.S (Kd.slice 3 (Kd.int .i64)) 32 w' w.heap.size (fun k_ => some k_ ≠ (v1285 : Value).ownBlock ∧ some k_ ≠ ((.slice Ao12 t1268.length co12) : Value).ownBlock ∧ some k_ ≠ ((.slice Ao12 t1268.length co12) : Value).ownBlock) (.slice Ao35 t1272.length co35) t1272) ∧ Aside0 (Kd.R (Kd.int .i64) 3 w' w.heap.size (fun _ => True) v1285 t1284) ∧ Aside0 (Kd.S (Kd.slice 3 (Kd.int .i64)) 32 w' w.heap.size (fun k_ => some k_ ≠ ((.slice Ao35 t1272.length co35) : Value).ownBlock ∧ some k_ ≠ (v1285 : Value).ownBlock) (.slice Ao12 t1268.length co12) t1268) ∧ Aside0 (Kd.S (Kd.slice 3 (Kd.int .i64)) 32 w' w.heap.size (fun k_ => some k_ ≠ ((.slice Ao35 t1272.length co35) : Value).ownBlock ∧ some k_ ≠ (v1285 : Value).ownBlock) (.slice Ao12 t1268.length co12) t1268) ∧ Aside0 (w'.heap[gb1271]? = some (.cells #[.int .i64 t1267, (.slice Ao12 t1268.length co12)] 37 (0, 0))) ∧ Aside0 (Below w.heap.size w w'))
              case atStart => exact ⟨(0), wZ, H', ⟨Nat.le_refl _⟩, ⟨by (with_reducible repeat (first | apply Kd.S_alloc | apply Kd.S_drewN | apply Kd.S_drew)); exact Kd.S_mono HO_6.out (fun _ hk => ⟨hk.2.1, ⟨hk.2.2.2, hk.2.2.2⟩⟩)⟩, ⟨Rz (Kd.R_mono HO_12.out (fun _ hk => trivial))⟩, ⟨by (with_reducible repeat (first | apply Kd.S_alloc | apply Kd.S_drewN | apply Kd.S_drew)); exact Kd.S_mono HO_1272001.out (fun _ hk => ⟨hk.1, hk.2.2.1⟩)⟩, ⟨by (with_reducible repeat (first | apply Kd.S_alloc | apply Kd.S_drewN | apply Kd.S_drew)); exact Kd.S_mono HO_1272001.out (fun _ hk => ⟨hk.1, hk.2.2.1⟩)⟩, ⟨Kz BK1271.out⟩, ⟨Bq⟩⟩
              case round =>
               clear H'
               try clear c1
               try clear p1
               try clear q1
               try clear hx1
               try clear c2
               try clear p2
               try clear c3
               try clear c4
               try clear p6
               try clear c12
               try clear p12
               try clear q12
               try clear hx12
               try clear c16
               try clear c16b0
               try clear c16b1
               try clear c16b2
               try clear c19
               try clear c20
               try clear c21
               try clear c22
               try clear c23
               try clear c24
               try clear c25
               try clear c28
               try clear c29
               try clear c30
               try clear c36
               try clear c36b0
               try clear c37
               try clear c37b0
               try clear c38
               try clear c38b0
               try clear c39
               try clear c39b0
               try clear c41
               try clear c42
               try clear c42b0
               try clear c42b1
               try clear c42b2
               try clear c44
               try clear c49
               try clear hcz11_0
               try clear hcz11_1
               try clear hcz14_0
               try clear hcz14_1
               try clear hcz24_0
               try clear hcz24_1
               try clear hcz26_0
               try clear hcz26_1
               try clear hcz50_0
               try clear hcz50_1
               try clear hfz11_0
               try clear hfz11_1
               try clear hfz14_0
               try clear hfz14_1
               try clear hfz24_0
               try clear hfz24_1
               try clear hfz26_0
               try clear hfz26_1
               try clear hfz50_0
               try clear hfz50_1
               try clear hx1294_0
               try clear hx1295_0
               try clear p1294
               try clear p1295
               try clear p2
               try clear q1294
               try clear q1295
               obtain ⟨x98_4, rfl, HA, HK4, HO_6, HO_12, HO_96, HO_1272001, BK1271, HB⟩ := hrel; cases gk with
               | zero => exact absurd HA.out (by simp [laws_FnLayersPeel.l1])
               | succ k4 =>
                have H := HA.out; clear HA
                simp only [laws_FnLayersPeel.l1] at H
                by_cases c52 : x98_4 < (t1268.length : Int)
                ·rw [if_pos c52] at H
                 have c52b0 : decide (x98_4 < (t1268.length : Int)) = true := decide_eq_true c52; clear c52
                 by_cases c53 : 0 ≤ x98_4
                 ·rw [if_pos c53] at H
                  have c53b0 : decide (0 ≤ x98_4) = true := decide_eq_true c53; clear c53
                  by_cases c54 : x98_4 < (t1268.length : Int)
                  ·rw [if_pos c54] at H
                   have c54b0 : decide (x98_4 < (t1268.length : Int)) = true := decide_eq_true c54; clear c54
                   by_cases c55 : 0 < ((rd_L2 t1268 x98_4).length : Int)
                   ·rw [if_pos c55] at H
                    have c55b0 : decide (0 < ((rd_L2 t1268 x98_4).length : Int)) = true := decide_eq_true c55; have c55b1 : decide (0 < (rd_L2 t1268 x98_4).length) = true := decide_eq_true (by omega); clear c55
                    by_cases c56 : 0 ≤ (rd (rd_L2 t1268 x98_4) 0)
                    ·rw [if_pos c56] at H
                     have c56b0 : decide (0 ≤ (rd (rd_L2 t1268 x98_4) 0)) = true := decide_eq_true c56; clear c56
                     by_cases c57 : (rd (rd_L2 t1268 x98_4) 0) < (t1284.length : Int)
                     ·rw [if_pos c57] at H
                      have c57b0 : decide ((rd (rd_L2 t1268 x98_4) 0) < (t1284.length : Int)) = true := decide_eq_true c57; clear c57
                      by_cases c58 : (rd t1284 (rd (rd_L2 t1268 x98_4) 0)) = 1
                      ·rw [if_pos c58] at H
                       have c58b0 : ((rd t1284 (rd (rd_L2 t1268 x98_4) 0)) == 1) = true := beq_iff_eq.mpr c58; have c58b1 : ((rd t1284 (rd (rd_L2 t1268 x98_4) 0)) != 1) = false := bne_eq_false_iff_eq.mpr c58; clear c58
                       by_cases c59 : (t1272.length : Int) > 0
                       ·rw [if_pos c59] at H
                        have c59b0 : decide (0 < (t1272.length : Int)) = true := decide_eq_true c59; have c59b1 : decide (0 < t1272.length) = true := decide_eq_true (by omega); clear c59
                        by_cases c60 : 0 < (t1272.length : Int)
                        ·rw [if_pos c60] at H
                         have c60b0 : decide (0 < (t1272.length : Int)) = true := decide_eq_true c60; have c60b1 : decide (0 < t1272.length) = true := decide_eq_true (by omega); clear c60; replace H := Option.bind_eq_some_iff.mp H; obtain ⟨t1305, A610, H⟩ := H; (try dsimp -simprocs only at H); have A61 := am A610; clear A610
                         by_cases c62 : (true != t1305) = true
                         ·rw [if_pos c62] at H
                          have c62b0 : (true != t1305) = true := c62
                          (try (have c62b1 : decide (true = t1305) = false := by simpa using c62))
                          (try (have c62b2 : (true == t1305) = false := by simpa using c62))
                          (try (have c62b3 : ¬ (true = t1305) := by simpa using c62))
                          clear c62; obtain rfl := Option.some.inj H; have p1301 : 0 ≤ (x98_4 : Int) := dT; have q1301 : x98_4 < (t1268.length : Int) := dT; obtain ⟨ad1301, A1301_0, c1301_0, e1301, hx1301_0, hl1301_0, hi1301_0⟩ := at_L2 (Kd.S_reads' HO_96.out).2.2 x98_4 p1301 q1301; cases e1301; obtain ⟨ce1301, hce1301, hMe1301, hcc1301⟩ := Kd.S_get HO_96.out [] x98_4 p1301 (by first | exact q1301 | exact dT | (have e_ := (Kd.S_reads' HO_96.out).1; omega)); obtain ⟨ve1301_0, rfl, ge1301_0⟩ := hMe1301; have hv1301_0 := hcc1301 0 _ rfl; rw [Nat.add_zero, show ((Kd.slice 3 (Kd.int .i64))).sz = 1 from rfl, Nat.mul_one] at hv1301_0; replace hv1301_0 := Option.some.inj (hv1301_0.symm.trans hx1301_0); rw [hv1301_0] at ge1301_0; have HL1301_0 := am (show Kd.R (Kd.int .i64) 3 _ _ _ _ (rd_L2 t1268 x98_4) from ge1301_0); clear hv1301_0 ge1301_0; clear hcc1301 hce1301; have HR1301_0 := am hi1301_0; have HC1301_0 := am hl1301_0; clear hi1301_0 hl1301_0; replace p1301 := eq_true p1301; replace q1301 := eq_true q1301; have p1302 : 0 ≤ (0 : Int) := (by omega); have q1302 : 0 < ((rd_L2 t1268 x98_4).length : Int) := dT; obtain ⟨ad1302, e1302, hx1302_0⟩ := Kd.at_int (by repeat (first | (with_reducible exact HR1301_0.out) | (with_reducible refine Kd.C_alloc ?_ _) | (with_reducible refine Kd.C_drewN ?_ _) | (with_reducible refine Kd.C_drew ?_) | exact HR1301_0.out)) 0 p1302 q1302; cases e1302; have qi1302 : (0 < (rd_L2 t1268 x98_4).length) = True := eq_true (by omega)
                          (try rw [show ((0 : Int)).toNat = 0 from rfl] at hx1302_0)
                          (try rw [Addr.add_zero'] at hx1302_0)
                          replace p1302 := eq_true p1302; replace q1302 := eq_true q1302; obtain ⟨Ao63, co63, eo63⟩ := Kd.R_slice HO_12.out; subst eo63; obtain ⟨ad1303, e1303, hx1303_0⟩ := Kd.at_int (Kd.R_reads' HO_12.out).2.2 (rd (rd_L2 t1268 x98_4) 0) dT dT; cases e1303; have p1303 := eT (0 ≤ ((rd (rd_L2 t1268 x98_4) 0) : Int)); have q1303 := eT ((rd (rd_L2 t1268 x98_4) 0) < (t1284.length : Int)); have p1304 : 0 ≤ (0 : Int) := (by omega); have q1304 : 0 < (t1272.length : Int) := dT; obtain ⟨ad1304, A1304_0, c1304_0, e1304, hx1304_0, hl1304_0, hi1304_0⟩ := at_L2 (Kd.S_reads' HO_6.out).2.2 0 p1304 q1304; cases e1304; obtain ⟨ce1304, hce1304, hMe1304, hcc1304⟩ := Kd.S_get HO_6.out [] 0 p1304 (by first | exact q1304 | exact dT | (have e_ := (Kd.S_reads' HO_6.out).1; omega)); obtain ⟨ve1304_0, rfl, ge1304_0⟩ := hMe1304; have hv1304_0 := hcc1304 0 _ rfl; rw [Nat.add_zero, show ((Kd.slice 3 (Kd.int .i64))).sz = 1 from rfl, Nat.mul_one] at hv1304_0; replace hv1304_0 := Option.some.inj (hv1304_0.symm.trans hx1304_0); rw [hv1304_0] at ge1304_0; have HL1304_0 := am (show Kd.R (Kd.int .i64) 3 _ _ _ _ (rd_L2 t1272 0) from ge1304_0); clear hv1304_0 ge1304_0; clear hcc1304 hce1304; have qi1304 : (0 < t1272.length) = True := eq_true (by omega)
                          (try rw [show ((0 : Int)).toNat = 0 from rfl] at hx1304_0)
                          (try rw [Addr.add_zero'] at hx1304_0)
                          have HR1304_0 := am hi1304_0; have HC1304_0 := am hl1304_0; clear hi1304_0 hl1304_0; replace p1304 := eq_true p1304; replace q1304 := eq_true q1304
                          go_wp2_with (first | (go_at_call 26; (with_reducible refine (laws_pHas.calls k4 _ _ (rd_L2 t1272 0) x98_4 t1305 _ ?side1 ?side2 A61.out).mono ?_); (case side1 => repeat (first | exact (by repeat (first | (with_reducible exact HR1304_0.out) | (with_reducible refine Kd.C_alloc ?_ _) | (with_reducible refine Kd.C_drewN ?_ _) | (with_reducible refine Kd.C_drew ?_) | exact HR1304_0.out)) | (with_reducible refine Kd.C_alloc ?_ _) | (with_reducible refine Kd.C_drewN ?_ _) | (with_reducible refine Kd.C_drew ?_))); (case side2 => exact HC1304_0.out); rintro e w' ⟨rfl, ⟨nd, rfl⟩⟩))
                          go_ret
                          exact ⟨eZ, Bq⟩
                         ·rw [if_neg c62] at H
                          have c62b0 : (true != t1305) = false := by simpa using c62
                          (try (have c62b1 : decide (true = t1305) = true := by simpa using c62))
                          (try (have c62b2 : (true == t1305) = true := by simpa using c62))
                          clear c62; have H' := am H; clear H; have p1301 : 0 ≤ (x98_4 : Int) := dT; have q1301 : x98_4 < (t1268.length : Int) := dT; obtain ⟨ad1301, A1301_0, c1301_0, e1301, hx1301_0, hl1301_0, hi1301_0⟩ := at_L2 (Kd.S_reads' HO_96.out).2.2 x98_4 p1301 q1301; cases e1301; obtain ⟨ce1301, hce1301, hMe1301, hcc1301⟩ := Kd.S_get HO_96.out [] x98_4 p1301 (by first | exact q1301 | exact dT | (have e_ := (Kd.S_reads' HO_96.out).1; omega)); obtain ⟨ve1301_0, rfl, ge1301_0⟩ := hMe1301; have hv1301_0 := hcc1301 0 _ rfl; rw [Nat.add_zero, show ((Kd.slice 3 (Kd.int .i64))).sz = 1 from rfl, Nat.mul_one] at hv1301_0; replace hv1301_0 := Option.some.inj (hv1301_0.symm.trans hx1301_0); rw [hv1301_0] at ge1301_0; have HL1301_0 := am (show Kd.R (Kd.int .i64) 3 _ _ _ _ (rd_L2 t1268 x98_4) from ge1301_0); clear hv1301_0 ge1301_0; clear hcc1301 hce1301; have HR1301_0 := am hi1301_0; have HC1301_0 := am hl1301_0; clear hi1301_0 hl1301_0; replace p1301 := eq_true p1301; replace q1301 := eq_true q1301; have p1302 : 0 ≤ (0 : Int) := (by omega); have q1302 : 0 < ((rd_L2 t1268 x98_4).length : Int) := dT; obtain ⟨ad1302, e1302, hx1302_0⟩ := Kd.at_int (by repeat (first | (with_reducible exact HR1301_0.out) | (with_reducible refine Kd.C_alloc ?_ _) | (with_reducible refine Kd.C_drewN ?_ _) | (with_reducible refine Kd.C_drew ?_) | exact HR1301_0.out)) 0 p1302 q1302; cases e1302; have qi1302 : (0 < (rd_L2 t1268 x98_4).length) = True := eq_true (by omega)
                          (try rw [show ((0 : Int)).toNat = 0 from rfl] at hx1302_0)
                          (try rw [Addr.add_zero'] at hx1302_0)
                          replace p1302 := eq_true p1302; replace q1302 := eq_true q1302; obtain ⟨Ao64, co64, eo64⟩ := Kd.R_slice HO_12.out; subst eo64; obtain ⟨ad1303, e1303, hx1303_0⟩ := Kd.at_int (Kd.R_reads' HO_12.out).2.2 (rd (rd_L2 t1268 x98_4) 0) dT dT; cases e1303; have p1303 := eT (0 ≤ ((rd (rd_L2 t1268 x98_4) 0) : Int)); have q1303 := eT ((rd (rd_L2 t1268 x98_4) 0) < (t1284.length : Int)); have p1304 : 0 ≤ (0 : Int) := (by omega); have q1304 : 0 < (t1272.length : Int) := dT; obtain ⟨ad1304, A1304_0, c1304_0, e1304, hx1304_0, hl1304_0, hi1304_0⟩ := at_L2 (Kd.S_reads' HO_6.out).2.2 0 p1304 q1304; cases e1304; obtain ⟨ce1304, hce1304, hMe1304, hcc1304⟩ := Kd.S_get HO_6.out [] 0 p1304 (by first | exact q1304 | exact dT | (have e_ := (Kd.S_reads' HO_6.out).1; omega)); obtain ⟨ve1304_0, rfl, ge1304_0⟩ := hMe1304; have hv1304_0 := hcc1304 0 _ rfl; rw [Nat.add_zero, show ((Kd.slice 3 (Kd.int .i64))).sz = 1 from rfl, Nat.mul_one] at hv1304_0; replace hv1304_0 := Option.some.inj (hv1304_0.symm.trans hx1304_0); rw [hv1304_0] at ge1304_0; have HL1304_0 := am (show Kd.R (Kd.int .i64) 3 _ _ _ _ (rd_L2 t1272 0) from ge1304_0); clear hv1304_0 ge1304_0; clear hcc1304 hce1304; have qi1304 : (0 < t1272.length) = True := eq_true (by omega)
                          (try rw [show ((0 : Int)).toNat = 0 from rfl] at hx1304_0)
                          (try rw [Addr.add_zero'] at hx1304_0)
                          have HR1304_0 := am hi1304_0; have HC1304_0 := am hl1304_0; clear hi1304_0 hl1304_0; replace p1304 := eq_true p1304; replace q1304 := eq_true q1304
                          go_wp2_with (first | (go_at_call 26; (with_reducible refine (laws_pHas.calls k4 _ _ (rd_L2 t1272 0) x98_4 t1305 _ ?side1 ?side2 A61.out).mono ?_); (case side1 => repeat (first | exact (by repeat (first | (with_reducible exact HR1304_0.out) | (with_reducible refine Kd.C_alloc ?_ _) | (with_reducible refine Kd.C_drewN ?_ _) | (with_reducible refine Kd.C_drew ?_) | exact HR1304_0.out)) | (with_reducible refine Kd.C_alloc ?_ _) | (with_reducible refine Kd.C_drewN ?_ _) | (with_reducible refine Kd.C_drew ?_))); (case side2 => exact HC1304_0.out); rintro e w' ⟨rfl, ⟨nd, rfl⟩⟩))
                          go_roundg k4
                          case measure => have := HJ7.out; have := HJ22.out; have := HK3.out; have := HK4.out; omega
                          case rel => exact ⟨(wrap64 (x98_4 + 1)), wZ, H', ⟨by have := HJ7.out; have := HJ22.out; have := HK3.out; have := HK4.out; omega⟩, ⟨by (with_reducible repeat (first | apply Kd.S_alloc | apply Kd.S_drewN | apply Kd.S_drew)); exact HO_6.out⟩, ⟨Rz HO_12.out⟩, ⟨by (with_reducible repeat (first | apply Kd.S_alloc | apply Kd.S_drewN | apply Kd.S_drew)); exact HO_96.out⟩, ⟨by (with_reducible repeat (first | apply Kd.S_alloc | apply Kd.S_drewN | apply Kd.S_drew)); exact HO_1272001.out⟩, ⟨Kz BK1271.out⟩, ⟨Bq⟩⟩
                        ·rw [if_neg c60] at H
                         exact absurd H (by simp)
                       ·rw [if_neg c59] at H
                        have c59b0 : decide (0 < (t1272.length : Int)) = false := decide_eq_false c59; have c59b1 : decide (0 < t1272.length) = false := decide_eq_false (by omega); clear c59
                        by_cases c65 : (true != false) = true
                        ·rw [if_pos c65] at H
                         have c65b0 : (true != false) = true := c65
                         (try (have c65b1 : decide (true = false) = false := by simp))
                         (try (have c65b2 : (true == false) = false := by simp))
                         (try (have c65b3 : ¬ (true = false) := by simp))
                         clear c65; obtain rfl := Option.some.inj H; have p1301 : 0 ≤ (x98_4 : Int) := dT; have q1301 : x98_4 < (t1268.length : Int) := dT; obtain ⟨ad1301, A1301_0, c1301_0, e1301, hx1301_0, hl1301_0, hi1301_0⟩ := at_L2 (Kd.S_reads' HO_96.out).2.2 x98_4 p1301 q1301; cases e1301; obtain ⟨ce1301, hce1301, hMe1301, hcc1301⟩ := Kd.S_get HO_96.out [] x98_4 p1301 (by first | exact q1301 | exact dT | (have e_ := (Kd.S_reads' HO_96.out).1; omega)); obtain ⟨ve1301_0, rfl, ge1301_0⟩ := hMe1301; have hv1301_0 := hcc1301 0 _ rfl; rw [Nat.add_zero, show ((Kd.slice 3 (Kd.int .i64))).sz = 1 from rfl, Nat.mul_one] at hv1301_0; replace hv1301_0 := Option.some.inj (hv1301_0.symm.trans hx1301_0); rw [hv1301_0] at ge1301_0; have HL1301_0 := am (show Kd.R (Kd.int .i64) 3 _ _ _ _ (rd_L2 t1268 x98_4) from ge1301_0); clear hv1301_0 ge1301_0; clear hcc1301 hce1301; have HR1301_0 := am hi1301_0; have HC1301_0 := am hl1301_0; clear hi1301_0 hl1301_0; replace p1301 := eq_true p1301; replace q1301 := eq_true q1301; have p1302 : 0 ≤ (0 : Int) := (by omega); have q1302 : 0 < ((rd_L2 t1268 x98_4).length : Int) := dT; obtain ⟨ad1302, e1302, hx1302_0⟩ := Kd.at_int (by repeat (first | (with_reducible exact HR1301_0.out) | (with_reducible refine Kd.C_alloc ?_ _) | (with_reducible refine Kd.C_drewN ?_ _) | (with_reducible refine Kd.C_drew ?_) | exact HR1301_0.out)) 0 p1302 q1302; cases e1302; have qi1302 : (0 < (rd_L2 t1268 x98_4).length) = True := eq_true (by omega)
                         (try rw [show ((0 : Int)).toNat = 0 from rfl] at hx1302_0)
                         (try rw [Addr.add_zero'] at hx1302_0)
                         replace p1302 := eq_true p1302; replace q1302 := eq_true q1302; obtain ⟨Ao66, co66, eo66⟩ := Kd.R_slice HO_12.out; subst eo66; obtain ⟨ad1303, e1303, hx1303_0⟩ := Kd.at_int (Kd.R_reads' HO_12.out).2.2 (rd (rd_L2 t1268 x98_4) 0) dT dT; cases e1303; have p1303 := eT (0 ≤ ((rd (rd_L2 t1268 x98_4) 0) : Int)); have q1303 := eT ((rd (rd_L2 t1268 x98_4) 0) < (t1284.length : Int))
                         go_wp2
                         go_ret
                         exact ⟨eZ, Bq⟩
                        ·exact absurd rfl c65
                      ·rw [if_neg c58] at H
                       have c58b0 : ((rd t1284 (rd (rd_L2 t1268 x98_4) 0)) == 1) = false := beq_eq_false_iff_ne.mpr c58; have c58b1 : ((rd t1284 (rd (rd_L2 t1268 x98_4) 0)) != 1) = true := bne_iff_ne.mpr c58
                       by_cases c68 : 1 < ((rd_L2 t1268 x98_4).length : Int)
                       ·rw [if_pos c68] at H
                        have c68b0 : decide (1 < ((rd_L2 t1268 x98_4).length : Int)) = true := decide_eq_true c68; have c68b1 : decide (1 < (rd_L2 t1268 x98_4).length) = true := decide_eq_true (by omega); clear c68
                        by_cases c69 : 0 ≤ (rd (rd_L2 t1268 x98_4) 1)
                        ·rw [if_pos c69] at H
                         have c69b0 : decide (0 ≤ (rd (rd_L2 t1268 x98_4) 1)) = true := decide_eq_true c69; clear c69
                         by_cases c70 : (rd (rd_L2 t1268 x98_4) 1) < (t1284.length : Int)
                         ·rw [if_pos c70] at H
                          have c70b0 : decide ((rd (rd_L2 t1268 x98_4) 1) < (t1284.length : Int)) = true := decide_eq_true c70; clear c70
                          by_cases c71 : (rd t1284 (rd (rd_L2 t1268 x98_4) 1)) = 1
                          ·rw [if_pos c71] at H
                           have c71b0 : ((rd t1284 (rd (rd_L2 t1268 x98_4) 1)) == 1) = true := beq_iff_eq.mpr c71; have c71b1 : ((rd t1284 (rd (rd_L2 t1268 x98_4) 1)) != 1) = false := bne_eq_false_iff_eq.mpr c71; clear c71
                           by_cases c72 : (t1272.length : Int) > 0
                           ·rw [if_pos c72] at H
                            have c72b0 : decide (0 < (t1272.length : Int)) = true := decide_eq_true c72; have c72b1 : decide (0 < t1272.length) = true := decide_eq_true (by omega); clear c72
                            by_cases c73 : 0 < (t1272.length : Int)
                            ·rw [if_pos c73] at H
                             have c73b0 : decide (0 < (t1272.length : Int)) = true := decide_eq_true c73; have c73b1 : decide (0 < t1272.length) = true := decide_eq_true (by omega); clear c73; replace H := Option.bind_eq_some_iff.mp H; obtain ⟨t1309, A740, H⟩ := H; (try dsimp -simprocs only at H); have A74 := am A740; clear A740
                             by_cases c75 : (true != t1309) = true
                             ·rw [if_pos c75] at H
                              have c75b0 : (true != t1309) = true := c75
                              (try (have c75b1 : decide (true = t1309) = false := by simpa using c75))
                              (try (have c75b2 : (true == t1309) = false := by simpa using c75))
                              (try (have c75b3 : ¬ (true = t1309) := by simpa using c75))
                              clear c75; obtain rfl := Option.some.inj H; have p1301 : 0 ≤ (x98_4 : Int) := dT; have q1301 : x98_4 < (t1268.length : Int) := dT; obtain ⟨ad1301, A1301_0, c1301_0, e1301, hx1301_0, hl1301_0, hi1301_0⟩ := at_L2 (Kd.S_reads' HO_96.out).2.2 x98_4 p1301 q1301; cases e1301; obtain ⟨ce1301, hce1301, hMe1301, hcc1301⟩ := Kd.S_get HO_96.out [] x98_4 p1301 (by first | exact q1301 | exact dT | (have e_ := (Kd.S_reads' HO_96.out).1; omega)); obtain ⟨ve1301_0, rfl, ge1301_0⟩ := hMe1301; have hv1301_0 := hcc1301 0 _ rfl; rw [Nat.add_zero, show ((Kd.slice 3 (Kd.int .i64))).sz = 1 from rfl, Nat.mul_one] at hv1301_0; replace hv1301_0 := Option.some.inj (hv1301_0.symm.trans hx1301_0); rw [hv1301_0] at ge1301_0; have HL1301_0 := am (show Kd.R (Kd.int .i64) 3 _ _ _ _ (rd_L2 t1268 x98_4) from ge1301_0); clear hv1301_0 ge1301_0; clear hcc1301 hce1301; have HR1301_0 := am hi1301_0; have HC1301_0 := am hl1301_0; clear hi1301_0 hl1301_0; replace p1301 := eq_true p1301; replace q1301 := eq_true q1301; have p1302 : 0 ≤ (0 : Int) := (by omega); have q1302 : 0 < ((rd_L2 t1268 x98_4).length : Int) := dT; obtain ⟨ad1302, e1302, hx1302_0⟩ := Kd.at_int (by repeat (first | (with_reducible exact HR1301_0.out) | (with_reducible refine Kd.C_alloc ?_ _) | (with_reducible refine Kd.C_drewN ?_ _) | (with_reducible refine Kd.C_drew ?_) | exact HR1301_0.out)) 0 p1302 q1302; cases e1302; have qi1302 : (0 < (rd_L2 t1268 x98_4).length) = True := eq_true (by omega)
                              (try rw [show ((0 : Int)).toNat = 0 from rfl] at hx1302_0)
                              (try rw [Addr.add_zero'] at hx1302_0)
                              replace p1302 := eq_true p1302; replace q1302 := eq_true q1302; obtain ⟨Ao76, co76, eo76⟩ := Kd.R_slice HO_12.out; subst eo76; obtain ⟨ad1303, e1303, hx1303_0⟩ := Kd.at_int (Kd.R_reads' HO_12.out).2.2 (rd (rd_L2 t1268 x98_4) 0) dT dT; cases e1303; have p1303 := eT (0 ≤ ((rd (rd_L2 t1268 x98_4) 0) : Int)); have q1303 := eT ((rd (rd_L2 t1268 x98_4) 0) < (t1284.length : Int)); have p1306 : 0 ≤ (1 : Int) := (by omega); have q1306 : 1 < ((rd_L2 t1268 x98_4).length : Int) := dT; obtain ⟨ad1306, e1306, hx1306_0⟩ := Kd.at_int (by repeat (first | (with_reducible exact HR1301_0.out) | (with_reducible refine Kd.C_alloc ?_ _) | (with_reducible refine Kd.C_drewN ?_ _) | (with_reducible refine Kd.C_drew ?_) | exact HR1301_0.out)) 1 p1306 q1306; obtain rfl : ad1302 = ad1306 := (by injection e1306)
                              (try simp only [show (1 : Int).toNat = 1 from rfl, Nat.reduceMul, Nat.reduceEqDiff, Go.Addr.add, ↓reduceIte] at hx1306_0)
                              have qi1306 : (1 < (rd_L2 t1268 x98_4).length) = True := eq_true (by omega)
                              (try rw [show ((1 : Int)).toNat = 1 from rfl] at hx1306_0)
                              replace p1306 := eq_true p1306; replace q1306 := eq_true q1306; have p1307 : 0 ≤ ((rd (rd_L2 t1268 x98_4) 1) : Int) := dT; have q1307 : (rd (rd_L2 t1268 x98_4) 1) < (t1284.length : Int) := dT; obtain ⟨ad1307, e1307, hx1307_0⟩ := Kd.at_int (Kd.R_reads' HO_12.out).2.2 (rd (rd_L2 t1268 x98_4) 1) p1307 q1307; obtain rfl : ad1303 = ad1307 := (by injection e1307); replace p1307 := eq_true p1307; replace q1307 := eq_true q1307; have p1308 : 0 ≤ (0 : Int) := (by omega); have q1308 : 0 < (t1272.length : Int) := dT; obtain ⟨ad1308, A1308_0, c1308_0, e1308, hx1308_0, hl1308_0, hi1308_0⟩ := at_L2 (Kd.S_reads' HO_6.out).2.2 0 p1308 q1308; cases e1308; obtain ⟨ce1308, hce1308, hMe1308, hcc1308⟩ := Kd.S_get HO_6.out [] 0 p1308 (by first | exact q1308 | exact dT | (have e_ := (Kd.S_reads' HO_6.out).1; omega)); obtain ⟨ve1308_0, rfl, ge1308_0⟩ := hMe1308; have hv1308_0 := hcc1308 0 _ rfl; rw [Nat.add_zero, show ((Kd.slice 3 (Kd.int .i64))).sz = 1 from rfl, Nat.mul_one] at hv1308_0; replace hv1308_0 := Option.some.inj (hv1308_0.symm.trans hx1308_0); rw [hv1308_0] at ge1308_0; have HL1308_0 := am (show Kd.R (Kd.int .i64) 3 _ _ _ _ (rd_L2 t1272 0) from ge1308_0); clear hv1308_0 ge1308_0; clear hcc1308 hce1308; have qi1308 : (0 < t1272.length) = True := eq_true (by omega)
                              (try rw [show ((0 : Int)).toNat = 0 from rfl] at hx1308_0)
                              (try rw [Addr.add_zero'] at hx1308_0)
                              have HR1308_0 := am hi1308_0; have HC1308_0 := am hl1308_0; clear hi1308_0 hl1308_0; replace p1308 := eq_true p1308; replace q1308 := eq_true q1308
                              go_wp2_with (first | (go_at_call 26; (with_reducible refine (laws_pHas.calls k4 _ _ (rd_L2 t1272 0) x98_4 t1309 _ ?side1 ?side2 A74.out).mono ?_); (case side1 => repeat (first | exact (by repeat (first | (with_reducible exact HR1308_0.out) | (with_reducible refine Kd.C_alloc ?_ _) | (with_reducible refine Kd.C_drewN ?_ _) | (with_reducible refine Kd.C_drew ?_) | exact HR1308_0.out)) | (with_reducible refine Kd.C_alloc ?_ _) | (with_reducible refine Kd.C_drewN ?_ _) | (with_reducible refine Kd.C_drew ?_))); (case side2 => exact HC1308_0.out); rintro e w' ⟨rfl, ⟨nd, rfl⟩⟩))
                              go_ret
                              exact ⟨eZ, Bq⟩
                             ·rw [if_neg c75] at H
                              have c75b0 : (true != t1309) = false := by simpa using c75
                              (try (have c75b1 : decide (true = t1309) = true := by simpa using c75))
                              (try (have c75b2 : (true == t1309) = true := by simpa using c75))
                              clear c75; have H' := am H; clear H; have p1301 : 0 ≤ (x98_4 : Int) := dT; have q1301 : x98_4 < (t1268.length : Int) := dT; obtain ⟨ad1301, A1301_0, c1301_0, e1301, hx1301_0, hl1301_0, hi1301_0⟩ := at_L2 (Kd.S_reads' HO_96.out).2.2 x98_4 p1301 q1301; cases e1301; obtain ⟨ce1301, hce1301, hMe1301, hcc1301⟩ := Kd.S_get HO_96.out [] x98_4 p1301 (by first | exact q1301 | exact dT | (have e_ := (Kd.S_reads' HO_96.out).1; omega)); obtain ⟨ve1301_0, rfl, ge1301_0⟩ := hMe1301; have hv1301_0 := hcc1301 0 _ rfl; rw [Nat.add_zero, show ((Kd.slice 3 (Kd.int .i64))).sz = 1 from rfl, Nat.mul_one] at hv1301_0; replace hv1301_0 := Option.some.inj (hv1301_0.symm.trans hx1301_0); rw [hv1301_0] at ge1301_0; have HL1301_0 := am (show Kd.R (Kd.int .i64) 3 _ _ _ _ (rd_L2 t1268 x98_4) from ge1301_0); clear hv1301_0 ge1301_0; clear hcc1301 hce1301; have HR1301_0 := am hi1301_0; have HC1301_0 := am hl1301_0; clear hi1301_0 hl1301_0; replace p1301 := eq_true p1301; replace q1301 := eq_true q1301; have p1302 : 0 ≤ (0 : Int) := (by omega); have q1302 : 0 < ((rd_L2 t1268 x98_4).length : Int) := dT; obtain ⟨ad1302, e1302, hx1302_0⟩ := Kd.at_int (by repeat (first | (with_reducible exact HR1301_0.out) | (with_reducible refine Kd.C_alloc ?_ _) | (with_reducible refine Kd.C_drewN ?_ _) | (with_reducible refine Kd.C_drew ?_) | exact HR1301_0.out)) 0 p1302 q1302; cases e1302; have qi1302 : (0 < (rd_L2 t1268 x98_4).length) = True := eq_true (by omega)
                              (try rw [show ((0 : Int)).toNat = 0 from rfl] at hx1302_0)
                              (try rw [Addr.add_zero'] at hx1302_0)
                              replace p1302 := eq_true p1302; replace q1302 := eq_true q1302; obtain ⟨Ao77, co77, eo77⟩ := Kd.R_slice HO_12.out; subst eo77; obtain ⟨ad1303, e1303, hx1303_0⟩ := Kd.at_int (Kd.R_reads' HO_12.out).2.2 (rd (rd_L2 t1268 x98_4) 0) dT dT; cases e1303; have p1303 := eT (0 ≤ ((rd (rd_L2 t1268 x98_4) 0) : Int)); have q1303 := eT ((rd (rd_L2 t1268 x98_4) 0) < (t1284.length : Int)); have p1306 : 0 ≤ (1 : Int) := (by omega); have q1306 : 1 < ((rd_L2 t1268 x98_4).length : Int) := dT; obtain ⟨ad1306, e1306, hx1306_0⟩ := Kd.at_int (by repeat (first | (with_reducible exact HR1301_0.out) | (with_reducible refine Kd.C_alloc ?_ _) | (with_reducible refine Kd.C_drewN ?_ _) | (with_reducible refine Kd.C_drew ?_) | exact HR1301_0.out)) 1 p1306 q1306; obtain rfl : ad1302 = ad1306 := (by injection e1306)
                              (try simp only [show (1 : Int).toNat = 1 from rfl, Nat.reduceMul, Nat.reduceEqDiff, Go.Addr.add, ↓reduceIte] at hx1306_0)
                              have qi1306 : (1 < (rd_L2 t1268 x98_4).length) = True := eq_true (by omega)
                              (try rw [show ((1 : Int)).toNat = 1 from rfl] at hx1306_0)
                              replace p1306 := eq_true p1306; replace q1306 := eq_true q1306; have p1307 : 0 ≤ ((rd (rd_L2 t1268 x98_4) 1) : Int) := dT; have q1307 : (rd (rd_L2 t1268 x98_4) 1) < (t1284.length : Int) := dT; obtain ⟨ad1307, e1307, hx1307_0⟩ := Kd.at_int (Kd.R_reads' HO_12.out).2.2 (rd (rd_L2 t1268 x98_4) 1) p1307 q1307; obtain rfl : ad1303 = ad1307 := (by injection e1307); replace p1307 := eq_true p1307; replace q1307 := eq_true q1307; have p1308 : 0 ≤ (0 : Int) := (by omega); have q1308 : 0 < (t1272.length : Int) := dT; obtain ⟨ad1308, A1308_0, c1308_0, e1308, hx1308_0, hl1308_0, hi1308_0⟩ := at_L2 (Kd.S_reads' HO_6.out).2.2 0 p1308 q1308; cases e1308; obtain ⟨ce1308, hce1308, hMe1308, hcc1308⟩ := Kd.S_get HO_6.out [] 0 p1308 (by first | exact q1308 | exact dT | (have e_ := (Kd.S_reads' HO_6.out).1; omega)); obtain ⟨ve1308_0, rfl, ge1308_0⟩ := hMe1308; have hv1308_0 := hcc1308 0 _ rfl; rw [Nat.add_zero, show ((Kd.slice 3 (Kd.int .i64))).sz = 1 from rfl, Nat.mul_one] at hv1308_0; replace hv1308_0 := Option.some.inj (hv1308_0.symm.trans hx1308_0); rw [hv1308_0] at ge1308_0; have HL1308_0 := am (show Kd.R (Kd.int .i64) 3 _ _ _ _ (rd_L2 t1272 0) from ge1308_0); clear hv1308_0 ge1308_0; clear hcc1308 hce1308; have qi1308 : (0 < t1272.length) = True := eq_true (by omega)
                              (try rw [show ((0 : Int)).toNat = 0 from rfl] at hx1308_0)
                              (try rw [Addr.add_zero'] at hx1308_0)
                              have HR1308_0 := am hi1308_0; have HC1308_0 := am hl1308_0; clear hi1308_0 hl1308_0; replace p1308 := eq_true p1308; replace q1308 := eq_true q1308
                              go_wp2_with (first | (go_at_call 26; (with_reducible refine (laws_pHas.calls k4 _ _ (rd_L2 t1272 0) x98_4 t1309 _ ?side1 ?side2 A74.out).mono ?_); (case side1 => repeat (first | exact (by repeat (first | (with_reducible exact HR1308_0.out) | (with_reducible refine Kd.C_alloc ?_ _) | (with_reducible refine Kd.C_drewN ?_ _) | (with_reducible refine Kd.C_drew ?_) | exact HR1308_0.out)) | (with_reducible refine Kd.C_alloc ?_ _) | (with_reducible refine Kd.C_drewN ?_ _) | (with_reducible refine Kd.C_drew ?_))); (case side2 => exact HC1308_0.out); rintro e w' ⟨rfl, ⟨nd, rfl⟩⟩))
                              go_roundg k4
                              case measure => have := HJ7.out; have := HJ22.out; have := HK3.out; have := HK4.out; omega
                              case rel => exact ⟨(wrap64 (x98_4 + 1)), wZ, H', ⟨by have := HJ7.out; have := HJ22.out; have := HK3.out; have := HK4.out; omega⟩, ⟨by (with_reducible repeat (first | apply Kd.S_alloc | apply Kd.S_drewN | apply Kd.S_drew)); exact HO_6.out⟩, ⟨Rz HO_12.out⟩, ⟨by (with_reducible repeat (first | apply Kd.S_alloc | apply Kd.S_drewN | apply Kd.S_drew)); exact HO_96.out⟩, ⟨by (with_reducible repeat (first | apply Kd.S_alloc | apply Kd.S_drewN | apply Kd.S_drew)); exact HO_1272001.out⟩, ⟨Kz BK1271.out⟩, ⟨Bq⟩⟩
                            ·rw [if_neg c73] at H
                             exact absurd H (by simp)
                           ·rw [if_neg c72] at H
                            have c72b0 : decide (0 < (t1272.length : Int)) = false := decide_eq_false c72; have c72b1 : decide (0 < t1272.length) = false := decide_eq_false (by omega); clear c72
                            by_cases c78 : (true != false) = true
                            ·rw [if_pos c78] at H
                             have c78b0 : (true != false) = true := c78
                             (try (have c78b1 : decide (true = false) = false := by simp))
                             (try (have c78b2 : (true == false) = false := by simp))
                             (try (have c78b3 : ¬ (true = false) := by simp))
                             clear c78; obtain rfl := Option.some.inj H; have p1301 : 0 ≤ (x98_4 : Int) := dT; have q1301 : x98_4 < (t1268.length : Int) := dT; obtain ⟨ad1301, A1301_0, c1301_0, e1301, hx1301_0, hl1301_0, hi1301_0⟩ := at_L2 (Kd.S_reads' HO_96.out).2.2 x98_4 p1301 q1301; cases e1301; obtain ⟨ce1301, hce1301, hMe1301, hcc1301⟩ := Kd.S_get HO_96.out [] x98_4 p1301 (by first | exact q1301 | exact dT | (have e_ := (Kd.S_reads' HO_96.out).1; omega)); obtain ⟨ve1301_0, rfl, ge1301_0⟩ := hMe1301; have hv1301_0 := hcc1301 0 _ rfl; rw [Nat.add_zero, show ((Kd.slice 3 (Kd.int .i64))).sz = 1 from rfl, Nat.mul_one] at hv1301_0; replace hv1301_0 := Option.some.inj (hv1301_0.symm.trans hx1301_0); rw [hv1301_0] at ge1301_0; have HL1301_0 := am (show Kd.R (Kd.int .i64) 3 _ _ _ _ (rd_L2 t1268 x98_4) from ge1301_0); clear hv1301_0 ge1301_0; clear hcc1301 hce1301; have HR1301_0 := am hi1301_0; have HC1301_0 := am hl1301_0; clear hi1301_0 hl1301_0; replace p1301 := eq_true p1301; replace q1301 := eq_true q1301; have p1302 : 0 ≤ (0 : Int) := (by omega); have q1302 : 0 < ((rd_L2 t1268 x98_4).length : Int) := dT; obtain ⟨ad1302, e1302, hx1302_0⟩ := Kd.at_int (by repeat (first | (with_reducible exact HR1301_0.out) | (with_reducible refine Kd.C_alloc ?_ _) | (with_reducible refine Kd.C_drewN ?_ _) | (with_reducible refine Kd.C_drew ?_) | exact HR1301_0.out)) 0 p1302 q1302; cases e1302; have qi1302 : (0 < (rd_L2 t1268 x98_4).length) = True := eq_true (by omega)
                             (try rw [show ((0 : Int)).toNat = 0 from rfl] at hx1302_0)
                             (try rw [Addr.add_zero'] at hx1302_0)
                             replace p1302 := eq_true p1302; replace q1302 := eq_true q1302; obtain ⟨Ao79, co79, eo79⟩ := Kd.R_slice HO_12.out; subst eo79; obtain ⟨ad1303, e1303, hx1303_0⟩ := Kd.at_int (Kd.R_reads' HO_12.out).2.2 (rd (rd_L2 t1268 x98_4) 0) dT dT; cases e1303; have p1303 := eT (0 ≤ ((rd (rd_L2 t1268 x98_4) 0) : Int)); have q1303 := eT ((rd (rd_L2 t1268 x98_4) 0) < (t1284.length : Int)); have p1306 : 0 ≤ (1 : Int) := (by omega); have q1306 : 1 < ((rd_L2 t1268 x98_4).length : Int) := dT; obtain ⟨ad1306, e1306, hx1306_0⟩ := Kd.at_int (by repeat (first | (with_reducible exact HR1301_0.out) | (with_reducible refine Kd.C_alloc ?_ _) | (with_reducible refine Kd.C_drewN ?_ _) | (with_reducible refine Kd.C_drew ?_) | exact HR1301_0.out)) 1 p1306 q1306; obtain rfl : ad1302 = ad1306 := (by injection e1306)
                             (try simp only [show (1 : Int).toNat = 1 from rfl, Nat.reduceMul, Nat.reduceEqDiff, Go.Addr.add, ↓reduceIte] at hx1306_0)
                             have qi1306 : (1 < (rd_L2 t1268 x98_4).length) = True := eq_true (by omega)
                             (try rw [show ((1 : Int)).toNat = 1 from rfl] at hx1306_0)
                             replace p1306 := eq_true p1306; replace q1306 := eq_true q1306; have p1307 : 0 ≤ ((rd (rd_L2 t1268 x98_4) 1) : Int) := dT; have q1307 : (rd (rd_L2 t1268 x98_4) 1) < (t1284.length : Int) := dT; obtain ⟨ad1307, e1307, hx1307_0⟩ := Kd.at_int (Kd.R_reads' HO_12.out).2.2 (rd (rd_L2 t1268 x98_4) 1) p1307 q1307; obtain rfl : ad1303 = ad1307 := (by injection e1307); replace p1307 := eq_true p1307; replace q1307 := eq_true q1307
                             go_wp2
                             go_ret
                             exact ⟨eZ, Bq⟩
                            ·exact absurd rfl c78
                          ·rw [if_neg c71] at H
                           have c71b0 : ((rd t1284 (rd (rd_L2 t1268 x98_4) 1)) == 1) = false := beq_eq_false_iff_ne.mpr c71; have c71b1 : ((rd t1284 (rd (rd_L2 t1268 x98_4) 1)) != 1) = true := bne_iff_ne.mpr c71
                           by_cases c81 : 2 < ((rd_L2 t1268 x98_4).length : Int)
                           ·rw [if_pos c81] at H
                            have c81b0 : decide (2 < ((rd_L2 t1268 x98_4).length : Int)) = true := decide_eq_true c81; have c81b1 : decide (2 < (rd_L2 t1268 x98_4).length) = true := decide_eq_true (by omega); clear c81
                            by_cases c82 : 0 ≤ (rd (rd_L2 t1268 x98_4) 2)
                            ·rw [if_pos c82] at H
                             have c82b0 : decide (0 ≤ (rd (rd_L2 t1268 x98_4) 2)) = true := decide_eq_true c82; clear c82
                             by_cases c83 : (rd (rd_L2 t1268 x98_4) 2) < (t1284.length : Int)
                             ·rw [if_pos c83] at H
                              have c83b0 : decide ((rd (rd_L2 t1268 x98_4) 2) < (t1284.length : Int)) = true := decide_eq_true c83; clear c83
                              by_cases c84 : (t1272.length : Int) > 0
                              ·rw [if_pos c84] at H
                               have c84b0 : decide (0 < (t1272.length : Int)) = true := decide_eq_true c84; have c84b1 : decide (0 < t1272.length) = true := decide_eq_true (by omega); clear c84
                               by_cases c85 : 0 < (t1272.length : Int)
                               ·rw [if_pos c85] at H
                                have c85b0 : decide (0 < (t1272.length : Int)) = true := decide_eq_true c85; have c85b1 : decide (0 < t1272.length) = true := decide_eq_true (by omega); clear c85; replace H := Option.bind_eq_some_iff.mp H; obtain ⟨t1313, A860, H⟩ := H; (try dsimp -simprocs only at H); have A86 := am A860; clear A860
                                by_cases c87 : (((rd t1284 (rd (rd_L2 t1268 x98_4) 2)) == 1) != t1313) = true
                                ·rw [if_pos c87] at H
                                 have c87b0 : (((rd t1284 (rd (rd_L2 t1268 x98_4) 2)) == 1) != t1313) = true := c87
                                 (try (have c87b1 : decide (((rd t1284 (rd (rd_L2 t1268 x98_4) 2)) == 1) = t1313) = false := by simpa using c87))
                                 (try (have c87b2 : (((rd t1284 (rd (rd_L2 t1268 x98_4) 2)) == 1) == t1313) = false := by simpa using c87))
                                 (try (have c87b3 : ¬ (((rd t1284 (rd (rd_L2 t1268 x98_4) 2)) == 1) = t1313) := by simpa using c87))
                                 clear c87; obtain rfl := Option.some.inj H; have p1301 : 0 ≤ (x98_4 : Int) := dT; have q1301 : x98_4 < (t1268.length : Int) := dT; obtain ⟨ad1301, A1301_0, c1301_0, e1301, hx1301_0, hl1301_0, hi1301_0⟩ := at_L2 (Kd.S_reads' HO_96.out).2.2 x98_4 p1301 q1301; cases e1301; obtain ⟨ce1301, hce1301, hMe1301, hcc1301⟩ := Kd.S_get HO_96.out [] x98_4 p1301 (by first | exact q1301 | exact dT | (have e_ := (Kd.S_reads' HO_96.out).1; omega)); obtain ⟨ve1301_0, rfl, ge1301_0⟩ := hMe1301; have hv1301_0 := hcc1301 0 _ rfl; rw [Nat.add_zero, show ((Kd.slice 3 (Kd.int .i64))).sz = 1 from rfl, Nat.mul_one] at hv1301_0; replace hv1301_0 := Option.some.inj (hv1301_0.symm.trans hx1301_0); rw [hv1301_0] at ge1301_0; have HL1301_0 := am (show Kd.R (Kd.int .i64) 3 _ _ _ _ (rd_L2 t1268 x98_4) from ge1301_0); clear hv1301_0 ge1301_0; clear hcc1301 hce1301; have HR1301_0 := am hi1301_0; have HC1301_0 := am hl1301_0; clear hi1301_0 hl1301_0; replace p1301 := eq_true p1301; replace q1301 := eq_true q1301; have p1302 : 0 ≤ (0 : Int) := (by omega); have q1302 : 0 < ((rd_L2 t1268 x98_4).length : Int) := dT; obtain ⟨ad1302, e1302, hx1302_0⟩ := Kd.at_int (by repeat (first | (with_reducible exact HR1301_0.out) | (with_reducible refine Kd.C_alloc ?_ _) | (with_reducible refine Kd.C_drewN ?_ _) | (with_reducible refine Kd.C_drew ?_) | exact HR1301_0.out)) 0 p1302 q1302; cases e1302; have qi1302 : (0 < (rd_L2 t1268 x98_4).length) = True := eq_true (by omega)
                                 (try rw [show ((0 : Int)).toNat = 0 from rfl] at hx1302_0)
                                 (try rw [Addr.add_zero'] at hx1302_0)
                                 replace p1302 := eq_true p1302; replace q1302 := eq_true q1302; obtain ⟨Ao88, co88, eo88⟩ := Kd.R_slice HO_12.out; subst eo88; obtain ⟨ad1303, e1303, hx1303_0⟩ := Kd.at_int (Kd.R_reads' HO_12.out).2.2 (rd (rd_L2 t1268 x98_4) 0) dT dT; cases e1303; have p1303 := eT (0 ≤ ((rd (rd_L2 t1268 x98_4) 0) : Int)); have q1303 := eT ((rd (rd_L2 t1268 x98_4) 0) < (t1284.length : Int)); have p1306 : 0 ≤ (1 : Int) := (by omega); have q1306 : 1 < ((rd_L2 t1268 x98_4).length : Int) := dT; obtain ⟨ad1306, e1306, hx1306_0⟩ := Kd.at_int (by repeat (first | (with_reducible exact HR1301_0.out) | (with_reducible refine Kd.C_alloc ?_ _) | (with_reducible refine Kd.C_drewN ?_ _) | (with_reducible refine Kd.C_drew ?_) | exact HR1301_0.out)) 1 p1306 q1306; obtain rfl : ad1302 = ad1306 := (by injection e1306)
                                 (try simp only [show (1 : Int).toNat = 1 from rfl, Nat.reduceMul, Nat.reduceEqDiff, Go.Addr.add, ↓reduceIte] at hx1306_0)
                                 have qi1306 : (1 < (rd_L2 t1268 x98_4).length) = True := eq_true (by omega)
                                 (try rw [show ((1 : Int)).toNat = 1 from rfl] at hx1306_0)
                                 replace p1306 := eq_true p1306; replace q1306 := eq_true q1306; have p1307 : 0 ≤ ((rd (rd_L2 t1268 x98_4) 1) : Int) := dT; have q1307 : (rd (rd_L2 t1268 x98_4) 1) < (t1284.length : Int) := dT; obtain ⟨ad1307, e1307, hx1307_0⟩ := Kd.at_int (Kd.R_reads' HO_12.out).2.2 (rd (rd_L2 t1268 x98_4) 1) p1307 q1307; obtain rfl : ad1303 = ad1307 := (by injection e1307); replace p1307 := eq_true p1307; replace q1307 := eq_true q1307; have p1310 : 0 ≤ (2 : Int) := (by omega); have q1310 : 2 < ((rd_L2 t1268 x98_4).length : Int) := dT; obtain ⟨ad1310, e1310, hx1310_0⟩ := Kd.at_int (by repeat (first | (with_reducible exact HR1301_0.out) | (with_reducible refine Kd.C_alloc ?_ _) | (with_reducible refine Kd.C_drewN ?_ _) | (with_reducible refine Kd.C_drew ?_) | exact HR1301_0.out)) 2 p1310 q1310; obtain rfl : ad1302 = ad1310 := (by injection e1310)
                                 (try simp only [show (2 : Int).toNat = 2 from rfl, Nat.reduceMul, Nat.reduceEqDiff, Go.Addr.add, ↓reduceIte] at hx1310_0)
                                 have qi1310 : (2 < (rd_L2 t1268 x98_4).length) = True := eq_true (by omega)
                                 (try rw [show ((2 : Int)).toNat = 2 from rfl] at hx1310_0)
                                 replace p1310 := eq_true p1310; replace q1310 := eq_true q1310; have p1311 : 0 ≤ ((rd (rd_L2 t1268 x98_4) 2) : Int) := dT; have q1311 : (rd (rd_L2 t1268 x98_4) 2) < (t1284.length : Int) := dT; obtain ⟨ad1311, e1311, hx1311_0⟩ := Kd.at_int (Kd.R_reads' HO_12.out).2.2 (rd (rd_L2 t1268 x98_4) 2) p1311 q1311; obtain rfl : ad1303 = ad1311 := (by injection e1311); replace p1311 := eq_true p1311; replace q1311 := eq_true q1311; have p1312 : 0 ≤ (0 : Int) := (by omega); have q1312 : 0 < (t1272.length : Int) := dT; obtain ⟨ad1312, A1312_0, c1312_0, e1312, hx1312_0, hl1312_0, hi1312_0⟩ := at_L2 (Kd.S_reads' HO_6.out).2.2 0 p1312 q1312; cases e1312; obtain ⟨ce1312, hce1312, hMe1312, hcc1312⟩ := Kd.S_get HO_6.out [] 0 p1312 (by first | exact q1312 | exact dT | (have e_ := (Kd.S_reads' HO_6.out).1; omega)); obtain ⟨ve1312_0, rfl, ge1312_0⟩ := hMe1312; have hv1312_0 := hcc1312 0 _ rfl; rw [Nat.add_zero, show ((Kd.slice 3 (Kd.int .i64))).sz = 1 from rfl, Nat.mul_one] at hv1312_0; replace hv1312_0 := Option.some.inj (hv1312_0.symm.trans hx1312_0); rw [hv1312_0] at ge1312_0; have HL1312_0 := am (show Kd.R (Kd.int .i64) 3 _ _ _ _ (rd_L2 t1272 0) from ge1312_0); clear hv1312_0 ge1312_0; clear hcc1312 hce1312; have qi1312 : (0 < t1272.length) = True := eq_true (by omega)
                                 (try rw [show ((0 : Int)).toNat = 0 from rfl] at hx1312_0)
                                 (try rw [Addr.add_zero'] at hx1312_0)
                                 have HR1312_0 := am hi1312_0; have HC1312_0 := am hl1312_0; clear hi1312_0 hl1312_0; replace p1312 := eq_true p1312; replace q1312 := eq_true q1312
                                 go_wp2_with (first | (go_at_call 26; (with_reducible refine (laws_pHas.calls k4 _ _ (rd_L2 t1272 0) x98_4 t1313 _ ?side1 ?side2 A86.out).mono ?_); (case side1 => repeat (first | exact (by repeat (first | (with_reducible exact HR1312_0.out) | (with_reducible refine Kd.C_alloc ?_ _) | (with_reducible refine Kd.C_drewN ?_ _) | (with_reducible refine Kd.C_drew ?_) | exact HR1312_0.out)) | (with_reducible refine Kd.C_alloc ?_ _) | (with_reducible refine Kd.C_drewN ?_ _) | (with_reducible refine Kd.C_drew ?_))); (case side2 => exact HC1312_0.out); rintro e w' ⟨rfl, ⟨nd, rfl⟩⟩))
                                 go_ret
                                 exact ⟨eZ, Bq⟩
                                ·rw [if_neg c87] at H
                                 have c87b0 : (((rd t1284 (rd (rd_L2 t1268 x98_4) 2)) == 1) != t1313) = false := by simpa using c87
                                 (try (have c87b1 : decide (((rd t1284 (rd (rd_L2 t1268 x98_4) 2)) == 1) = t1313) = true := by simpa using c87))
                                 (try (have c87b2 : (((rd t1284 (rd (rd_L2 t1268 x98_4) 2)) == 1) == t1313) = true := by simpa using c87))
                                 clear c87; have H' := am H; clear H; have p1301 : 0 ≤ (x98_4 : Int) := dT; have q1301 : x98_4 < (t1268.length : Int) := dT; obtain ⟨ad1301, A1301_0, c1301_0, e1301, hx1301_0, hl1301_0, hi1301_0⟩ := at_L2 (Kd.S_reads' HO_96.out).2.2 x98_4 p1301 q1301; cases e1301; obtain ⟨ce1301, hce1301, hMe1301, hcc1301⟩ := Kd.S_get HO_96.out [] x98_4 p1301 (by first | exact q1301 | exact dT | (have e_ := (Kd.S_reads' HO_96.out).1; omega)); obtain ⟨ve1301_0, rfl, ge1301_0⟩ := hMe1301; have hv1301_0 := hcc1301 0 _ rfl; rw [Nat.add_zero, show ((Kd.slice 3 (Kd.int .i64))).sz = 1 from rfl, Nat.mul_one] at hv1301_0; replace hv1301_0 := Option.some.inj (hv1301_0.symm.trans hx1301_0); rw [hv1301_0] at ge1301_0; have HL1301_0 := am (show Kd.R (Kd.int .i64) 3 _ _ _ _ (rd_L2 t1268 x98_4) from ge1301_0); clear hv1301_0 ge1301_0; clear hcc1301 hce1301; have HR1301_0 := am hi1301_0; have HC1301_0 := am hl1301_0; clear hi1301_0 hl1301_0; replace p1301 := eq_true p1301; replace q1301 := eq_true q1301; have p1302 : 0 ≤ (0 : Int) := (by omega); have q1302 : 0 < ((rd_L2 t1268 x98_4).length : Int) := dT; obtain ⟨ad1302, e1302, hx1302_0⟩ := Kd.at_int (by repeat (first | (with_reducible exact HR1301_0.out) | (with_reducible refine Kd.C_alloc ?_ _) | (with_reducible refine Kd.C_drewN ?_ _) | (with_reducible refine Kd.C_drew ?_) | exact HR1301_0.out)) 0 p1302 q1302; cases e1302; have qi1302 : (0 < (rd_L2 t1268 x98_4).length) = True := eq_true (by omega)
                                 (try rw [show ((0 : Int)).toNat = 0 from rfl] at hx1302_0)
                                 (try rw [Addr.add_zero'] at hx1302_0)
                                 replace p1302 := eq_true p1302; replace q1302 := eq_true q1302; obtain ⟨Ao89, co89, eo89⟩ := Kd.R_slice HO_12.out; subst eo89; obtain ⟨ad1303, e1303, hx1303_0⟩ := Kd.at_int (Kd.R_reads' HO_12.out).2.2 (rd (rd_L2 t1268 x98_4) 0) dT dT; cases e1303; have p1303 := eT (0 ≤ ((rd (rd_L2 t1268 x98_4) 0) : Int)); have q1303 := eT ((rd (rd_L2 t1268 x98_4) 0) < (t1284.length : Int)); have p1306 : 0 ≤ (1 : Int) := (by omega); have q1306 : 1 < ((rd_L2 t1268 x98_4).length : Int) := dT; obtain ⟨ad1306, e1306, hx1306_0⟩ := Kd.at_int (by repeat (first | (with_reducible exact HR1301_0.out) | (with_reducible refine Kd.C_alloc ?_ _) | (with_reducible refine Kd.C_drewN ?_ _) | (with_reducible refine Kd.C_drew ?_) | exact HR1301_0.out)) 1 p1306 q1306; obtain rfl : ad1302 = ad1306 := (by injection e1306)
                                 (try simp only [show (1 : Int).toNat = 1 from rfl, Nat.reduceMul, Nat.reduceEqDiff, Go.Addr.add, ↓reduceIte] at hx1306_0)
                                 have qi1306 : (1 < (rd_L2 t1268 x98_4).length) = True := eq_true (by omega)
                                 (try rw [show ((1 : Int)).toNat = 1 from rfl] at hx1306_0)
                                 replace p1306 := eq_true p1306; replace q1306 := eq_true q1306; have p1307 : 0 ≤ ((rd (rd_L2 t1268 x98_4) 1) : Int) := dT; have q1307 : (rd (rd_L2 t1268 x98_4) 1) < (t1284.length : Int) := dT; obtain ⟨ad1307, e1307, hx1307_0⟩ := Kd.at_int (Kd.R_reads' HO_12.out).2.2 (rd (rd_L2 t1268 x98_4) 1) p1307 q1307; obtain rfl : ad1303 = ad1307 := (by injection e1307); replace p1307 := eq_true p1307; replace q1307 := eq_true q1307; have p1310 : 0 ≤ (2 : Int) := (by omega); have q1310 : 2 < ((rd_L2 t1268 x98_4).length : Int) := dT; obtain ⟨ad1310, e1310, hx1310_0⟩ := Kd.at_int (by repeat (first | (with_reducible exact HR1301_0.out) | (with_reducible refine Kd.C_alloc ?_ _) | (with_reducible refine Kd.C_drewN ?_ _) | (with_reducible refine Kd.C_drew ?_) | exact HR1301_0.out)) 2 p1310 q1310; obtain rfl : ad1302 = ad1310 := (by injection e1310)
                                 (try simp only [show (2 : Int).toNat = 2 from rfl, Nat.reduceMul, Nat.reduceEqDiff, Go.Addr.add, ↓reduceIte] at hx1310_0)
                                 have qi1310 : (2 < (rd_L2 t1268 x98_4).length) = True := eq_true (by omega)
                                 (try rw [show ((2 : Int)).toNat = 2 from rfl] at hx1310_0)
                                 replace p1310 := eq_true p1310; replace q1310 := eq_true q1310; have p1311 : 0 ≤ ((rd (rd_L2 t1268 x98_4) 2) : Int) := dT; have q1311 : (rd (rd_L2 t1268 x98_4) 2) < (t1284.length : Int) := dT; obtain ⟨ad1311, e1311, hx1311_0⟩ := Kd.at_int (Kd.R_reads' HO_12.out).2.2 (rd (rd_L2 t1268 x98_4) 2) p1311 q1311; obtain rfl : ad1303 = ad1311 := (by injection e1311); replace p1311 := eq_true p1311; replace q1311 := eq_true q1311; have p1312 : 0 ≤ (0 : Int) := (by omega); have q1312 : 0 < (t1272.length : Int) := dT; obtain ⟨ad1312, A1312_0, c1312_0, e1312, hx1312_0, hl1312_0, hi1312_0⟩ := at_L2 (Kd.S_reads' HO_6.out).2.2 0 p1312 q1312; cases e1312; obtain ⟨ce1312, hce1312, hMe1312, hcc1312⟩ := Kd.S_get HO_6.out [] 0 p1312 (by first | exact q1312 | exact dT | (have e_ := (Kd.S_reads' HO_6.out).1; omega)); obtain ⟨ve1312_0, rfl, ge1312_0⟩ := hMe1312; have hv1312_0 := hcc1312 0 _ rfl; rw [Nat.add_zero, show ((Kd.slice 3 (Kd.int .i64))).sz = 1 from rfl, Nat.mul_one] at hv1312_0; replace hv1312_0 := Option.some.inj (hv1312_0.symm.trans hx1312_0); rw [hv1312_0] at ge1312_0; have HL1312_0 := am (show Kd.R (Kd.int .i64) 3 _ _ _ _ (rd_L2 t1272 0) from ge1312_0); clear hv1312_0 ge1312_0; clear hcc1312 hce1312; have qi1312 : (0 < t1272.length) = True := eq_true (by omega)
                                 (try rw [show ((0 : Int)).toNat = 0 from rfl] at hx1312_0)
                                 (try rw [Addr.add_zero'] at hx1312_0)
                                 have HR1312_0 := am hi1312_0; have HC1312_0 := am hl1312_0; clear hi1312_0 hl1312_0; replace p1312 := eq_true p1312; replace q1312 := eq_true q1312
                                 go_wp2_with (first | (go_at_call 26; (with_reducible refine (laws_pHas.calls k4 _ _ (rd_L2 t1272 0) x98_4 t1313 _ ?side1 ?side2 A86.out).mono ?_); (case side1 => repeat (first | exact (by repeat (first | (with_reducible exact HR1312_0.out) | (with_reducible refine Kd.C_alloc ?_ _) | (with_reducible refine Kd.C_drewN ?_ _) | (with_reducible refine Kd.C_drew ?_) | exact HR1312_0.out)) | (with_reducible refine Kd.C_alloc ?_ _) | (with_reducible refine Kd.C_drewN ?_ _) | (with_reducible refine Kd.C_drew ?_))); (case side2 => exact HC1312_0.out); rintro e w' ⟨rfl, ⟨nd, rfl⟩⟩))
                                 go_roundg k4
                                 case measure => have := HJ7.out; have := HJ22.out; have := HK3.out; have := HK4.out; omega
                                 case rel => exact ⟨(wrap64 (x98_4 + 1)), wZ, H', ⟨by have := HJ7.out; have := HJ22.out; have := HK3.out; have := HK4.out; omega⟩, ⟨by (with_reducible repeat (first | apply Kd.S_alloc | apply Kd.S_drewN | apply Kd.S_drew)); exact HO_6.out⟩, ⟨Rz HO_12.out⟩, ⟨by (with_reducible repeat (first | apply Kd.S_alloc | apply Kd.S_drewN | apply Kd.S_drew)); exact HO_96.out⟩, ⟨by (with_reducible repeat (first | apply Kd.S_alloc | apply Kd.S_drewN | apply Kd.S_drew)); exact HO_1272001.out⟩, ⟨Kz BK1271.out⟩, ⟨Bq⟩⟩
                               ·rw [if_neg c85] at H
                                exact absurd H (by simp)
                              ·rw [if_neg c84] at H
                               have c84b0 : decide (0 < (t1272.length : Int)) = false := decide_eq_false c84; have c84b1 : decide (0 < t1272.length) = false := decide_eq_false (by omega); clear c84
                               by_cases c90 : (((rd t1284 (rd (rd_L2 t1268 x98_4) 2)) == 1) != false) = true
                               ·rw [if_pos c90] at H
                                have c90b0 : (((rd t1284 (rd (rd_L2 t1268 x98_4) 2)) == 1) != false) = true := c90
                                (try (have c90b1 : decide (((rd t1284 (rd (rd_L2 t1268 x98_4) 2)) == 1) = false) = false := by simpa using c90))
                                (try (have c90b2 : (((rd t1284 (rd (rd_L2 t1268 x98_4) 2)) == 1) == false) = false := by simpa using c90))
                                (try (have c90b3 : ¬ (((rd t1284 (rd (rd_L2 t1268 x98_4) 2)) == 1) = false) := by simpa using c90))
                                clear c90; obtain rfl := Option.some.inj H; have p1301 : 0 ≤ (x98_4 : Int) := dT; have q1301 : x98_4 < (t1268.length : Int) := dT; obtain ⟨ad1301, A1301_0, c1301_0, e1301, hx1301_0, hl1301_0, hi1301_0⟩ := at_L2 (Kd.S_reads' HO_96.out).2.2 x98_4 p1301 q1301; cases e1301; obtain ⟨ce1301, hce1301, hMe1301, hcc1301⟩ := Kd.S_get HO_96.out [] x98_4 p1301 (by first | exact q1301 | exact dT | (have e_ := (Kd.S_reads' HO_96.out).1; omega)); obtain ⟨ve1301_0, rfl, ge1301_0⟩ := hMe1301; have hv1301_0 := hcc1301 0 _ rfl; rw [Nat.add_zero, show ((Kd.slice 3 (Kd.int .i64))).sz = 1 from rfl, Nat.mul_one] at hv1301_0; replace hv1301_0 := Option.some.inj (hv1301_0.symm.trans hx1301_0); rw [hv1301_0] at ge1301_0; have HL1301_0 := am (show Kd.R (Kd.int .i64) 3 _ _ _ _ (rd_L2 t1268 x98_4) from ge1301_0); clear hv1301_0 ge1301_0; clear hcc1301 hce1301; have HR1301_0 := am hi1301_0; have HC1301_0 := am hl1301_0; clear hi1301_0 hl1301_0; replace p1301 := eq_true p1301; replace q1301 := eq_true q1301; have p1302 : 0 ≤ (0 : Int) := (by omega); have q1302 : 0 < ((rd_L2 t1268 x98_4).length : Int) := dT; obtain ⟨ad1302, e1302, hx1302_0⟩ := Kd.at_int (by repeat (first | (with_reducible exact HR1301_0.out) | (with_reducible refine Kd.C_alloc ?_ _) | (with_reducible refine Kd.C_drewN ?_ _) | (with_reducible refine Kd.C_drew ?_) | exact HR1301_0.out)) 0 p1302 q1302; cases e1302; have qi1302 : (0 < (rd_L2 t1268 x98_4).length) = True := eq_true (by omega)
                                (try rw [show ((0 : Int)).toNat = 0 from rfl] at hx1302_0)
                                (try rw [Addr.add_zero'] at hx1302_0)
                                replace p1302 := eq_true p1302; replace q1302 := eq_true q1302; obtain ⟨Ao91, co91, eo91⟩ := Kd.R_slice HO_12.out; subst eo91; obtain ⟨ad1303, e1303, hx1303_0⟩ := Kd.at_int (Kd.R_reads' HO_12.out).2.2 (rd (rd_L2 t1268 x98_4) 0) dT dT; cases e1303; have p1303 := eT (0 ≤ ((rd (rd_L2 t1268 x98_4) 0) : Int)); have q1303 := eT ((rd (rd_L2 t1268 x98_4) 0) < (t1284.length : Int)); have p1306 : 0 ≤ (1 : Int) := (by omega); have q1306 : 1 < ((rd_L2 t1268 x98_4).length : Int) := dT; obtain ⟨ad1306, e1306, hx1306_0⟩ := Kd.at_int (by repeat (first | (with_reducible exact HR1301_0.out) | (with_reducible refine Kd.C_alloc ?_ _) | (with_reducible refine Kd.C_drewN ?_ _) | (with_reducible refine Kd.C_drew ?_) | exact HR1301_0.out)) 1 p1306 q1306; obtain rfl : ad1302 = ad1306 := (by injection e1306)
                                (try simp only [show (1 : Int).toNat = 1 from rfl, Nat.reduceMul, Nat.reduceEqDiff, Go.Addr.add, ↓reduceIte] at hx1306_0)
                                have qi1306 : (1 < (rd_L2 t1268 x98_4).length) = True := eq_true (by omega)
                                (try rw [show ((1 : Int)).toNat = 1 from rfl] at hx1306_0)
                                replace p1306 := eq_true p1306; replace q1306 := eq_true q1306; have p1307 : 0 ≤ ((rd (rd_L2 t1268 x98_4) 1) : Int) := dT; have q1307 : (rd (rd_L2 t1268 x98_4) 1) < (t1284.length : Int) := dT; obtain ⟨ad1307, e1307, hx1307_0⟩ := Kd.at_int (Kd.R_reads' HO_12.out).2.2 (rd (rd_L2 t1268 x98_4) 1) p1307 q1307; obtain rfl : ad1303 = ad1307 := (by injection e1307); replace p1307 := eq_true p1307; replace q1307 := eq_true q1307; have p1310 : 0 ≤ (2 : Int) := (by omega); have q1310 : 2 < ((rd_L2 t1268 x98_4).length : Int) := dT; obtain ⟨ad1310, e1310, hx1310_0⟩ := Kd.at_int (by repeat (first | (with_reducible exact HR1301_0.out) | (with_reducible refine Kd.C_alloc ?_ _) | (with_reducible refine Kd.C_drewN ?_ _) | (with_reducible refine Kd.C_drew ?_) | exact HR1301_0.out)) 2 p1310 q1310; obtain rfl : ad1302 = ad1310 := (by injection e1310)
                                (try simp only [show (2 : Int).toNat = 2 from rfl, Nat.reduceMul, Nat.reduceEqDiff, Go.Addr.add, ↓reduceIte] at hx1310_0)
                                have qi1310 : (2 < (rd_L2 t1268 x98_4).length) = True := eq_true (by omega)
                                (try rw [show ((2 : Int)).toNat = 2 from rfl] at hx1310_0)
                                replace p1310 := eq_true p1310; replace q1310 := eq_true q1310; have p1311 : 0 ≤ ((rd (rd_L2 t1268 x98_4) 2) : Int) := dT; have q1311 : (rd (rd_L2 t1268 x98_4) 2) < (t1284.length : Int) := dT; obtain ⟨ad1311, e1311, hx1311_0⟩ := Kd.at_int (Kd.R_reads' HO_12.out).2.2 (rd (rd_L2 t1268 x98_4) 2) p1311 q1311; obtain rfl : ad1303 = ad1311 := (by injection e1311); replace p1311 := eq_true p1311; replace q1311 := eq_true q1311
                                go_wp2
                                go_ret
                                exact ⟨eZ, Bq⟩
                               ·rw [if_neg c90] at H
                                have c90b0 : (((rd t1284 (rd (rd_L2 t1268 x98_4) 2)) == 1) != false) = false := by simpa using c90
                                (try (have c90b1 : decide (((rd t1284 (rd (rd_L2 t1268 x98_4) 2)) == 1) = false) = true := by simpa using c90))
                                (try (have c90b2 : (((rd t1284 (rd (rd_L2 t1268 x98_4) 2)) == 1) == false) = true := by simpa using c90))
                                clear c90; have H' := am H; clear H; have p1301 : 0 ≤ (x98_4 : Int) := dT; have q1301 : x98_4 < (t1268.length : Int) := dT; obtain ⟨ad1301, A1301_0, c1301_0, e1301, hx1301_0, hl1301_0, hi1301_0⟩ := at_L2 (Kd.S_reads' HO_96.out).2.2 x98_4 p1301 q1301; cases e1301; obtain ⟨ce1301, hce1301, hMe1301, hcc1301⟩ := Kd.S_get HO_96.out [] x98_4 p1301 (by first | exact q1301 | exact dT | (have e_ := (Kd.S_reads' HO_96.out).1; omega)); obtain ⟨ve1301_0, rfl, ge1301_0⟩ := hMe1301; have hv1301_0 := hcc1301 0 _ rfl; rw [Nat.add_zero, show ((Kd.slice 3 (Kd.int .i64))).sz = 1 from rfl, Nat.mul_one] at hv1301_0; replace hv1301_0 := Option.some.inj (hv1301_0.symm.trans hx1301_0); rw [hv1301_0] at ge1301_0; have HL1301_0 := am (show Kd.R (Kd.int .i64) 3 _ _ _ _ (rd_L2 t1268 x98_4) from ge1301_0); clear hv1301_0 ge1301_0; clear hcc1301 hce1301; have HR1301_0 := am hi1301_0; have HC1301_0 := am hl1301_0; clear hi1301_0 hl1301_0; replace p1301 := eq_true p1301; replace q1301 := eq_true q1301; have p1302 : 0 ≤ (0 : Int) := (by omega); have q1302 : 0 < ((rd_L2 t1268 x98_4).length : Int) := dT; obtain ⟨ad1302, e1302, hx1302_0⟩ := Kd.at_int (by repeat (first | (with_reducible exact HR1301_0.out) | (with_reducible refine Kd.C_alloc ?_ _) | (with_reducible refine Kd.C_drewN ?_ _) | (with_reducible refine Kd.C_drew ?_) | exact HR1301_0.out)) 0 p1302 q1302; cases e1302; have qi1302 : (0 < (rd_L2 t1268 x98_4).length) = True := eq_true (by omega)
                                (try rw [show ((0 : Int)).toNat = 0 from rfl] at hx1302_0)
                                (try rw [Addr.add_zero'] at hx1302_0)
                                replace p1302 := eq_true p1302; replace q1302 := eq_true q1302; obtain ⟨Ao92, co92, eo92⟩ := Kd.R_slice HO_12.out; subst eo92; obtain ⟨ad1303, e1303, hx1303_0⟩ := Kd.at_int (Kd.R_reads' HO_12.out).2.2 (rd (rd_L2 t1268 x98_4) 0) dT dT; cases e1303; have p1303 := eT (0 ≤ ((rd (rd_L2 t1268 x98_4) 0) : Int)); have q1303 := eT ((rd (rd_L2 t1268 x98_4) 0) < (t1284.length : Int)); have p1306 : 0 ≤ (1 : Int) := (by omega); have q1306 : 1 < ((rd_L2 t1268 x98_4).length : Int) := dT; obtain ⟨ad1306, e1306, hx1306_0⟩ := Kd.at_int (by repeat (first | (with_reducible exact HR1301_0.out) | (with_reducible refine Kd.C_alloc ?_ _) | (with_reducible refine Kd.C_drewN ?_ _) | (with_reducible refine Kd.C_drew ?_) | exact HR1301_0.out)) 1 p1306 q1306; obtain rfl : ad1302 = ad1306 := (by injection e1306)
                                (try simp only [show (1 : Int).toNat = 1 from rfl, Nat.reduceMul, Nat.reduceEqDiff, Go.Addr.add, ↓reduceIte] at hx1306_0)
                                have qi1306 : (1 < (rd_L2 t1268 x98_4).length) = True := eq_true (by omega)
                                (try rw [show ((1 : Int)).toNat = 1 from rfl] at hx1306_0)
                                replace p1306 := eq_true p1306; replace q1306 := eq_true q1306; have p1307 : 0 ≤ ((rd (rd_L2 t1268 x98_4) 1) : Int) := dT; have q1307 : (rd (rd_L2 t1268 x98_4) 1) < (t1284.length : Int) := dT; obtain ⟨ad1307, e1307, hx1307_0⟩ := Kd.at_int (Kd.R_reads' HO_12.out).2.2 (rd (rd_L2 t1268 x98_4) 1) p1307 q1307; obtain rfl : ad1303 = ad1307 := (by injection e1307); replace p1307 := eq_true p1307; replace q1307 := eq_true q1307; have p1310 : 0 ≤ (2 : Int) := (by omega); have q1310 : 2 < ((rd_L2 t1268 x98_4).length : Int) := dT; obtain ⟨ad1310, e1310, hx1310_0⟩ := Kd.at_int (by repeat (first | (with_reducible exact HR1301_0.out) | (with_reducible refine Kd.C_alloc ?_ _) | (with_reducible refine Kd.C_drewN ?_ _) | (with_reducible refine Kd.C_drew ?_) | exact HR1301_0.out)) 2 p1310 q1310; obtain rfl : ad1302 = ad1310 := (by injection e1310)
                                (try simp only [show (2 : Int).toNat = 2 from rfl, Nat.reduceMul, Nat.reduceEqDiff, Go.Addr.add, ↓reduceIte] at hx1310_0)
                                have qi1310 : (2 < (rd_L2 t1268 x98_4).length) = True := eq_true (by omega)
                                (try rw [show ((2 : Int)).toNat = 2 from rfl] at hx1310_0)
                                replace p1310 := eq_true p1310; replace q1310 := eq_true q1310; have p1311 : 0 ≤ ((rd (rd_L2 t1268 x98_4) 2) : Int) := dT; have q1311 : (rd (rd_L2 t1268 x98_4) 2) < (t1284.length : Int) := dT; obtain ⟨ad1311, e1311, hx1311_0⟩ := Kd.at_int (Kd.R_reads' HO_12.out).2.2 (rd (rd_L2 t1268 x98_4) 2) p1311 q1311; obtain rfl : ad1303 = ad1311 := (by injection e1311); replace p1311 := eq_true p1311; replace q1311 := eq_true q1311
                                go_wp2
                                go_roundg k4
                                case measure => have := HJ7.out; have := HJ22.out; have := HK3.out; have := HK4.out; omega
                                case rel => exact ⟨(wrap64 (x98_4 + 1)), wZ, H', ⟨by have := HJ7.out; have := HJ22.out; have := HK3.out; have := HK4.out; omega⟩, ⟨by (with_reducible repeat (first | apply Kd.S_alloc | apply Kd.S_drewN | apply Kd.S_drew)); exact HO_6.out⟩, ⟨Rz HO_12.out⟩, ⟨by (with_reducible repeat (first | apply Kd.S_alloc | apply Kd.S_drewN | apply Kd.S_drew)); exact HO_96.out⟩, ⟨by (with_reducible repeat (first | apply Kd.S_alloc | apply Kd.S_drewN | apply Kd.S_drew)); exact HO_1272001.out⟩, ⟨Kz BK1271.out⟩, ⟨Bq⟩⟩
                             ·rw [if_neg c83] at H
                              exact absurd H (by simp)
                            ·rw [if_neg c82] at H
                             exact absurd H (by simp)
                           ·rw [if_neg c81] at H
                            exact absurd H (by simp)
                         ·rw [if_neg c70] at H
                          exact absurd H (by simp)
                        ·rw [if_neg c69] at H
                         exact absurd H (by simp)
                       ·rw [if_neg c68] at H
                        exact absurd H (by simp)
                     ·rw [if_neg c57] at H
                      exact absurd H (by simp)
                    ·rw [if_neg c56] at H
                     exact absurd H (by simp)
                   ·rw [if_neg c55] at H
                    exact absurd H (by simp)
                  ·rw [if_neg c54] at H
                   exact absurd H (by simp)
                 ·rw [if_neg c53] at H
                  exact absurd H (by simp)
                ·rw [if_neg c52] at H
                 have c52b0 : decide (x98_4 < (t1268.length : Int)) = false := decide_eq_false c52; clear c52; obtain rfl := Option.some.inj H
                 go_wp2
                 go_ret
                 exact ⟨eZ, Bq⟩
             ·replace c49 := Bool.eq_false_iff.mpr c49
              subst c49
              rw [if_neg (show ¬ (false = true) by decide)] at H; obtain rfl := Option.some.inj H; obtain ⟨hcz93_0, hcz93_1, hfz93_0, hfz93_1⟩ := cf2 (w := wr) BK1271; obtain ⟨Ao94, co94, eo94⟩ := Kd.R_slice HO_14.out; subst eo94
              go_wp2_with (first | ((with_reducible refine gate_callee (f := 25) rfl ?_); refine gL (some 93) Try.func25 #[.slice Ao94 x14_3.length co94, .int .i64 (t1268.length : Int)] ?_; (with_reducible refine (laws_pAllOnce.calls k3 _ _ x14_3 (t1268.length : Int) false _ ?side1 ?side2 A48.out).mono ?_); (case side1 => exact Cz ((Kd.R_reads' HO_14.out).2.2)); (case side2 => exact (Kd.R_reads' HO_14.out).2.1); rintro e w' ⟨rfl, ⟨nd, rfl⟩⟩; refine ⟨_, rfl, ?_⟩))
              go_ret
              exact ⟨eZ, Bq⟩
         ·rw [if_neg c30] at H
          exact absurd H (by simp)
     ·replace c20 := Bool.eq_false_iff.mpr c20
      subst c20
      rw [if_neg (show ¬ (false = true) by decide)] at H; obtain rfl := Option.some.inj H
      go_wp2
      go_ret
      exact ⟨eZ, Bq⟩

def laws_FnLayersPeel.Pure : Prop := ∀ (l0 : List Int) (l1 : List Int), l0.length ≤ maxLen → l0.length * 1 ≤ 140737488351232 → (∀ x ∈ l0, (Lit.int .u8 x).wf = true) → l1.length ≤ maxLen → l1.length * 1 ≤ 140737488351232 → (∀ x ∈ l1, (Lit.int .u8 x).wf = true) → ∃ k, laws_FnLayersPeel.f k l0 l1 = some true
theorem laws_FnLayersPeel.walk (P : laws_FnLayersPeel.Pure) (a0 : Option Addr) (len0 cap0 : Nat) (z0 : List Int) (a1 : Option Addr) (len1 cap1 : Nat) (z1 : List Int) (w : World) (w0 : (a0 = none ∧ len0 = 0 ∧ cap0 = 0 ∧ z0 = []) ∨ ∃ x, a0 = some x ∧ len0 ≤ cap0 ∧ cap0 ≤ maxLen ∧ z0.length = cap0 ∧ (∀ i, i < z0.length → w.cell? (x.add i) = some (.int .u8 (z0.getD i 0))) ∧ ∀ n ∈ z0, (Lit.int .u8 n).wf = true) (y0 : len0 * 1 ≤ 140737488351232) (w1 : (a1 = none ∧ len1 = 0 ∧ cap1 = 0 ∧ z1 = []) ∨ ∃ x, a1 = some x ∧ len1 ≤ cap1 ∧ cap1 ≤ maxLen ∧ z1.length = cap1 ∧ (∀ i, i < z1.length → w.cell? (x.add i) = some (.int .u8 (z1.getD i 0))) ∧ ∀ n ∈ z1, (Lit.int .u8 n).wf = true) (y1 : len1 * 1 ≤ 140737488351232) :
  Calls Try.prog 4 #[.slice a0 len0 cap0, .slice a1 len1 cap1] w fun e w' => e = .returned (.bool true) ∧ Below w.heap.size w w' := by
 obtain ⟨l0, rfl, hr0, hm0, hw0, hc0⟩ := ReadsInt.ofRowC w0; obtain ⟨l1, rfl, hr1, hm1, hw1, hc1⟩ := ReadsInt.ofRowC w1; obtain ⟨k, h⟩ := P l0 l1 hm0 y0 hw0 hm1 y1 hw1; refine (laws_FnLayersPeel.calls k _ _ l0 _ _ l1 true w (Kd.C_of_reads (d := (0 : Int)) (h1 := fun _ => rfl) hr0) hc0 (Kd.C_of_reads (d := (0 : Int)) (h1 := fun _ => rfl) hr1) hc1 h).mono ?_; rintro e w' ⟨rfl, hd⟩; exact ⟨rfl, hd⟩

end Go.Proofs.Ythkcgimnagpmaaa.PA
-- printed by a program of this session (wip/gp) out of the translation; Lean checks it
namespace Go.Proofs.Ythkcgimnagpmaaa.PA
open Go.RowKit Go.Proofs.YthkcgimnagpmaaaW.PrintWords Go.Proofs.YthkcgimnagpmaaaW.PrintLast Go.Proofs.YthkcgimnagpmaaaW.PrintMore Go.Proofs.YthkcgimnagpmaaaSq
attribute [local go_sem] max2_int min2_int max_two min_two max_three min_three max_four min_four   -- for this text's walks alone
attribute [local go_sem] Go.Proofs.YthkcgimnagpmaaaGp.str_geq Go.Proofs.YthkcgimnagpmaaaGp.str_gtr Go.Proofs.YthkcgimnagpmaaaGp.str_leq
set_option linter.unusedVariables false
set_option linter.unusedSimpArgs false

theorem eqA51 (d : Nat) (w : World) (x0 y0 : Int) (x1 y1 : Int) :
  (Op.equalIn (d + 2) 51 (.agg #[.int .i64 x0, .int .i64 x1]) (.agg #[.int .i64 y0, .int .i64 y1])).run Try.prog w = .ok (x0 == y0 && (x1 == y1)) w := by
 refine eqA_of Try.underlying51 (by kernel_rfl) ?_
 refine eqf_cons (by rfl) (by go_simp; rfl) (by go_simp; rfl) (by go_simp) ?_
 exact eqf_last (by rfl) (by go_simp; rfl) (by go_simp; rfl) (by go_simp)
end Go.Proofs.Ythkcgimnagpmaaa.PA
-- printed by a program of this session (wip/gp) out of the translation; Lean checks it
namespace Go.Proofs.Ythkcgimnagpmaaa.PA
open Go.RowKit Go.Proofs.YthkcgimnagpmaaaW.PrintWords Go.Proofs.YthkcgimnagpmaaaW.PrintLast Go.Proofs.YthkcgimnagpmaaaW.PrintMore Go.Proofs.YthkcgimnagpmaaaSq
attribute [local go_sem] max2_int min2_int max_two min_two max_three min_three max_four min_four   -- for this text's walks alone
attribute [local go_sem] Go.Proofs.YthkcgimnagpmaaaGp.str_geq Go.Proofs.YthkcgimnagpmaaaGp.str_gtr Go.Proofs.YthkcgimnagpmaaaGp.str_leq
set_option linter.unusedVariables false
set_option linter.unusedSimpArgs false

attribute [local go_sem high] eqA51
set_option maxHeartbeats 8000000
set_option maxRecDepth 100000
end Go.Proofs.Ythkcgimnagpmaaa.PA
-- printed by a program of this session (wip/gp) out of the translation; Lean checks it
namespace Go.Proofs.Ythkcgimnagpmaaa.PA
open Go.RowKit Go.Proofs.YthkcgimnagpmaaaW.PrintWords Go.Proofs.YthkcgimnagpmaaaW.PrintLast Go.Proofs.YthkcgimnagpmaaaW.PrintMore Go.Proofs.YthkcgimnagpmaaaSq
attribute [local go_sem] max2_int min2_int max_two min_two max_three min_three max_four min_four   -- for this text's walks alone
attribute [local go_sem] Go.Proofs.YthkcgimnagpmaaaGp.str_geq Go.Proofs.YthkcgimnagpmaaaGp.str_gtr Go.Proofs.YthkcgimnagpmaaaGp.str_leq
set_option linter.unusedVariables false
set_option linter.unusedSimpArgs false

set_option maxHeartbeats 8000000
set_option maxRecDepth 100000
end Go.Proofs.Ythkcgimnagpmaaa.PA
-- printed by a program of this session (wip/gp) out of the translation; Lean checks it
namespace Go.Proofs.Ythkcgimnagpmaaa.PA
open Go.RowKit Go.Proofs.YthkcgimnagpmaaaW.PrintWords Go.Proofs.YthkcgimnagpmaaaW.PrintLast Go.Proofs.YthkcgimnagpmaaaW.PrintMore Go.Proofs.YthkcgimnagpmaaaSq
attribute [local go_sem] max2_int min2_int max_two min_two max_three min_three max_four min_four   -- for this text's walks alone
attribute [local go_sem] Go.Proofs.YthkcgimnagpmaaaGp.str_geq Go.Proofs.YthkcgimnagpmaaaGp.str_gtr Go.Proofs.YthkcgimnagpmaaaGp.str_leq
set_option linter.unusedVariables false
set_option linter.unusedSimpArgs false

set_option maxHeartbeats 8000000
set_option maxRecDepth 100000
end Go.Proofs.Ythkcgimnagpmaaa.PA
-- printed by a program of this session (wip/gp) out of the translation; Lean checks it
namespace Go.Proofs.Ythkcgimnagpmaaa.PA
open Go.RowKit Go.Proofs.YthkcgimnagpmaaaW.PrintWords Go.Proofs.YthkcgimnagpmaaaW.PrintLast Go.Proofs.YthkcgimnagpmaaaW.PrintMore Go.Proofs.YthkcgimnagpmaaaSq
attribute [local go_sem] max2_int min2_int max_two min_two max_three min_three max_four min_four   -- for this text's walks alone
attribute [local go_sem] Go.Proofs.YthkcgimnagpmaaaGp.str_geq Go.Proofs.YthkcgimnagpmaaaGp.str_gtr Go.Proofs.YthkcgimnagpmaaaGp.str_leq
set_option linter.unusedVariables false
set_option linter.unusedSimpArgs false

set_option maxHeartbeats 8000000
set_option maxRecDepth 100000
end Go.Proofs.Ythkcgimnagpmaaa.PA
-- printed by a program of this session (wip/gp) out of the translation; Lean checks it
namespace Go.Proofs.Ythkcgimnagpmaaa.PA
open Go.RowKit Go.Proofs.YthkcgimnagpmaaaW.PrintWords Go.Proofs.YthkcgimnagpmaaaW.PrintLast Go.Proofs.YthkcgimnagpmaaaW.PrintMore Go.Proofs.YthkcgimnagpmaaaSq
attribute [local go_sem] max2_int min2_int max_two min_two max_three min_three max_four min_four   -- for this text's walks alone
attribute [local go_sem] Go.Proofs.YthkcgimnagpmaaaGp.str_geq Go.Proofs.YthkcgimnagpmaaaGp.str_gtr Go.Proofs.YthkcgimnagpmaaaGp.str_leq
set_option linter.unusedVariables false
set_option linter.unusedSimpArgs false

set_option maxHeartbeats 8000000
set_option maxRecDepth 100000
end Go.Proofs.Ythkcgimnagpmaaa.PA
-- printed by a program of this session (wip/gp) out of the translation; Lean checks it
namespace Go.Proofs.Ythkcgimnagpmaaa.PA
open Go.RowKit Go.Proofs.YthkcgimnagpmaaaW.PrintWords Go.Proofs.YthkcgimnagpmaaaW.PrintLast Go.Proofs.YthkcgimnagpmaaaW.PrintMore Go.Proofs.YthkcgimnagpmaaaSq
attribute [local go_sem] max2_int min2_int max_two min_two max_three min_three max_four min_four   -- for this text's walks alone
attribute [local go_sem] Go.Proofs.YthkcgimnagpmaaaGp.str_geq Go.Proofs.YthkcgimnagpmaaaGp.str_gtr Go.Proofs.YthkcgimnagpmaaaGp.str_leq
set_option linter.unusedVariables false
set_option linter.unusedSimpArgs false

set_option maxHeartbeats 8000000
set_option maxRecDepth 100000
end Go.Proofs.Ythkcgimnagpmaaa.PA
namespace Go.Proofs.YthkcgimnagpmaaaQ
open Go Go.RowKit Go.Proofs.YthkcgimnagpmaaaW.PrintWords Go.Proofs.YthkcgimnagpmaaaGp

theorem ev_succ {α : Type} {g : Nat → Option α} {r : α} (h : Ev (fun k => g (k + 1)) r) : Ev g r := Ev.step (f := fun k => g (k + 1)) (fun _ => rfl) h
theorem ev_some {α : Type} {a r : α} (h : a = r) : Ev (fun _ => some a) r := h ▸ Ev.now a
theorem ev_pos {α : Type} {c : Prop} [Decidable c] {f g : Nat → Option α} {r : α} (h : c) (k : Ev f r) : Ev (fun n => if c then f n else g n) r := by simpa only [if_pos h] using k
theorem ev_neg {α : Type} {c : Prop} [Decidable c] {f g : Nat → Option α} {r : α} (h : ¬ c) (k : Ev g r) : Ev (fun n => if c then f n else g n) r := by simpa only [if_neg h] using k
theorem ev_bind {α β : Type} {g : Nat → Option α} {f : Nat → α → Option β} {r : β} (a : α) (h : Ev g a) (k : Ev (fun n => f n a) r) : Ev (fun n => (g n).bind (f n)) r := Ev.bind h k
theorem w64 {x : Int} (h0 : -9223372036854775808 ≤ x) (h1 : x ≤ 9223372036854775807) : wrap64 x = x := by unfold wrap64; omega
theorem winc {i : Nat} (h : (i : Int) < 9223372036854775807) : wrap64 ((i : Int) + 1) = ((i + 1 : Nat) : Int) := by unfold wrap64; omega
theorem wdec {i : Nat} (h : (i : Int) < 9223372036854775807) : wrap64 (((i + 1 : Nat) : Int) - 1) = (i : Int) := by unfold wrap64; omega
theorem maxLen_eq : maxLen = 9223372036854775807 := by unfold maxLen; rfl
section
variable {α : Type} {d : α} {pre t : List α} {s : α}
theorem rdOf_mid : rdOf d (pre ++ s :: t) ((pre.length : Nat) : Int) = s := by simp [rdOf]
theorem lt_mid : ((pre.length : Nat) : Int) < ((pre ++ s :: t).length : Int) := by simp; omega
theorem not_lt_end : ¬ ((pre.length : Nat) : Int) < ((pre ++ ([] : List α)).length : Int) := by simp
theorem len_one : ((pre ++ [s]).length : Int) = ((pre.length + 1 : Nat) : Int) := by simp
end
theorem rd_mid {pre t : List Int} {s : Int} : rd (pre ++ s :: t) ((pre.length : Nat) : Int) = s := by simp [rd]
theorem tl (s : ByteArray) : s.toList = s.data.toList := Lib.toList_data s
theorem tl_inj {x y : ByteArray} : x.toList = y.toList ↔ x = y := by
  rw [tl, tl]
  exact ⟨fun h => ByteArray.ext (Array.toList_inj.1 h), fun h => h ▸ rfl⟩
theorem size_len (s : ByteArray) : s.size = s.data.toList.length := (data_length s).symm
theorem bt_mid {s : ByteArray} {pre t : List UInt8} {c : UInt8} (h : s.data.toList = pre ++ c :: t) : bt s ((pre.length : Nat) : Int) = (c.toNat : Int) := by
  have hs : pre.length < s.size := by rw [size_len, h]; simp
  have hg : s[pre.length]'hs = c := by
    have : s.data.toList[pre.length]'(by rw [h]; simp) = c := by simp [h]
    rw [← this]; rfl
  unfold bt
  rw [dif_pos (by simpa using hs)]
  simp only [Int.toNat_natCast, hg]
theorem lt_size {s : ByteArray} {pre t : List UInt8} {c : UInt8} (h : s.data.toList = pre ++ c :: t) : ((pre.length : Nat) : Int) < (s.size : Int) := by rw [size_len, h]; simp; omega
theorem not_lt_size {s : ByteArray} {pre : List UInt8} (h : s.data.toList = pre ++ []) : ¬ ((pre.length : Nat) : Int) < (s.size : Int) := by rw [size_len, h]; simp
def lessS (a b : ByteArray) : Bool := Op.bytesLess a.toList b.toList
end Go.Proofs.YthkcgimnagpmaaaQ
namespace Go.Proofs.YthkcgimnagpmaaaQ
open Go Go.RowKit

abbrev Edges := List (List Int)
def edg (E : Edges) (i : Nat) : List Int := E.getD i []
def degOf (E : Edges) (L : List Nat) (p : Int) : Nat := (L.map fun i => (edg E i).count p).sum
def placesL (P : Nat) : List Int := (List.range P).map Int.ofNat
def freeL (P : Nat) (E : Edges) (L : List Nat) : List Int := (placesL P).filter fun p => degOf E L p == 1
def withE (E : Edges) (L : List Nat) (p : Int) : Option Nat := L.find? fun i => (edg E i).contains p
def dropE (L : List Nat) (i : Nat) : List Nat := L.filter fun j => j != i
def goodE (P : Nat) (E : Edges) : Prop := ∀ e ∈ E, ∀ p ∈ e, 0 ≤ p ∧ p < (P : Int)
def Stable (E : Edges) (S : List Nat) : Prop := ∀ p, degOf E S p ≠ 1

theorem degOf_nil (E : Edges) (p : Int) : degOf E [] p = 0 := rfl
theorem degOf_cons (E : Edges) (i : Nat) (L : List Nat) (p : Int) : degOf E (i :: L) p = (edg E i).count p + degOf E L p := by simp [degOf]
theorem degOf_sub {E : Edges} {S L : List Nat} (h : S.Sublist L) (p : Int) : degOf E S p ≤ degOf E L p := by
  induction h with
  | slnil => exact Nat.le_refl _
  | cons i _ ih => rw [degOf_cons]; omega
  | cons_cons i _ ih => rw [degOf_cons, degOf_cons]; omega
theorem degOf_mem {E : Edges} {L : List Nat} {i : Nat} {p : Int} (h : i ∈ L) (hp : p ∈ edg E i) : 1 ≤ degOf E L p := by
  have : 0 < (edg E i).count p := List.count_pos_iff.2 hp
  have h2 := degOf_sub (E := E) (List.singleton_sublist.2 h) p
  rw [degOf_cons, degOf_nil] at h2
  omega
theorem degOf_pos {E : Edges} {L : List Nat} {p : Int} (h : 1 ≤ degOf E L p) : ∃ i ∈ L, p ∈ edg E i := by
  induction L with
  | nil => rw [degOf_nil] at h; omega
  | cons i L ih =>
    rw [degOf_cons] at h
    by_cases c : p ∈ edg E i
    · exact ⟨i, by simp, c⟩
    · rw [List.count_eq_zero_of_not_mem c] at h
      obtain ⟨j, hj, hp⟩ := ih (by omega)
      exact ⟨j, by simp [hj], hp⟩
theorem withE_some {E : Edges} {L : List Nat} {p : Int} {i : Nat} (h : withE E L p = some i) : i ∈ L ∧ p ∈ edg E i := by
  have h1 := List.mem_of_find?_eq_some h
  have h2 := List.find?_some h
  exact ⟨h1, by simpa using h2⟩
theorem withE_ex {E : Edges} {L : List Nat} {p : Int} (h : 1 ≤ degOf E L p) : ∃ i, withE E L p = some i := by
  obtain ⟨i, hi, hp⟩ := degOf_pos h
  cases hw : withE E L p with
  | some j => exact ⟨j, rfl⟩
  | none => exact absurd (by simpa using hp) (by simpa using List.find?_eq_none.1 hw i hi)
theorem mem_freeL {P : Nat} {E : Edges} {L : List Nat} {p : Int} : p ∈ freeL P E L ↔ (0 ≤ p ∧ p < (P : Int)) ∧ degOf E L p = 1 := by
  simp only [freeL, placesL, List.mem_filter, List.mem_map, List.mem_range, beq_iff_eq]
  constructor
  · rintro ⟨⟨i, hi, rfl⟩, h⟩
    exact ⟨⟨Int.natCast_nonneg i, Int.ofNat_lt.2 hi⟩, h⟩
  · rintro ⟨h, e⟩
    exact ⟨⟨p.toNat, by omega, Int.toNat_of_nonneg h.1⟩, e⟩
theorem edg_mem {E : Edges} {i : Nat} {p : Int} (h : p ∈ edg E i) : edg E i ∈ E := by
  unfold edg at h ⊢
  by_cases c : i < E.length
  · simp [List.getD, c]
  · simp [List.getD, c] at h
theorem deg_free {P : Nat} {E : Edges} (hg : goodE P E) {L : List Nat} {p : Int} (h : degOf E L p = 1) : p ∈ freeL P E L := by
  obtain ⟨i, _, hp⟩ := degOf_pos (E := E) (L := L) (p := p) (by omega)
  exact mem_freeL.2 ⟨hg _ (edg_mem hp) _ hp, h⟩
theorem stable_iff {P : Nat} {E : Edges} (hg : goodE P E) {L : List Nat} : Stable E L ↔ freeL P E L = [] := by
  constructor
  · intro h
    rw [List.eq_nil_iff_forall_not_mem]
    intro p hp
    exact h p (mem_freeL.1 hp).2
  · intro h p hp
    have := deg_free hg hp
    rw [h] at this
    cases this
theorem dropE_sub (L : List Nat) (i : Nat) : (dropE L i).Sublist L := List.filter_sublist
theorem dropE_len {L : List Nat} (hn : L.Nodup) {i : Nat} (h : i ∈ L) : (dropE L i).length + 1 = L.length := by
  have : dropE L i = L.erase i := (hn.erase_eq_filter i).symm
  rw [this, List.length_erase_of_mem h]
  have := List.length_pos_of_mem h
  omega
theorem stable_step {E : Edges} {S L : List Nat} {p : Int} {i : Nat} (hS : Stable E S) (hs : S.Sublist L) (hd : degOf E L p = 1) (hw : withE E L p = some i) : S.Sublist (dropE L i) := by
  obtain ⟨h1, h2⟩ := withE_some hw
  have hi : i ∉ S := fun c => by
    have a := degOf_mem c h2
    have b := degOf_sub (E := E) hs p
    exact hS p (by omega)
  have e : S.filter (fun j => j != i) = S := List.filter_eq_self.2 fun j hj => by
    simp only [bne_iff_ne, ne_eq]
    rintro rfl
    exact hi hj
  rw [← e]
  exact hs.filter _

def stepE (P : Nat) (E : Edges) (L : List Nat) (c : Nat) : Option (Nat × Int) :=
  if (freeL P E L).length = 0 then none else let p := (freeL P E L).getD (c % (freeL P E L).length) 0; some ((withE E L p).getD 0, p)
def peelC (P : Nat) (E : Edges) : List Nat → List Nat → List (Nat × Int) × List Nat
  | [], L => ([], L)
  | c :: cs, L => match stepE P E L c with
    | none => ([], L)
    | some (i, p) => ((i, p) :: (peelC P E cs (dropE L i)).1, (peelC P E cs (dropE L i)).2)
theorem stepE_none {P : Nat} {E : Edges} {L : List Nat} {c : Nat} : stepE P E L c = none ↔ freeL P E L = [] := by
  unfold stepE
  split
  · rename_i h; simp [List.length_eq_zero_iff.1 h]
  · rename_i h; simp; intro e; rw [e] at h; exact h rfl
theorem stepE_some {P : Nat} {E : Edges} {L : List Nat} {c i : Nat} {p : Int} (h : stepE P E L c = some (i, p)) : p ∈ freeL P E L ∧ degOf E L p = 1 ∧ withE E L p = some i := by
  unfold stepE at h
  split at h
  · cases h
  · rename_i hl
    simp only [Option.some.injEq, Prod.mk.injEq] at h
    obtain ⟨h1, h2⟩ := h
    have hm : c % (freeL P E L).length < (freeL P E L).length := Nat.mod_lt _ (by omega)
    have hp : p ∈ freeL P E L := by rw [← h2, List.getD_eq_getElem?_getD, List.getElem?_eq_getElem hm]; exact List.getElem_mem hm
    have hd := (mem_freeL.1 hp).2
    obtain ⟨j, hj⟩ := withE_ex (E := E) (L := L) (p := p) (by omega)
    rw [h2, hj] at h1
    exact ⟨hp, hd, by rw [hj]; simpa using h1⟩
theorem peelC_cons_none {P : Nat} {E : Edges} {L : List Nat} (c : Nat) (cs : List Nat) (h : freeL P E L = []) : peelC P E (c :: cs) L = ([], L) := by
  rw [peelC, stepE_none.2 h]
theorem peelC_cons_some {P : Nat} {E : Edges} {L : List Nat} {c i : Nat} {p : Int} (cs : List Nat) (h : stepE P E L c = some (i, p)) : peelC P E (c :: cs) L = ((i, p) :: (peelC P E cs (dropE L i)).1, (peelC P E cs (dropE L i)).2) := by
  rw [peelC, h]
theorem nodup_drop {L : List Nat} (h : L.Nodup) (i : Nat) : (dropE L i).Nodup := (dropE_sub L i).nodup h
theorem peelC_len {P : Nat} {E : Edges} : ∀ (cs L : List Nat), L.Nodup → (peelC P E cs L).1.length + (peelC P E cs L).2.length = L.length
  | [], L, _ => by simp [peelC]
  | c :: cs, L, hn => by
    cases h : stepE P E L c with
    | none => rw [peelC_cons_none c cs (stepE_none.1 h)]; simp
    | some q =>
      obtain ⟨i, p⟩ := q
      rw [peelC_cons_some cs h]
      have h1 := (withE_some (stepE_some h).2.2).1
      have := peelC_len (P := P) (E := E) cs (dropE L i) (nodup_drop hn i)
      have := dropE_len hn h1
      simp only [List.length_cons]
      omega
theorem peelC_sub {P : Nat} {E : Edges} : ∀ (cs L : List Nat), (peelC P E cs L).2.Sublist L
  | [], L => by simp [peelC]
  | c :: cs, L => by
    cases h : stepE P E L c with
    | none => rw [peelC_cons_none c cs (stepE_none.1 h)]; exact List.Sublist.refl _
    | some q =>
      obtain ⟨i, p⟩ := q
      rw [peelC_cons_some cs h]
      exact (peelC_sub cs (dropE L i)).trans (dropE_sub L i)
theorem peelC_stable {P : Nat} {E : Edges} {S : List Nat} (hS : Stable E S) : ∀ (cs L : List Nat), S.Sublist L → S.Sublist (peelC P E cs L).2
  | [], L, h => by simpa [peelC] using h
  | c :: cs, L, hs => by
    cases h : stepE P E L c with
    | none => rw [peelC_cons_none c cs (stepE_none.1 h)]; exact hs
    | some q =>
      obtain ⟨i, p⟩ := q
      rw [peelC_cons_some cs h]
      obtain ⟨_, hd, hw⟩ := stepE_some h
      exact peelC_stable hS cs (dropE L i) (stable_step hS hs hd hw)
theorem peelC_done {P : Nat} {E : Edges} : ∀ (cs L : List Nat), L.Nodup → (peelC P E cs L).1.length = cs.length ∨ freeL P E (peelC P E cs L).2 = []
  | [], L, _ => by simp [peelC]
  | c :: cs, L, hn => by
    cases h : stepE P E L c with
    | none => rw [peelC_cons_none c cs (stepE_none.1 h)]; exact .inr (stepE_none.1 h)
    | some q =>
      obtain ⟨i, p⟩ := q
      rw [peelC_cons_some cs h]
      rcases peelC_done (P := P) (E := E) cs (dropE L i) (nodup_drop hn i) with e | e
      · left; simp only [List.length_cons]; omega
      · right; exact e
theorem freeL_nil {P : Nat} {E : Edges} : freeL P E [] = [] := by
  rw [List.eq_nil_iff_forall_not_mem]
  intro p hp
  have := (mem_freeL.1 hp).2
  rw [degOf_nil] at this
  cases this
theorem peelC_end {P : Nat} {E : Edges} {cs L : List Nat} (hn : L.Nodup) (h : L.length ≤ cs.length) : freeL P E (peelC P E cs L).2 = [] := by
  rcases peelC_done (P := P) (E := E) cs L hn with e | e
  · have := peelC_len (P := P) (E := E) cs L hn
    have : (peelC P E cs L).2 = [] := List.length_eq_zero_iff.1 (by omega)
    rw [this]; exact freeL_nil
  · exact e
def allE (E : Edges) : List Nat := List.range E.length
def peelAll (P : Nat) (E : Edges) : List (Nat × Int) × List Nat := peelC P E (List.replicate E.length 0) (allE E)
def coreE (P : Nat) (E : Edges) : List Nat := (peelAll P E).2
theorem allE_nodup (E : Edges) : (allE E).Nodup := List.nodup_range
theorem core_stable {P : Nat} {E : Edges} (hg : goodE P E) : Stable E (coreE P E) := (stable_iff hg).2 (peelC_end (allE_nodup E) (by simp [allE]))
theorem core_sub {P : Nat} {E : Edges} : (coreE P E).Sublist (allE E) := peelC_sub _ _
theorem stable_core {P : Nat} {E : Edges} {S : List Nat} (hS : Stable E S) (h : S.Sublist (allE E)) : S.Sublist (coreE P E) := peelC_stable hS _ _ h
end Go.Proofs.YthkcgimnagpmaaaQ
namespace Go.Proofs.YthkcgimnagpmaaaQ
open Go Go.RowKit Go.Proofs.YthkcgimnagpmaaaW.PrintWords

def castL (L : List Nat) : List Int := L.map Int.ofNat
theorem castL_len (L : List Nat) : (castL L).length = L.length := by simp [castL]
theorem castL_app (L M : List Nat) : castL (L ++ M) = castL L ++ castL M := by simp [castL]
theorem rd_castmid {pre t : List Nat} {j : Nat} : rd (castL (pre ++ j :: t)) (pre.length : Int) = (j : Int) := by
  simp [rd, castL]
theorem mem_castL {L : List Nat} {i : Nat} : (i : Int) ∈ castL L ↔ i ∈ L := by
  simp only [castL, List.mem_map]
  constructor
  · rintro ⟨a, h, e⟩
    exact (Int.ofNat.inj e) ▸ h
  · exact fun h => ⟨i, h, rfl⟩

def cntL (ps : List Int) (m : Nat) : List Int := (List.range m).map fun i => ((ps.count (Int.ofNat i) : Nat) : Int)
theorem cntL_len (ps : List Int) (m : Nat) : (cntL ps m).length = m := by simp [cntL]
theorem cntL_get (ps : List Int) {m i : Nat} (h : i < m) : (cntL ps m)[i]'(by rw [cntL_len]; exact h) = ((ps.count (Int.ofNat i) : Nat) : Int) := by simp [cntL]
theorem cntL_rd (ps : List Int) {m : Nat} {p : Int} (h0 : 0 ≤ p) (h1 : p < (m : Int)) : rd (cntL ps m) p = ((ps.count p : Nat) : Int) := by
  have hlt : p.toNat < (cntL ps m).length := by rw [cntL_len]; omega
  unfold rd
  rw [List.getD_eq_getElem?_getD, List.getElem?_eq_getElem hlt, Option.getD_some, cntL_get _ (by omega), show Int.ofNat p.toNat = p from by simp; omega]
theorem cntL_nil (m : Nat) : cntL [] m = List.replicate m 0 := by
  apply List.ext_getElem
  · simp [cntL]
  · intro i h1 h2
    simp [cntL]
theorem cntL_set (ps : List Int) {m : Nat} {p : Int} (h0 : 0 ≤ p) : (cntL ps m).set p.toNat (((ps.count p : Nat) : Int) + 1) = cntL (ps ++ [p]) m := by
  apply List.ext_getElem
  · simp [cntL]
  · intro i g1 g2
    rw [List.getElem_set]
    simp only [cntL, List.getElem_map, List.getElem_range, List.count_append]
    by_cases c : p.toNat = i
    · rw [if_pos c]
      have : Int.ofNat i = p := by simp; omega
      rw [this]; simp
    · rw [if_neg c]
      have : ¬ p = (i : Int) := by omega
      simp [this]
def plsL (E : Edges) (L : List Nat) : List Int := L.flatMap (edg E)
theorem degOf_pls (E : Edges) (L : List Nat) (p : Int) : (plsL E L).count p = degOf E L p := by
  induction L with
  | nil => rfl
  | cons i L ih => rw [degOf_cons, plsL, List.flatMap_cons, List.count_append, ← ih, plsL]
structure GoodH (P : Nat) (E : Edges) : Prop where
  rng : goodE P E
  len : E.length ≤ 1000
  row : ∀ e ∈ E, e.length ≤ 3
  plc : P ≤ 1000
theorem GoodH.edge {P : Nat} {E : Edges} (h : GoodH P E) (i : Nat) : (edg E i).length ≤ 3 ∧ ∀ p ∈ edg E i, 0 ≤ p ∧ p < (P : Int) := by
  unfold edg
  by_cases c : i < E.length
  · rw [List.getD_eq_getElem?_getD, List.getElem?_eq_getElem c, Option.getD_some]
    exact ⟨h.row _ (List.getElem_mem c), h.rng _ (List.getElem_mem c)⟩
  · rw [List.getD_eq_getElem?_getD, List.getElem?_eq_none (by omega)]
    simp
theorem plsL_len {P : Nat} {E : Edges} (h : GoodH P E) (L : List Nat) : (plsL E L).length ≤ 3 * L.length := by
  induction L with
  | nil => simp [plsL]
  | cons i L ih =>
    have := (h.edge i).1
    simp only [plsL, List.flatMap_cons, List.length_append, List.length_cons] at ih ⊢
    omega
theorem count_le_len (l : List Int) (p : Int) : l.count p ≤ l.length := List.count_le_length

def freeUp (ps : List Int) (i : Nat) : List Int := ((List.range i).map Int.ofNat).filter fun p => ps.count p == 1
theorem freeUp_succ (ps : List Int) (i : Nat) : freeUp ps (i + 1) = if ps.count (i : Int) = 1 then freeUp ps i ++ [(i : Int)] else freeUp ps i := by
  unfold freeUp
  rw [List.range_succ, List.map_append, List.filter_append]
  by_cases c : ps.count (i : Int) = 1
  · rw [if_pos c]; simp [c]
  · rw [if_neg c]; simp [c]
theorem freeUp_len (ps : List Int) (i : Nat) : (freeUp ps i).length ≤ i := by
  unfold freeUp
  refine Nat.le_trans (List.length_filter_le _ _) (by simp)
theorem freeL_up (P : Nat) (E : Edges) (L : List Nat) : freeUp (plsL E L) P = freeL P E L := by
  unfold freeUp freeL placesL
  refine List.filter_congr fun p _ => ?_
  rw [degOf_pls]
theorem freeL_len (P : Nat) (E : Edges) (L : List Nat) : (freeL P E L).length ≤ P := by rw [← freeL_up]; exact freeUp_len _ _

def Rg (n : Nat) (L : List Nat) : Prop := L.Sublist (List.range n)
theorem Rg.lt {n : Nat} {L : List Nat} (h : Rg n L) {i : Nat} (hi : i ∈ L) : i < n := List.mem_range.1 (h.subset hi)
theorem Rg.nodup {n : Nat} {L : List Nat} (h : Rg n L) : L.Nodup := List.Sublist.nodup h List.nodup_range
theorem Rg.len {n : Nat} {L : List Nat} (h : Rg n L) : L.length ≤ n := by
  have := List.Sublist.length_le h
  simpa using this
theorem Rg.drop {n : Nat} {L : List Nat} (h : Rg n L) (i : Nat) : Rg n (dropE L i) := (dropE_sub L i).trans h
theorem Rg.all (n : Nat) : Rg n (List.range n) := List.Sublist.refl _
theorem sub_filter : ∀ {L M : List Nat}, L.Sublist M → M.Nodup → M.filter (fun i => L.contains i) = L := by
  intro L M h
  induction h with
  | slnil => intro _; rfl
  | @cons L M a hs ih =>
    intro hn
    rw [List.nodup_cons] at hn
    have : ¬ a ∈ L := fun c => hn.1 (hs.subset c)
    rw [List.filter_cons_of_neg (by simpa using this)]
    exact ih hn.2
  | @cons_cons L M a hs ih =>
    intro hn
    rw [List.nodup_cons] at hn
    rw [List.filter_cons_of_pos (by simp)]
    congr 1
    rw [← ih hn.2]
    refine List.filter_congr fun x hx => ?_
    have : ¬ x = a := fun e => hn.1 (e ▸ hx)
    rw [ih hn.2, Bool.eq_iff_iff]
    simp [this]
theorem Rg.filter {n : Nat} {L : List Nat} (h : Rg n L) : (List.range n).filter (fun i => L.contains i) = L := sub_filter h List.nodup_range
def upTo (L : List Nat) (i : Nat) : List Nat := (List.range i).filter fun j => L.contains j
theorem upTo_succ (L : List Nat) (i : Nat) : upTo L (i + 1) = if i ∈ L then upTo L i ++ [i] else upTo L i := by
  unfold upTo
  rw [List.range_succ, List.filter_append]
  by_cases c : i ∈ L
  · rw [if_pos c]; simp [c]
  · rw [if_neg c]; simp [c]
theorem upTo_all {n : Nat} {L : List Nat} (h : Rg n L) : upTo L n = L := h.filter
theorem upTo_len (L : List Nat) (i : Nat) : (upTo L i).length ≤ i := Nat.le_trans (List.length_filter_le _ _) (by simp)
def goneOf (n : Nat) (L : List Nat) : List Bool := (List.range n).map fun i => !(L.contains i)
theorem goneOf_len (n : Nat) (L : List Nat) : (goneOf n L).length = n := by simp [goneOf]
theorem goneOf_rd {n : Nat} {L : List Nat} {i : Nat} (h : i < n) : rdOf false (goneOf n L) (i : Int) = !(L.contains i) := by
  simp [rdOf, goneOf, h]
theorem goneOf_all (n : Nat) : goneOf n (List.range n) = List.replicate n false := by
  apply List.ext_getElem
  · simp [goneOf]
  · intro i h1 h2
    simp [goneOf] at h1 ⊢
    exact h1
theorem goneOf_set {n : Nat} {L : List Nat} {i : Nat} : (goneOf n L).set i true = goneOf n (dropE L i) := by
  apply List.ext_getElem
  · simp [goneOf]
  · intro j h1 h2
    rw [List.getElem_set]
    simp only [goneOf, List.getElem_map, List.getElem_range]
    by_cases c : i = j
    · rw [if_pos c]; subst c; simp [dropE]
    · rw [if_neg c, Bool.eq_iff_iff]
      simp [dropE, Ne.symm c]
theorem withE_least {E : Edges} {p : Int} : ∀ {L : List Nat} {j : Nat}, L.Pairwise (· < ·) → withE E L p = some j → ∀ k ∈ L, k < j → ¬ p ∈ edg E k
  | [], j, _, h, _, hk, _ => by cases hk
  | x :: L, j, hp, h, k, hk, hkj => by
    rw [List.pairwise_cons] at hp
    unfold withE at h
    rw [List.find?_cons] at h
    by_cases c : (edg E x).contains p = true
    · rw [c] at h
      obtain rfl := Option.some.inj h
      rcases List.mem_cons.1 hk with rfl | hk
      · omega
      · have := hp.1 k hk; omega
    · rw [Bool.eq_false_iff.2 c] at h
      rcases List.mem_cons.1 hk with rfl | hk
      · simpa using c
      · exact withE_least hp.2 h k hk hkj
theorem Rg.sorted {n : Nat} {L : List Nat} (h : Rg n L) : L.Pairwise (· < ·) := List.Pairwise.sublist h List.pairwise_lt_range
end Go.Proofs.YthkcgimnagpmaaaQ
namespace Go.Proofs.YthkcgimnagpmaaaQ
open Go Go.RowKit Go.Proofs.YthkcgimnagpmaaaW.PrintWords Go.Proofs.YthkcgimnagpmaaaGp Go.Proofs.Ythkcgimnagpmaaa.PA

theorem rd_edg (E : Edges) (i : Nat) : rd_L2 E (i : Int) = edg E i := rfl
theorem wcount {c : Nat} (h : c ≤ 1000000) : wrap64 ((c : Int) + 1) = (c : Int) + 1 := w64 (by omega) (by omega)
theorem impl_degrees_l1 {P : Nat} {E : Edges} {G : List Bool} {n : Int} {r : List Int} {i : Nat} (e : List Int) (hi : (i : Int) < 9223372036854775806) (he : (e.length : Int) ≤ 9223372036854775806) (hr : ∀ p ∈ e, 0 ≤ p ∧ p < (P : Int)) (ps : List Int) (hps : ps.length + e.length ≤ 1000000)
    (H : Ev (fun k => impl_Hyper_degrees.l0 k G (cntL (ps ++ e) P) E n ((i + 1 : Nat) : Int)) r) : ∀ (t pre : List Int), e = pre ++ t →
    Ev (fun k => impl_Hyper_degrees.l1 k G (cntL (ps ++ pre) P) E n (i : Int) e (e.length : Int) (pre.length : Int)) r := by
  intro t
  induction t with
  | nil =>
    intro pre h
    have hp : e = pre := by rw [h, List.append_nil]
    subst hp
    refine ev_succ ?_
    simp only [impl_Hyper_degrees.l1]
    refine ev_neg (by omega) ?_
    rw [winc (by omega)]
    exact H
  | cons x t ih =>
    intro pre h
    have hm : ((pre.length : Nat) : Int) < (e.length : Int) := by rw [h]; exact lt_mid
    have hg : rd e (pre.length : Int) = x := by rw [h]; exact rd_mid
    obtain ⟨x0, x1⟩ := hr x (by rw [h]; simp)
    have hc := count_le_len (ps ++ pre) x
    have hl : e.length = pre.length + (t.length + 1) := by rw [h]; simp
    rw [List.length_append] at hc
    refine ev_succ ?_
    simp only [impl_Hyper_degrees.l1, hg]
    refine ev_pos hm (ev_pos (by omega) (ev_pos hm (ev_pos x0 (ev_pos (by rw [cntL_len]; exact x1) ?_))))
    rw [winc (by omega), cntL_rd _ x0 x1, wcount (by omega), cntL_set _ x0, List.append_assoc]
    have := ih (pre ++ [x]) (by rw [h]; simp)
    rw [len_one] at this
    exact this
theorem impl_degrees_l0 {P : Nat} {E : Edges} (hG : GoodH P E) {L : List Nat} (hL : Rg E.length L) : ∀ (d i : Nat), i + d = E.length →
    Ev (fun k => impl_Hyper_degrees.l0 k (goneOf E.length L) (cntL (plsL E (upTo L i)) P) E (E.length : Int) (i : Int)) (cntL (plsL E L) P) := by
  intro d
  have hn := hG.len
  induction d with
  | zero =>
    intro i h
    have hi : i = E.length := by omega
    refine ev_succ ?_
    simp only [impl_Hyper_degrees.l0]
    refine ev_neg (by omega) (ev_some ?_)
    rw [hi, upTo_all hL]
  | succ d ih =>
    intro i h
    have next := ih (i + 1) (by omega)
    rw [upTo_succ] at next
    refine ev_succ ?_
    simp only [impl_Hyper_degrees.l0]
    refine ev_pos (by omega) (ev_pos (by omega) (ev_pos (by omega) (ev_pos (by rw [goneOf_len]; omega) ?_)))
    rw [goneOf_rd (by omega)]
    by_cases c : i ∈ L
    · rw [if_pos c] at next
      refine ev_neg (by simp [c]) ?_
      rw [rd_edg]
      have hb := plsL_len hG (upTo L i)
      have hu := upTo_len L i
      obtain ⟨he, hr⟩ := hG.edge i
      have hpe : plsL E (upTo L i ++ [i]) = plsL E (upTo L i) ++ edg E i := by simp [plsL]
      rw [hpe] at next
      have := impl_degrees_l1 (P := P) (E := E) (G := goneOf E.length L) (n := (E.length : Int)) (edg E i) (by omega) (by omega) hr (plsL E (upTo L i)) (by omega) next (edg E i) [] rfl
      rw [List.append_nil] at this
      exact this
    · rw [if_neg c] at next
      refine ev_pos (by simp [c]) ?_
      rw [winc (by omega)]
      exact next
theorem impl_degrees_f {P : Nat} {E : Edges} (hG : GoodH P E) {L : List Nat} (hL : Rg E.length L) : Ev (fun k => impl_Hyper_degrees.f k (P : Int) E (goneOf E.length L)) (cntL (plsL E L) P) := by
  have hp := hG.plc
  unfold impl_Hyper_degrees.f
  refine ev_pos (by omega) (ev_pos (by omega) ?_)
  have := impl_degrees_l0 hG hL E.length 0 (by omega)
  rw [show plsL E (upTo L 0) = [] from rfl, cntL_nil] at this
  exact this
theorem impl_singles_l0 {P : Nat} (ps : List Int) (hP : P ≤ 1000) : ∀ (d i : Nat), i + d = P →
    Ev (fun k => impl_Hyper_singles.l0 k (freeUp ps i) (cntL ps P) (P : Int) (i : Int)) (freeUp ps P) := by
  intro d
  induction d with
  | zero =>
    intro i h
    have hi : i = P := by omega
    refine ev_succ ?_
    simp only [impl_Hyper_singles.l0]
    refine ev_neg (by omega) (ev_some (by rw [hi]))
  | succ d ih =>
    intro i h
    have next := ih (i + 1) (by omega)
    have hl := freeUp_len ps i
    rw [freeUp_succ] at next
    refine ev_succ ?_
    simp only [impl_Hyper_singles.l0]
    rw [cntL_rd ps (by omega) (by omega)]
    refine ev_pos (by omega) (ev_pos (by omega) (ev_pos (by rw [cntL_len]; omega) ?_))
    rw [winc (by omega)]
    by_cases c : ps.count (i : Int) = 1
    · rw [if_pos c] at next
      exact ev_pos (by omega) (ev_pos (by omega) next)
    · rw [if_neg c] at next
      exact ev_neg (by omega) next
theorem impl_singles_f {P : Nat} {E : Edges} (hG : GoodH P E) {L : List Nat} (hL : Rg E.length L) : Ev (fun k => impl_Hyper_singles.f k (P : Int) E (goneOf E.length L)) (freeL P E L) := by
  unfold impl_Hyper_singles.f
  refine ev_bind _ (impl_degrees_f hG hL) ?_
  have := impl_singles_l0 (plsL E L) hG.plc P 0 (by omega)
  rw [cntL_len, ← freeL_up]
  exact this
theorem slices_Index_int_l0 (x0 : List Int) (a : Int) (hl : (x0.length : Int) ≤ 9223372036854775806) : ∀ (t pre : List Int), x0 = pre ++ t →
    ∃ r, Ev (fun k => slices_Index_int_int.l0 k x0 a (x0.length : Int) (pre.length : Int)) r ∧ decide (r ≥ 0) = t.contains a := by
  intro t
  induction t with
  | nil =>
    intro pre h
    refine ⟨-1, ev_succ ?_, by simp⟩
    simp only [slices_Index_int_int.l0]
    exact ev_neg (by rw [h]; exact not_lt_end) (Ev.now _)
  | cons x t ih =>
    intro pre h
    have hm : ((pre.length : Nat) : Int) < (x0.length : Int) := by rw [h]; exact lt_mid
    have hg : rd x0 (pre.length : Int) = x := by rw [h]; exact rd_mid
    by_cases c : a = x
    · refine ⟨(pre.length : Int), ev_succ ?_, by simp [c]⟩
      simp only [slices_Index_int_int.l0, hg]
      exact ev_pos hm (ev_pos (by omega) (ev_pos hm (ev_pos c (Ev.now _))))
    · obtain ⟨r, h1, h2⟩ := ih (pre ++ [x]) (by rw [h]; simp)
      rw [len_one] at h1
      refine ⟨r, ev_succ ?_, by rw [h2]; simp [c]⟩
      simp only [slices_Index_int_int.l0, hg]
      refine ev_pos hm (ev_pos (by omega) (ev_pos hm (ev_neg c ?_)))
      rw [winc (by omega)]
      exact h1
theorem slices_Contains_int_f (l : List Int) (a : Int) (hl : (l.length : Int) ≤ 9223372036854775806) : Ev (fun k => slices_Contains_int_int.f k l a) (l.contains a) := by
  obtain ⟨r, h1, h2⟩ := slices_Index_int_l0 l a hl l [] rfl
  unfold slices_Contains_int_int.f slices_Index_int_int.f
  refine ev_bind _ h1 (ev_some h2)
theorem impl_edgeAt_l0 {P : Nat} {E : Edges} (hG : GoodH P E) {L : List Nat} {p : Int} {j : Nat} (hj : j ∈ L) (hjn : j < E.length) (hpj : p ∈ edg E j) (hlt : ∀ k ∈ L, k < j → ¬ p ∈ edg E k) : ∀ (d i : Nat), i + d = j →
    Ev (fun k => impl_Hyper_edgeAt.l0 k (goneOf E.length L) p (i : Int) (P : Int) E) (j : Int) := by
  intro d
  have hn := hG.len
  have he := fun i => (hG.edge i).1
  induction d with
  | zero =>
    intro i h
    obtain rfl : i = j := by omega
    have := he i
    refine ev_succ ?_
    simp only [impl_Hyper_edgeAt.l0]
    rw [goneOf_rd hjn, rd_edg]
    refine ev_pos (by omega) (ev_pos (by rw [goneOf_len]; omega) (ev_neg (by simp [hj]) (ev_pos (by omega) (ev_bind _ (slices_Contains_int_f _ p (by omega)) (ev_pos (by simpa using hpj) (Ev.now _))))))
  | succ d ih =>
    intro i h
    have := he i
    have next := ih (i + 1) (by omega)
    refine ev_succ ?_
    simp only [impl_Hyper_edgeAt.l0]
    rw [goneOf_rd (by omega), rd_edg, winc (by omega)]
    refine ev_pos (by omega) (ev_pos (by rw [goneOf_len]; omega) ?_)
    by_cases c : i ∈ L
    · exact ev_neg (by simp [c]) (ev_pos (by omega) (ev_bind _ (slices_Contains_int_f _ p (by omega)) (ev_neg (by simpa using hlt i c (by omega)) next)))
    · exact ev_pos (by simp [c]) next
theorem impl_edgeAt_f {P : Nat} {E : Edges} (hG : GoodH P E) {L : List Nat} (hL : Rg E.length L) {p : Int} {j : Nat} (h : withE E L p = some j) : Ev (fun k => impl_Hyper_edgeAt.f k (P : Int) E (goneOf E.length L) p) (j : Int) := by
  obtain ⟨h1, h2⟩ := withE_some h
  unfold impl_Hyper_edgeAt.f
  exact impl_edgeAt_l0 hG h1 (hL.lt h1) h2 (withE_least hL.sorted h) j 0 (by omega)
theorem impl_left_l0 {n : Nat} {L : List Nat} (hn : n ≤ 1000) (hL : Rg n L) : ∀ (d i : Nat), i + d = n →
    Ev (fun k => impl_left.l0 k (castL (upTo L i)) (goneOf n L) (n : Int) (i : Int)) (castL L) := by
  intro d
  induction d with
  | zero =>
    intro i h
    have hi : i = n := by omega
    refine ev_succ ?_
    simp only [impl_left.l0]
    exact ev_neg (by omega) (ev_some (by rw [hi, upTo_all hL]))
  | succ d ih =>
    intro i h
    have next := ih (i + 1) (by omega)
    have hl := upTo_len L i
    rw [upTo_succ] at next
    refine ev_succ ?_
    simp only [impl_left.l0]
    rw [goneOf_rd (by omega), winc (by omega)]
    refine ev_pos (by omega) (ev_pos (by omega) (ev_pos (by rw [goneOf_len]; omega) ?_))
    by_cases c : i ∈ L
    · rw [if_pos c, castL_app] at next
      exact ev_neg (by simp [c]) (ev_pos (by rw [castL_len]; omega) next)
    · rw [if_neg c] at next
      exact ev_pos (by simp [c]) next
theorem impl_left_f {n : Nat} {L : List Nat} (hn : n ≤ 1000) (hL : Rg n L) : Ev (fun k => impl_left.f k (goneOf n L)) (castL L) := by
  unfold impl_left.f
  rw [goneOf_len]
  exact impl_left_l0 hn hL n 0 (by omega)
def mkS51 (s : Nat × Int) : S51 := ⟨(s.1 : Int), s.2⟩
def stepsL (l : List (Nat × Int)) : List S51 := l.map mkS51
theorem step_zero {P : Nat} {E : Edges} {L : List Nat} (h : freeL P E L ≠ []) : ∃ i, stepE P E L 0 = some (i, rd (freeL P E L) 0) := by
  unfold stepE
  have : ¬ (freeL P E L).length = 0 := fun e => h (List.length_eq_zero_iff.1 e)
  rw [if_neg this, Nat.zero_mod]
  exact ⟨_, rfl⟩
theorem impl_peel_l0 {P : Nat} {E : Edges} (hG : GoodH P E) : ∀ (d : Nat) (L : List Nat) (acc : List S51), Rg E.length L → L.length ≤ d → acc.length + d ≤ 1000000 →
    Ev (fun k => impl_Hyper_peel.l0 k acc (goneOf E.length L) (P : Int) E) (acc ++ stepsL (peelC P E (List.replicate d 0) L).1, castL (peelC P E (List.replicate d 0) L).2) := by
  have hn := hG.len
  have stop : ∀ (d : Nat) (L : List Nat) (acc : List S51), Rg E.length L → freeL P E L = [] → Ev (fun k => impl_Hyper_peel.l0 k acc (goneOf E.length L) (P : Int) E) (acc ++ stepsL (peelC P E (List.replicate d 0) L).1, castL (peelC P E (List.replicate d 0) L).2) := by
    intro d L acc hL hf
    have e : peelC P E (List.replicate d 0) L = ([], L) := by
      cases d with
      | zero => rfl
      | succ d => rw [List.replicate_succ, peelC_cons_none _ _ hf]
    rw [e]
    refine ev_succ ?_
    simp only [impl_Hyper_peel.l0]
    refine ev_bind _ (impl_singles_f hG hL) (ev_pos (by rw [hf]; rfl) (ev_bind _ (impl_left_f hn hL) (ev_some (by simp [stepsL]))))
  intro d
  induction d with
  | zero =>
    intro L acc hL hd _
    have : L = [] := List.length_eq_zero_iff.1 (by omega)
    exact stop 0 L acc hL (by rw [this]; exact freeL_nil)
  | succ d ih =>
    intro L acc hL hd ha
    by_cases hf : freeL P E L = []
    · exact stop (d + 1) L acc hL hf
    · obtain ⟨i, hs⟩ := step_zero hf
      obtain ⟨_, _, hw⟩ := stepE_some hs
      have hi := (withE_some hw).1
      have hin := hL.lt hi
      have hl : ¬ (freeL P E L).length = 0 := fun e => hf (List.length_eq_zero_iff.1 e)
      have hdl := dropE_len hL.nodup hi
      rw [List.replicate_succ, peelC_cons_some _ hs]
      refine ev_succ ?_
      simp only [impl_Hyper_peel.l0]
      refine ev_bind _ (impl_singles_f hG hL) (ev_neg (by omega) (ev_pos (by omega) (ev_bind _ (impl_edgeAt_f hG hL hw) (ev_pos (by omega) (ev_pos (by rw [goneOf_len]; omega) (ev_pos (by omega) ?_))))))
      rw [Int.toNat_natCast, goneOf_set]
      have := ih (dropE L i) (acc ++ [mkS51 (i, rd (freeL P E L) 0)]) (hL.drop i) (by omega) (by simp; omega)
      rw [List.append_assoc] at this
      exact this
theorem impl_peel_f {P : Nat} {E : Edges} (hG : GoodH P E) : Ev (fun k => impl_Hyper_peel.f k (P : Int) E) (stepsL (peelAll P E).1, castL (coreE P E)) := by
  have hn := hG.len
  unfold impl_Hyper_peel.f impl_Hyper_none.f
  refine ev_bind _ (ev_pos (by omega) (ev_pos (by omega) (Ev.now _))) ?_
  rw [Int.toNat_natCast, ← goneOf_all]
  have := impl_peel_l0 hG E.length (List.range E.length) [] (Rg.all _) (by simp) (by simp; omega)
  rw [List.nil_append] at this
  exact this
end Go.Proofs.YthkcgimnagpmaaaQ
namespace Go.Proofs.YthkcgimnagpmaaaQ
open Go Go.RowKit Go.Proofs.YthkcgimnagpmaaaW.PrintWords Go.Proofs.YthkcgimnagpmaaaGp Go.Proofs.Ythkcgimnagpmaaa.PA

theorem spec_l1Has_l0 (x0 : List Int) (a : Int) (hl : (x0.length : Int) ≤ 9223372036854775806) : ∀ (t pre : List Int), x0 = pre ++ t →
    Ev (fun k => spec_l1Has.l0 k a x0 (x0.length : Int) (pre.length : Int)) (t.contains a) := by
  intro t
  induction t with
  | nil =>
    intro pre h
    refine ev_succ ?_
    simp only [spec_l1Has.l0]
    exact ev_neg (by rw [h]; exact not_lt_end) (ev_some (by simp))
  | cons x t ih =>
    intro pre h
    have hm : ((pre.length : Nat) : Int) < (x0.length : Int) := by rw [h]; exact lt_mid
    have hg : rd x0 (pre.length : Int) = x := by rw [h]; exact rd_mid
    refine ev_succ ?_
    simp only [spec_l1Has.l0, hg]
    refine ev_pos hm (ev_pos (by omega) (ev_pos hm ?_))
    by_cases c : x = a
    · exact ev_pos c (ev_some (by simp [c]))
    · refine ev_neg c ?_
      rw [winc (by omega)]
      have := ih (pre ++ [x]) (by rw [h]; simp)
      rw [len_one] at this
      have e : (x :: t).contains a = t.contains a := by simp [Ne.symm c]
      rw [e]
      exact this
theorem spec_l1Has_f (l : List Int) (a : Int) (hl : (l.length : Int) ≤ 9223372036854775806) : Ev (fun k => spec_l1Has.f k l a) (l.contains a) := by
  unfold spec_l1Has.f
  exact spec_l1Has_l0 l a hl l [] rfl
end Go.Proofs.YthkcgimnagpmaaaQ
namespace Go.Proofs.YthkcgimnagpmaaaQ
open Go Go.RowKit Go.Proofs.YthkcgimnagpmaaaW.PrintWords Go.Proofs.YthkcgimnagpmaaaGp Go.Proofs.Ythkcgimnagpmaaa.PA

theorem spec_peAll_l0 {n : Nat} (hn : n ≤ 1000) : ∀ (d i : Nat), i + d = n →
    Ev (fun k => spec_peAll.l0 k (castL (List.range i)) (n : Int) (i : Int)) (castL (List.range n)) := by
  intro d
  induction d with
  | zero =>
    intro i h
    obtain rfl : i = n := by omega
    refine ev_succ ?_
    simp only [spec_peAll.l0]
    exact ev_neg (by omega) (Ev.now _)
  | succ d ih =>
    intro i h
    have next := ih (i + 1) (by omega)
    rw [List.range_succ, castL_app] at next
    refine ev_succ ?_
    simp only [spec_peAll.l0]
    rw [winc (by omega)]
    exact ev_pos (by omega) (ev_pos (by rw [castL_len]; simp; omega) next)
theorem spec_peAll_f {E : Edges} (hn : E.length ≤ 1000) (P : Int) : Ev (fun k => spec_peAll.f k P E) (castL (allE E)) := by
  unfold spec_peAll.f
  exact spec_peAll_l0 hn E.length 0 (by omega)
theorem spec_degrees_l1 {P : Nat} {E : Edges} {x13 : List Int} {n : Int} {r : List Int} {q i : Nat} (e : List Int) (hi : (i : Int) < 9223372036854775806) (he : (e.length : Int) ≤ 9223372036854775806) (hr : ∀ p ∈ e, 0 ≤ p ∧ p < (P : Int)) (ps : List Int) (hps : ps.length + e.length ≤ 1000000)
    (H : Ev (fun k => spec_peDegrees.l0 k (cntL (ps ++ e) P) x13 n ((i + 1 : Nat) : Int) (q : Int) E) r) : ∀ (t pre : List Int), e = pre ++ t →
    Ev (fun k => spec_peDegrees.l1 k (cntL (ps ++ pre) P) x13 n (i : Int) e (e.length : Int) (pre.length : Int) (q : Int) E) r := by
  intro t
  induction t with
  | nil =>
    intro pre h
    have hp : e = pre := by rw [h, List.append_nil]
    subst hp
    refine ev_succ ?_
    simp only [spec_peDegrees.l1]
    refine ev_neg (by omega) ?_
    rw [winc (by omega)]
    exact H
  | cons x t ih =>
    intro pre h
    have hm : ((pre.length : Nat) : Int) < (e.length : Int) := by rw [h]; exact lt_mid
    have hg : rd e (pre.length : Int) = x := by rw [h]; exact rd_mid
    obtain ⟨x0, x1⟩ := hr x (by rw [h]; simp)
    have hc := count_le_len (ps ++ pre) x
    have hl : e.length = pre.length + (t.length + 1) := by rw [h]; simp
    rw [List.length_append] at hc
    refine ev_succ ?_
    simp only [spec_peDegrees.l1, hg]
    refine ev_pos hm (ev_pos (by omega) (ev_pos hm (ev_pos x0 (ev_pos (by rw [cntL_len]; exact x1) ?_))))
    rw [winc (by omega), cntL_rd _ x0 x1, wcount (by omega), cntL_set _ x0, List.append_assoc]
    have := ih (pre ++ [x]) (by rw [h]; simp)
    rw [len_one] at this
    exact this
theorem spec_degrees_l0 {P : Nat} {E : Edges} (hG : GoodH P E) {L : List Nat} (hL : ∀ i ∈ L, i < E.length) (hl : L.length ≤ 1000) (q : Nat) : ∀ (t pre : List Nat), L = pre ++ t →
    Ev (fun k => spec_peDegrees.l0 k (cntL (plsL E pre) P) (castL L) (L.length : Int) (pre.length : Int) (q : Int) E) (cntL (plsL E L) P) := by
  intro t
  have hn := hG.len
  induction t with
  | nil =>
    intro pre h
    have hp : L = pre := by rw [h, List.append_nil]
    subst hp
    refine ev_succ ?_
    simp only [spec_peDegrees.l0]
    exact ev_neg (by omega) (Ev.now _)
  | cons j t ih =>
    intro pre h
    have hm : ((pre.length : Nat) : Int) < (L.length : Int) := by rw [h]; exact lt_mid
    have hg : rd (castL L) (pre.length : Int) = (j : Int) := by rw [h]; exact rd_castmid
    have hj := hL j (by rw [h]; simp)
    have next := ih (pre ++ [j]) (by rw [h]; simp)
    rw [len_one] at next
    have hb := plsL_len hG pre
    obtain ⟨he, hr⟩ := hG.edge j
    have hpe : plsL E (pre ++ [j]) = plsL E pre ++ edg E j := by simp [plsL]
    rw [hpe] at next
    have hlen : L.length = pre.length + (t.length + 1) := by rw [h]; simp
    refine ev_succ ?_
    simp only [spec_peDegrees.l0, hg, rd_edg]
    refine ev_pos hm (ev_pos (by omega) (ev_pos (by rw [castL_len]; exact hm) (ev_pos (by omega) (ev_pos (by omega) ?_))))
    have := spec_degrees_l1 (P := P) (E := E) (x13 := castL L) (n := (L.length : Int)) (q := q) (edg E j) (by omega) (by omega) hr (plsL E pre) (by omega) next (edg E j) [] rfl
    rw [List.append_nil] at this
    exact this
theorem spec_degrees_f {P : Nat} {E : Edges} (hG : GoodH P E) {L : List Nat} (hL : ∀ i ∈ L, i < E.length) (hl : L.length ≤ 1000) : Ev (fun k => spec_peDegrees.f k (P : Int) E (castL L)) (cntL (plsL E L) P) := by
  have hp := hG.plc
  unfold spec_peDegrees.f
  refine ev_pos (by omega) (ev_pos (by omega) ?_)
  have := spec_degrees_l0 hG hL hl P L [] rfl
  rw [show plsL E [] = [] from rfl, cntL_nil] at this
  rw [castL_len]
  exact this
theorem spec_free_l0 {P : Nat} (ps : List Int) (hP : P ≤ 1000) : ∀ (d i : Nat), i + d = P →
    Ev (fun k => spec_peFree.l0 k (freeUp ps i) (cntL ps P) (P : Int) (i : Int)) (freeUp ps P) := by
  intro d
  induction d with
  | zero =>
    intro i h
    have hi : i = P := by omega
    refine ev_succ ?_
    simp only [spec_peFree.l0]
    refine ev_neg (by omega) (ev_some (by rw [hi]))
  | succ d ih =>
    intro i h
    have next := ih (i + 1) (by omega)
    have hl := freeUp_len ps i
    rw [freeUp_succ] at next
    refine ev_succ ?_
    simp only [spec_peFree.l0]
    rw [cntL_rd ps (by omega) (by omega)]
    refine ev_pos (by omega) (ev_pos (by omega) (ev_pos (by rw [cntL_len]; omega) ?_))
    rw [winc (by omega)]
    by_cases c : ps.count (i : Int) = 1
    · rw [if_pos c] at next
      exact ev_pos (by omega) (ev_pos (by omega) next)
    · rw [if_neg c] at next
      exact ev_neg (by omega) next
theorem spec_free_f {P : Nat} {E : Edges} (hG : GoodH P E) {L : List Nat} (hL : ∀ i ∈ L, i < E.length) (hl : L.length ≤ 1000) : Ev (fun k => spec_peFree.f k (P : Int) E (castL L)) (freeL P E L) := by
  unfold spec_peFree.f
  refine ev_bind _ (spec_degrees_f hG hL hl) ?_
  have := spec_free_l0 (plsL E L) hG.plc P 0 (by omega)
  rw [cntL_len, ← freeL_up]
  exact this
section
variable {P : Nat} {E : Edges} (hG : GoodH P E) {cs : List Int} {on : Bool} {acc : List S51} {L : List Nat} (hL : Rg E.length L)
include hG hL
end
end Go.Proofs.YthkcgimnagpmaaaQ
namespace Go.Proofs.YthkcgimnagpmaaaQ
open Go Go.RowKit Go.Proofs.YthkcgimnagpmaaaW.PrintWords Go.Proofs.YthkcgimnagpmaaaGp Go.Proofs.Ythkcgimnagpmaaa.PA

def mm (x y : Int) : Int := Int.tmod (wrap64 (x * y)) 65521
theorem mul_range {x y : Int} (hx : 0 ≤ x) (hx1 : x ≤ 65520) (hy : 0 ≤ y) (hy1 : y ≤ 65520) : 0 ≤ x * y ∧ x * y ≤ 4292870400 :=
  ⟨Int.mul_nonneg hx hy, by have := Int.mul_le_mul hx1 hy1 hy (by omega); omega⟩
theorem emod_range (x : Int) : 0 ≤ x % 65521 ∧ x % 65521 ≤ 65520 := by omega
theorem mm_eq {x y : Int} (hx : 0 ≤ x) (hx1 : x ≤ 65520) (hy : 0 ≤ y) (hy1 : y ≤ 65520) : mm x y = x * y % 65521 := by
  obtain ⟨h0, h1⟩ := mul_range hx hx1 hy hy1
  unfold mm
  rw [w64 (by omega) (by omega)]
  exact Int.tmod_eq_emod_of_nonneg h0
theorem mm_mod (a b : Int) : mm (a % 65521) (b % 65521) = a * b % 65521 := by
  rw [mm_eq (emod_range a).1 (emod_range a).2 (emod_range b).1 (emod_range b).2]
  exact (Int.mul_emod a b 65521).symm
def pw (h : Int) : Nat → Int
  | 0 => 1
  | n + 1 => pw h n * h
theorem self_mod {h : Int} (h0 : 0 ≤ h) (h1 : h ≤ 65520) : h = h % 65521 := by omega
theorem mm11 {h : Int} (h0 : 0 ≤ h) (h1 : h ≤ 65520) : mm (mm (mm (mm (mm h h) (mm h h)) h) (mm (mm (mm h h) (mm h h)) h)) h = pw h 11 % 65521 := by
  have e := self_mod h0 h1
  have a2 : mm h h = h * h % 65521 := mm_eq h0 h1 h0 h1
  have a4 : mm (mm h h) (mm h h) = (h * h) * (h * h) % 65521 := by rw [a2, mm_mod]
  have a5 : mm (mm (mm h h) (mm h h)) h = (h * h) * (h * h) * h % 65521 := by
    rw [a4]; conv => lhs; arg 2; rw [e]
    rw [mm_mod]
  rw [a5, mm_mod]
  conv => lhs; arg 2; rw [e]
  rw [mm_mod]
  congr 1
  simp only [pw, Int.one_mul, Int.mul_assoc]
def hstep (h : Int) (c : UInt8) : Int := Int.tmod (wrap64 ((wrap64 (263 * h)) + (wrap64 (c.toNat : Int)))) 65521
def hfold (h : Int) (l : List UInt8) : Int := l.foldl hstep h
theorem hstep_range {h : Int} {c : UInt8} (h0 : 0 ≤ h) (h1 : h ≤ 65520) : 0 ≤ hstep h c ∧ hstep h c ≤ 65520 := by
  have hc : c.toNat < 256 := c.toNat_lt
  unfold hstep
  rw [w64 (x := 263 * h) (by omega) (by omega), w64 (x := (c.toNat : Int)) (by omega) (by omega), w64 (by omega) (by omega), Int.tmod_eq_emod_of_nonneg (by omega)]
  omega
def hstart (a0 a1 : Int) : Int := Int.tmod (wrap64 ((wrap64 ((wrap64 (31 * a0)) + (wrap64 (977 * a1)))) + 7)) 65521
theorem hstart_range {a0 a1 : Int} (h0 : 0 ≤ a0) (h0' : a0 ≤ 1000000) (h1 : 0 ≤ a1) (h1' : a1 ≤ 1000000) : 0 ≤ hstart a0 a1 ∧ hstart a0 a1 ≤ 65520 := by
  unfold hstart
  rw [w64 (x := 31 * a0) (by omega) (by omega), w64 (x := 977 * a1) (by omega) (by omega), w64 (x := 31 * a0 + 977 * a1) (by omega) (by omega), w64 (by omega) (by omega), Int.tmod_eq_emod_of_nonneg (by omega)]
  omega
def hashV (a0 a1 : Int) (s : ByteArray) : Int := pw (hfold (hstart a0 a1) s.data.toList) 11 % 65521
theorem spec_biHash_l0 (x2 : ByteArray) (hz : (x2.size : Int) ≤ 9223372036854775806) : ∀ (t pre : List UInt8) (h : Int), x2.data.toList = pre ++ t → 0 ≤ h → h ≤ 65520 →
    Ev (fun k => spec_biHash.l0 k x2 h (pre.length : Int)) (pw (hfold h t) 11 % 65521) := by
  intro t
  induction t with
  | nil =>
    intro pre h e h0 h1
    refine ev_succ ?_
    simp only [spec_biHash.l0]
    refine ev_neg (not_lt_size e) (ev_some ?_)
    exact mm11 h0 h1
  | cons c t ih =>
    intro pre h e h0 h1
    have hm := lt_size e
    refine ev_succ ?_
    simp only [spec_biHash.l0, bt_mid e]
    refine ev_pos hm (ev_pos (by omega) ?_)
    rw [winc (by omega)]
    have := ih (pre ++ [c]) (hstep h c) (by rw [e]; simp) (hstep_range h0 h1).1 (hstep_range h0 h1).2
    rw [len_one] at this
    exact this
theorem spec_biHash_f (a0 a1 : Int) (s : ByteArray) (hz : (s.size : Int) ≤ 9223372036854775806) (h0 : 0 ≤ a0) (h0' : a0 ≤ 1000000) (h1 : 0 ≤ a1) (h1' : a1 ≤ 1000000) :
    Ev (fun k => spec_biHash.f k a0 a1 s) (hashV a0 a1 s) := by
  unfold spec_biHash.f
  exact spec_biHash_l0 s hz s.data.toList [] _ rfl (hstart_range h0 h0' h1 h1').1 (hstart_range h0 h0' h1 h1').2
def placeV (a0 a1 : Int) (s : ByteArray) (n : Int) : Int := wrap64 (Int.tdiv (wrap64 (hashV a0 a1 s * n)) 65521)
theorem spec_biPlace_f (a0 a1 : Int) (s : ByteArray) (n : Int) (hz : (s.size : Int) ≤ 9223372036854775806) (h0 : 0 ≤ a0) (h0' : a0 ≤ 1000000) (h1 : 0 ≤ a1) (h1' : a1 ≤ 1000000) :
    Ev (fun k => spec_biPlace.f k a0 a1 s n) (placeV a0 a1 s n) := by
  unfold spec_biPlace.f
  exact ev_bind _ (spec_biHash_f a0 a1 s hz h0 h0' h1 h1') (Ev.now _)
end Go.Proofs.YthkcgimnagpmaaaQ
namespace Go.Proofs.YthkcgimnagpmaaaQ
open Go Go.RowKit Go.Proofs.YthkcgimnagpmaaaW.PrintWords Go.Proofs.YthkcgimnagpmaaaGp Go.Proofs.Ythkcgimnagpmaaa.PA

def tripL (a0 : Int) (s : ByteArray) (n : Int) : Nat → Nat → List Int
  | 0, _ => []
  | m + 1, i => wrap64 (placeV a0 (i : Int) s n + wrap64 ((i : Int) * n)) :: tripL a0 s n m (i + 1)
theorem spec_peTriple_l0 (a0 : Int) (n : Int) (s : ByteArray) (hz : (s.size : Int) ≤ 9223372036854775806) (h0 : 0 ≤ a0) (h0' : a0 ≤ 1000000) : ∀ (m i : Nat) (acc : List Int), i + m = 3 → acc.length = i →
    Ev (fun k => spec_peTriple.l0 k a0 s n acc (i : Int)) (acc ++ tripL a0 s n m i) := by
  intro m
  induction m with
  | zero =>
    intro i acc e ha
    refine ev_succ ?_
    simp only [spec_peTriple.l0, tripL]
    exact ev_neg (by omega) (ev_some (by simp))
  | succ m ih =>
    intro i acc e ha
    refine ev_succ ?_
    simp only [spec_peTriple.l0, tripL]
    refine ev_pos (by omega) (ev_bind _ (spec_biPlace_f a0 (i : Int) s n hz h0 h0' (by omega) (by omega)) (ev_pos (by omega) ?_))
    rw [winc (by omega)]
    have := ih (i + 1) (acc ++ [wrap64 (placeV a0 (i : Int) s n + wrap64 ((i : Int) * n))]) (by omega) (by simp [ha])
    rw [List.append_assoc] at this
    exact this
theorem spec_peTriple_f (a0 n : Int) (s : ByteArray) (hz : (s.size : Int) ≤ 9223372036854775806) (h0 : 0 ≤ a0) (h0' : a0 ≤ 1000000) : Ev (fun k => spec_peTriple.f k a0 s n) (tripL a0 s n 3 0) := by
  unfold spec_peTriple.f
  have := spec_peTriple_l0 a0 n s hz h0 h0' 3 0 [] rfl rfl
  exact this
end Go.Proofs.YthkcgimnagpmaaaQ
namespace Go.Proofs.YthkcgimnagpmaaaQ
open Go Go.RowKit Go.Proofs.YthkcgimnagpmaaaW.PrintWords Go.Proofs.YthkcgimnagpmaaaGp Go.Proofs.Ythkcgimnagpmaaa.PA

theorem spec_in (n a b : Int) : spec_l1In.f n a b = some (decide (a ≤ n ∧ n ≤ b)) := by
  unfold spec_l1In.f
  by_cases h : a ≤ n <;> by_cases h' : n ≤ b <;> simp [h, h']
theorem impl_in (n a b : Int) : impl_in.f n a b = some (decide (a ≤ n ∧ n ≤ b)) := by
  unfold impl_in.f
  by_cases h : a ≤ n <;> by_cases h' : n ≤ b <;> simp [h, h']

end Go.Proofs.YthkcgimnagpmaaaQ
namespace Go.Proofs.YthkcgimnagpmaaaQ
open Go Go.RowKit Go.Proofs.YthkcgimnagpmaaaW.PrintWords Go.Proofs.YthkcgimnagpmaaaGp Go.Proofs.Ythkcgimnagpmaaa.PA

structure Bys (s : List Int) : Prop where
  len : (s.length : Int) ≤ 1048576
  all : ∀ x ∈ s, 0 ≤ x ∧ x ≤ 255
theorem and255 (x : Int) : 0 ≤ Go.bits .and .u64 x 255 ∧ Go.bits .and .u64 x 255 ≤ 255 := by
  have e : Go.bits .and .u64 x 255 = IntKind.u64.wrap (((BitVec.ofInt 64 x &&& BitVec.ofInt 64 255 : BitVec 64)).toNat : Int) := by unfold Go.bits; rfl
  have h : ((BitVec.ofInt 64 x &&& BitVec.ofInt 64 255 : BitVec 64)).toNat ≤ 255 := by
    rw [BitVec.toNat_and]
    exact Nat.and_le_right
  rw [e]
  unfold IntKind.wrap
  simp only [IntKind.bits, IntKind.signed]
  generalize (BitVec.ofInt 64 x &&& BitVec.ofInt 64 255 : BitVec 64).toNat = m at h
  simp
  omega
theorem rd_by {s : List Int} (hs : Bys s) (i : Int) : 0 ≤ rd s i ∧ rd s i ≤ 255 := by
  unfold rd
  by_cases c : i.toNat < s.length
  · rw [List.getD_eq_getElem?_getD, List.getElem?_eq_getElem c]
    exact hs.all _ (List.getElem_mem c)
  · rw [List.getD_eq_getElem?_getD, List.getElem?_eq_none (by omega)]
    simp
theorem next_ok {s : List Int} (hs : Bys s) {p : Int} (sd : Int) (h0 : 0 ≤ p) (h1 : p ≤ 4000000000000000000) :
    ∃ v p' sd', spec_l1Cur_next.f s p sd = some (v, p', sd') ∧ (0 ≤ v ∧ v ≤ 255) ∧ 0 ≤ p' ∧ p' ≤ p + 1 := by
  have hb := rd_by hs p
  have w1 : wrap64 (p + 1) = p + 1 := w64 (by omega) (by omega)
  have w2 : wrap64 (rd s p) = rd s p := w64 (by omega) (by omega)
  unfold spec_l1Cur_next.f
  rw [w1, w2]
  by_cases c : p < (s.length : Int)
  · rw [if_pos c, if_pos h0]
    split
    · exact ⟨_, _, _, rfl, hb, by omega, by omega⟩
    · omega
  · rw [if_neg c, if_neg (by omega)]
    refine ⟨_, _, _, rfl, ?_, by omega, by omega⟩
    have := and255 ((IntKind.u64.wrap ((IntKind.u64.wrap (IntKind.u64.wrap (sd * 6364136223846793005))) + 1442695040888963407)) / 1099511627776)
    rw [w64 (by omega) (by omega)]
    exact this
theorem pick_ok {s : List Int} (hs : Bys s) {p : Int} (sd : Int) {n : Int} (h0 : 0 ≤ p) (h1 : p ≤ 3000000000000000000) :
    ∃ v p' sd', spec_l1Cur_pick.f s p sd n = some (v, p', sd') ∧ (0 ≤ v ∧ (v < n ∨ v = 0)) ∧ 0 ≤ p' ∧ p' ≤ p + 2 := by
  unfold spec_l1Cur_pick.f
  by_cases c : n ≤ 1
  · rw [if_pos c]; exact ⟨_, _, _, rfl, ⟨by omega, .inr rfl⟩, h0, by omega⟩
  obtain ⟨v, p', sd', e, hv, q0, q1⟩ := next_ok hs sd h0 (by omega)
  have hn : ¬ n = 0 := by omega
  rw [if_neg c, e]
  simp only [Option.bind_some, if_neg hn]
  by_cases d : n > 200
  · obtain ⟨u, p2, sd2, e2, hu, r0, r1⟩ := next_ok hs sd' q0 (by omega)
    rw [if_pos d, e2]
    simp only [Option.bind_some]
    refine ⟨_, _, _, rfl, ?_, r0, by omega⟩
    rw [w64 (x := v * 256) (by omega) (by omega), w64 (x := v * 256 + u) (by omega) (by omega), Int.tmod_eq_emod_of_nonneg (by omega)]
    exact ⟨Int.emod_nonneg _ hn, .inl (Int.emod_lt_of_pos _ (by omega))⟩
  · rw [if_neg d]
    refine ⟨_, _, _, rfl, ?_, q0, by omega⟩
    rw [Int.tmod_eq_emod_of_nonneg hv.1]
    exact ⟨Int.emod_nonneg _ hn, .inl (Int.emod_lt_of_pos _ (by omega))⟩
theorem one_ok {s : List Int} (hs : Bys s) {p : Int} (sd : Int) (n : Int) (h0 : 0 ≤ p) (h1 : p ≤ 3000000000000000000) :
    ∃ v p' sd', spec_l1Cur_one.f s p sd n = some (v, p', sd') ∧ 0 ≤ p' ∧ p' ≤ p + 2 := by
  obtain ⟨v, p', sd', e, _, q0, q1⟩ := pick_ok hs sd (n := n) h0 h1
  unfold spec_l1Cur_one.f
  rw [e]
  exact ⟨_, _, _, rfl, q0, q1⟩
theorem among_ok {s : List Int} (hs : Bys s) {p : Int} (sd : Int) {l : List Int} (hl : 0 < l.length) (h0 : 0 ≤ p) (h1 : p ≤ 3000000000000000000) :
    ∃ v p' sd', spec_l1Cur_among.f s p sd l = some (v, p', sd') ∧ v ∈ l ∧ 0 ≤ p' ∧ p' ≤ p + 2 := by
  obtain ⟨v, p', sd', e, hv, q0, q1⟩ := pick_ok hs sd (n := (l.length : Int)) h0 h1
  have hm : rd l v ∈ l := by
    unfold rd
    have : v.toNat < l.length := by omega
    rw [List.getD_eq_getElem?_getD, List.getElem?_eq_getElem this]
    exact List.getElem_mem this
  unfold spec_l1Cur_among.f
  rw [e]
  simp only [Option.bind_some]
  rw [if_pos (by omega), if_pos (by omega)]
  exact ⟨_, _, _, rfl, hm, q0, q1⟩
theorem strOf_size (l : List Int) : (strOfNums l).size = l.length := by simp [strOfNums, ByteArray.size]

def Dr {α : Type} (g : Nat → Option (α × Int × Int)) (p c : Int) (P : α → Prop) : Prop := ∃ v p' sd', Ev g (v, p', sd') ∧ P v ∧ 0 ≤ p' ∧ p' ≤ p + c
theorem key_l1 (s : List Int) (p sd : Int) : ∀ (d : Nat) (x : List Int), 12 - x.length ≤ d → x.length ≤ 12 →
    ∃ v, Ev (fun k => spec_l1Cur_key.l1 k x s p sd) (v, p, sd) ∧ v.size ≤ 12 := by
  intro d
  induction d with
  | zero =>
    intro x h1 h2
    refine ⟨strOfNums x, ev_succ ?_, by rw [strOf_size]; omega⟩
    simp only [spec_l1Cur_key.l1]
    exact ev_neg (by omega) (Ev.now _)
  | succ d ih =>
    intro x h1 h2
    by_cases c : (x.length : Int) < 12
    · obtain ⟨v, e, hv⟩ := ih (x ++ [97]) (by simp; omega) (by simp; omega)
      refine ⟨v, ev_succ ?_, hv⟩
      simp only [spec_l1Cur_key.l1]
      exact ev_pos c (ev_pos (by omega) e)
    · refine ⟨strOfNums x, ev_succ ?_, by rw [strOf_size]; omega⟩
      simp only [spec_l1Cur_key.l1]
      exact ev_neg c (Ev.now _)
theorem key_l0 {s : List Int} (hs : Bys s) : ∀ (n : Nat) (x : List Int) (p sd : Int), x.length + n ≤ 12 → 0 ≤ p → p + 2 * (n : Int) ≤ 2000000000000000000 →
    Dr (fun k => spec_l1Cur_key.l0 k x (n : Int) s p sd) p (2 * (n : Int) + 2) (fun v => v.size ≤ 12) := by
  intro n
  induction n with
  | zero =>
    intro x p sd hx h0 h1
    obtain ⟨v, p', sd', e, q0, q1⟩ := one_ok hs sd 12 h0 (by omega)
    by_cases c : v = true
    · obtain ⟨u, eu, hu⟩ := key_l1 s p' sd' 12 x (by omega) (by omega)
      refine ⟨u, p', sd', ev_succ ?_, hu, q0, by omega⟩
      simp only [spec_l1Cur_key.l0, e]
      exact ev_neg (by omega) (ev_bind _ (Ev.now _) (ev_pos c eu))
    · refine ⟨strOfNums x, p', sd', ev_succ ?_, (by rw [strOf_size]; omega : (strOfNums x).size ≤ 12), q0, by omega⟩
      simp only [spec_l1Cur_key.l0, e]
      exact ev_neg (by omega) (ev_bind _ (Ev.now _) (ev_neg c (Ev.now _)))
  | succ n ih =>
    intro x p sd hx h0 h1
    obtain ⟨v, p', sd', e, hv, q0, q1⟩ := pick_ok hs sd (n := 11) h0 (by omega)
    obtain ⟨u, p2, sd2, eu, hu, r0, r1⟩ := ih (x ++ [bt (⟨#[97, 97, 98, 98, 99, 120, 121, 122, 33, 125, 48]⟩ : ByteArray) v]) p' sd' (by simp; omega) q0 (by omega)
    refine ⟨u, p2, sd2, ev_succ ?_, hu, r0, by omega⟩
    simp only [spec_l1Cur_key.l0, e]
    refine ev_pos (by omega) (ev_bind _ (Ev.now _) (ev_pos hv.1 (ev_pos (by omega) (ev_pos (by omega) ?_))))
    rw [wdec (by omega)]
    exact eu
theorem key_ok {s : List Int} (hs : Bys s) {p : Int} (sd : Int) (h0 : 0 ≤ p) (h1 : p ≤ 1000000000000000000) : Dr (fun k => spec_l1Cur_key.f k s p sd) p 12 (fun v => v.size ≤ 12) := by
  obtain ⟨v, p', sd', e, hv, q0, q1⟩ := pick_ok hs sd (n := 4) h0 (by omega)
  obtain ⟨u, p2, sd2, eu, hu, r0, r1⟩ := key_l0 hs (v.toNat + 1) [] p' sd' (by simp; omega) q0 (by omega)
  refine ⟨u, p2, sd2, ?_, hu, r0, by omega⟩
  unfold spec_l1Cur_key.f
  rw [e]
  refine ev_bind _ (Ev.now _) ?_
  rw [w64 (by omega) (by omega), show 1 + v = ((v.toNat + 1 : Nat) : Int) from by omega]
  exact eu
def insK (s : ByteArray) : List ByteArray → List ByteArray
  | [] => [s]
  | q :: t => if lessS q s = true then q :: insK s t else if q = s then q :: t else s :: q :: t
theorem insK_len (s : ByteArray) : ∀ l, (insK s l).length ≤ l.length + 1
  | [] => by simp [insK]
  | q :: t => by
    have := insK_len s t
    unfold insK
    split
    · simp; omega
    · split <;> simp
theorem insK_mem (s : ByteArray) : ∀ l, ∀ x ∈ insK s l, x = s ∨ x ∈ l
  | [], x, h => by simp [insK] at h; exact .inl h
  | q :: t, x, h => by
    unfold insK at h
    split at h
    · rcases List.mem_cons.1 h with e | e
      · exact .inr (by simp [e])
      · rcases insK_mem s t x e with e | e
        · exact .inl e
        · exact .inr (by simp [e])
    · split at h
      · exact .inr h
      · rcases List.mem_cons.1 h with e | e
        · exact .inl e
        · exact .inr e
theorem putS_l0 (x0 : List ByteArray) (s : ByteArray) (hx : x0.length ≤ 1000000) : ∀ (t pre : List ByteArray), x0 = pre ++ t →
    Ev (fun k => spec_l1PutS.l0 k x0 s (pre.length : Int)) (pre ++ insK s t) := by
  intro t
  induction t with
  | nil =>
    intro pre h
    have hp : x0 = pre := by rw [h, List.append_nil]
    subst hp
    refine ev_succ ?_
    simp only [spec_l1PutS.l0]
    refine ev_neg (by omega) (ev_bind _ (Ev.now _) (ev_pos (by omega) (ev_pos (by omega) (ev_bind _ (Ev.now _) ?_))))
    rw [Int.toNat_natCast, List.take_length, List.nil_append]
    refine ev_pos (by simp; omega) (ev_bind _ (Ev.now _) (ev_pos (by omega) (ev_bind _ (Ev.now _) (ev_bind _ (Ev.now _) (ev_pos (by simp; omega) (ev_some ?_))))))
    simp [insK]
  | cons q t ih =>
    intro pre h
    have hm : ((pre.length : Nat) : Int) < (x0.length : Int) := by rw [h]; exact lt_mid
    have hg : rdOf ByteArray.empty x0 (pre.length : Int) = q := by rw [h]; exact rdOf_mid
    refine ev_succ ?_
    simp only [spec_l1PutS.l0, hg]
    refine ev_pos hm (ev_pos (by omega) ?_)
    unfold insK
    by_cases c : lessS q s = true
    · refine ev_pos c ?_
      rw [winc (by omega), if_pos c]
      have := ih (pre ++ [q]) (by rw [h]; simp)
      rw [len_one] at this
      simpa using this
    · refine ev_neg c ?_
      rw [if_neg c]
      by_cases d : q = s
      · refine ev_pos (tl_inj.2 d) (ev_some ?_)
        rw [if_pos d, h]
      · refine ev_neg (fun e => d (tl_inj.1 e)) (ev_bind _ (Ev.now _) (ev_pos (by omega) (ev_bind _ (Ev.now _) ?_)))
        have et : x0.take pre.length = pre := by rw [h]; simp
        have ed : x0.drop pre.length = q :: t := by rw [h]; simp
        have hl : x0.length = pre.length + (t.length + 1) := by rw [h]; simp
        rw [Int.toNat_natCast, et, ed, List.nil_append, if_neg d]
        refine ev_pos (by simp; omega) (ev_bind _ (Ev.now _) (ev_pos (by omega) (ev_bind _ (Ev.now _) (ev_bind _ (Ev.now _) (ev_pos (by simp; omega) (ev_some ?_))))))
        simp
theorem putS_f (l : List ByteArray) (s : ByteArray) (h : l.length ≤ 1000000) : Ev (fun k => spec_l1PutS.f k l s) (insK s l) := putS_l0 l s h l [] rfl
def Kys (m : Nat) (l : List ByteArray) : Prop := l.length ≤ m ∧ ∀ s ∈ l, s.size ≤ 13
theorem Kys.ins {m : Nat} {l : List ByteArray} (h : Kys m l) {s : ByteArray} (hs : s.size ≤ 13) : Kys (m + 1) (insK s l) :=
  ⟨by have := insK_len s l; have := h.1; omega, fun x hx => by exact (insK_mem s l x hx).elim (fun e => e ▸ hs) (h.2 x)⟩
theorem Kys.one {m : Nat} {l : List ByteArray} (h : Kys m l) {s : ByteArray} (hs : s.size ≤ 13) : Kys (m + 1) (l ++ [s]) :=
  ⟨by have := h.1; simp; omega, fun x hx => by exact (List.mem_append.1 hx).elim (h.2 x) (fun e => List.mem_singleton.1 e ▸ hs)⟩
theorem Kys.mono {m m' : Nat} {l : List ByteArray} (h : Kys m l) (hm : m ≤ m') : Kys m' l := ⟨Nat.le_trans h.1 hm, h.2⟩
theorem keys_l0 {s : List Int} (hs : Bys s) : ∀ (n m : Nat) (x : List ByteArray) (p sd : Int), Kys m x → m + n ≤ 1000 → 0 ≤ p → p + 12 * (n : Int) ≤ 500000000000000000 →
    Dr (fun k => spec_l1Cur_keys.l0 k x (n : Int) s p sd) p (12 * (n : Int)) (Kys (m + n)) := by
  intro n
  induction n with
  | zero =>
    intro m x p sd hx hm h0 h1
    refine ⟨x, p, sd, ev_succ ?_, hx, h0, by omega⟩
    simp only [spec_l1Cur_keys.l0]
    exact ev_neg (by omega) (Ev.now _)
  | succ n ih =>
    intro m x p sd hx hm h0 h1
    obtain ⟨v, p', sd', e, hv, q0, q1⟩ := key_ok hs sd h0 (by omega)
    have hl := hx.1
    obtain ⟨u, p2, sd2, eu, hu, r0, r1⟩ := ih (m + 1) (insK v x) p' sd' (hx.ins (by omega)) (by omega) q0 (by omega)
    refine ⟨u, p2, sd2, ev_succ ?_, hu.mono (by omega), r0, by omega⟩
    simp only [spec_l1Cur_keys.l0]
    refine ev_pos (by omega) (ev_bind _ e (ev_bind _ (putS_f x v (by omega)) ?_))
    rw [wdec (by omega)]
    exact eu
theorem keys_ok {s : List Int} (hs : Bys s) {p : Int} (sd : Int) {n : Nat} (hn : n ≤ 100) (h0 : 0 ≤ p) (h1 : p ≤ 400000000000000000) : Dr (fun k => spec_l1Cur_keys.f k s p sd (n : Int)) p (12 * (n : Int) + 2) (Kys n) := by
  obtain ⟨v, p', sd', e, hv, q0, q1⟩ := pick_ok hs sd (n := (n : Int) + 1) h0 (by omega)
  obtain ⟨u, p2, sd2, eu, hu, r0, r1⟩ := keys_l0 hs v.toNat 0 [] p' sd' ⟨by simp, by simp⟩ (by omega) q0 (by omega)
  refine ⟨u, p2, sd2, ?_, hu.mono (by omega), r0, by omega⟩
  unfold spec_l1Cur_keys.f
  rw [w64 (x := (n : Int) + 1) (by omega) (by omega), e]
  refine ev_bind _ (Ev.now _) ?_
  rw [show ((v.toNat : Nat) : Int) = v from by omega] at eu
  exact eu
end Go.Proofs.YthkcgimnagpmaaaQ
namespace Go.Proofs.YthkcgimnagpmaaaQ
open Go Go.RowKit Go.Proofs.YthkcgimnagpmaaaW.PrintWords Go.Proofs.YthkcgimnagpmaaaGp Go.Proofs.Ythkcgimnagpmaaa.PA

theorem Dr.mono {α : Type} {g : Nat → Option (α × Int × Int)} {p c c' : Int} {P P' : α → Prop} (h : Dr g p c P) (hc : c ≤ c') (hP : ∀ x, P x → P' x) : Dr g p c' P' := by
  obtain ⟨v, p', sd', e, hv, q0, q1⟩ := h
  exact ⟨v, p', sd', e, hP v hv, q0, by omega⟩
theorem big_f {l0 l1 : List Int} (h0 : l0.length ≤ maxLen) (h1 : l1.length ≤ maxLen) : ∃ b, laws_big.f l0 l1 = some b ∧ (b = false → (l0.length : Int) ≤ 1048576 ∧ (l1.length : Int) ≤ 1048576) := by
  rw [maxLen_eq] at h0 h1
  unfold laws_big.f
  by_cases c : (l0.length : Int) > 1048576
  · exact ⟨true, if_pos c, by simp⟩
  · refine ⟨_, if_neg c, fun h => ?_⟩
    rw [decide_eq_false_iff_not, w64 (by omega) (by omega)] at h
    omega
theorem bys {l : List Int} (h : (l.length : Int) ≤ 1048576) (hw : ∀ x ∈ l, (Lit.int .u8 x).wf = true) : Bys l := by
  refine ⟨h, fun x hx => ?_⟩
  have := hw x hx
  simp only [Lit.wf, Bool.and_eq_true, decide_eq_true_eq] at this
  exact this
end Go.Proofs.YthkcgimnagpmaaaQ
namespace Go.Proofs.YthkcgimnagpmaaaQ
open Go Go.RowKit Go.Proofs.YthkcgimnagpmaaaW.PrintWords Go.Proofs.YthkcgimnagpmaaaGp Go.Proofs.Ythkcgimnagpmaaa.PA

def isEdgeB (P : Int) (e : List Int) : Bool := decide (e.length = 3) && decide (0 ≤ rd e 0) && decide (rd e 0 < rd e 1) && decide (rd e 1 < rd e 2) && decide (rd e 2 < P)
def goodB (P : Int) (E : Edges) : Bool := decide (1 ≤ P ∧ P ≤ 72) && decide (E.length ≤ 40) && E.all (isEdgeB P)
theorem impl_isEdge_f (e : List Int) (P : Int) : impl_isEdge.f e P = some (isEdgeB P e) := by
  unfold impl_isEdge.f isEdgeB
  by_cases c : e.length = 3
  · rw [if_pos (by omega), if_pos (by omega), decide_eq_true c]
    by_cases c0 : rd e 0 ≥ 0
    · rw [if_pos c0, if_pos (by omega), decide_eq_true c0]
      by_cases c1 : rd e 0 < rd e 1
      · rw [if_pos c1, if_pos (by omega), decide_eq_true c1]
        by_cases c2 : rd e 1 < rd e 2
        · rw [if_pos c2, decide_eq_true c2]; simp
        · rw [if_neg c2, decide_eq_false c2]; simp
      · rw [if_neg c1, decide_eq_false c1]; simp
    · rw [if_neg c0, decide_eq_false c0]; simp
  · rw [if_neg (by omega), decide_eq_false c]; simp
theorem isEdgeB_ok {P : Int} {e : List Int} (h : isEdgeB P e = true) : e.length ≤ 3 ∧ ∀ p ∈ e, 0 ≤ p ∧ p < P := by
  unfold isEdgeB at h
  simp only [Bool.and_eq_true, decide_eq_true_eq] at h
  obtain ⟨⟨⟨⟨h1, h2⟩, h3⟩, h4⟩, h5⟩ := h
  match e, h1 with
  | [a, b, c], _ =>
    simp only [rd] at h2 h3 h4 h5
    change 0 ≤ a at h2
    change a < b at h3
    change b < c at h4
    change c < P at h5
    refine ⟨by simp, fun p hp => ?_⟩
    simp only [List.mem_cons, List.not_mem_nil, or_false] at hp
    omega
theorem goodB_ok {P : Int} {E : Edges} (h : goodB P E = true) : GoodH P.toNat E ∧ (P.toNat : Int) = P ∧ E.length ≤ 40 ∧ P ≤ 72 := by
  unfold goodB at h
  simp only [Bool.and_eq_true, decide_eq_true_eq, List.all_eq_true] at h
  obtain ⟨⟨h1, h2⟩, h3⟩ := h
  refine ⟨⟨fun e he p hp => ?_, by omega, fun e he => (isEdgeB_ok (h3 e he)).1, by omega⟩, by omega, h2, h1.2⟩
  have := (isEdgeB_ok (h3 e he)).2 p hp
  omega
theorem impl_IsHyper_l0 (P : Int) (E : Edges) (x0 : List (List Int)) (hl : (x0.length : Int) ≤ 9223372036854775806) : ∀ (t pre : List (List Int)), x0 = pre ++ t →
    ∃ r, Ev (fun k => slices_IndexFunc_int_int_at_impl_IsHyper_1.l0 k x0 (x0.length : Int) (pre.length : Int) P E) r ∧ decide (r ≥ 0) = !(t.all (isEdgeB P)) := by
  intro t
  induction t with
  | nil =>
    intro pre h
    refine ⟨-1, ev_succ ?_, by simp⟩
    simp only [slices_IndexFunc_int_int_at_impl_IsHyper_1.l0]
    exact ev_neg (by rw [h]; exact not_lt_end) (Ev.now _)
  | cons x t ih =>
    intro pre h
    have hm : ((pre.length : Nat) : Int) < (x0.length : Int) := by rw [h]; exact lt_mid
    have hg : rd_L2 x0 (pre.length : Int) = x := by simp [rd_L2, h]
    have e1 : impl_IsHyper_1.f x P E = some (!(isEdgeB P x)) := by unfold impl_IsHyper_1.f; rw [impl_isEdge_f]; rfl
    by_cases c : isEdgeB P x = true
    · obtain ⟨r, h1, h2⟩ := ih (pre ++ [x]) (by rw [h]; simp)
      rw [len_one] at h1
      refine ⟨r, ev_succ ?_, by rw [h2]; simp [c]⟩
      simp only [slices_IndexFunc_int_int_at_impl_IsHyper_1.l0, hg, e1]
      rw [c, winc (by omega)]
      exact ev_pos hm (ev_pos (by omega) (ev_pos hm (ev_bind _ (Ev.now _) (ev_neg (by simp) h1))))
    · refine ⟨(pre.length : Int), ev_succ ?_, by simp [c]⟩
      simp only [slices_IndexFunc_int_int_at_impl_IsHyper_1.l0, hg, e1]
      rw [Bool.eq_false_iff.2 c]
      exact ev_pos hm (ev_pos (by omega) (ev_pos hm (ev_bind _ (Ev.now _) (ev_pos (by simp) (Ev.now _)))))
theorem impl_IsHyper_f (P : Int) (E : Edges) (hl : (E.length : Int) ≤ 9223372036854775806) : Ev (fun k => impl_IsHyper.f k P E) (goodB P E) := by
  obtain ⟨r, h1, h2⟩ := impl_IsHyper_l0 P E E hl E [] rfl
  unfold impl_IsHyper.f slices_ContainsFunc_int_int_at_impl_IsHyper_1.f slices_IndexFunc_int_int_at_impl_IsHyper_1.f goodB
  rw [impl_in]
  refine ev_bind _ (ev_bind _ h1 (ev_some h2)) ?_
  by_cases c : E.all (isEdgeB P) = true
  · rw [c]
    refine ev_neg (by simp) (ev_bind _ (Ev.now _) ?_)
    by_cases d : 1 ≤ P ∧ P ≤ 72
    · rw [decide_eq_true d]
      refine ev_pos rfl (ev_some ?_)
      rw [Bool.true_and, Bool.and_true, decide_eq_decide]
      omega
    · rw [decide_eq_false d]
      exact ev_neg (by simp) (Ev.now _)
  · rw [Bool.eq_false_iff.2 c]
    exact ev_pos (by simp) (ev_some (by simp))

def hypE (a0 n : Int) (l : List ByteArray) : Edges := l.map fun s => tripL a0 s n 3 0
theorem hypE_len (a0 n : Int) (l : List ByteArray) : (hypE a0 n l).length = l.length := by simp [hypE]
theorem hypE_app (a0 n : Int) (l : List ByteArray) (s : ByteArray) : hypE a0 n (l ++ [s]) = hypE a0 n l ++ [tripL a0 s n 3 0] := by simp [hypE]
theorem spec_peHyper_l0 {a0 n : Int} (h0 : 0 ≤ a0) (h0' : a0 ≤ 1000000) (q : Int) {x0 : List ByteArray} (hx : x0.length ≤ 1000) (hz : ∀ s ∈ x0, s.size ≤ 1000) : ∀ (t pre : List ByteArray), x0 = pre ++ t →
    Ev (fun k => spec_peHyper.l0 k a0 n x0 (x0.length : Int) (pre.length : Int) q (hypE a0 n pre)) (q, hypE a0 n x0) := by
  intro t
  induction t with
  | nil =>
    intro pre h
    have hp : x0 = pre := by rw [h, List.append_nil]
    subst hp
    refine ev_succ ?_
    simp only [spec_peHyper.l0]
    exact ev_neg (by omega) (Ev.now _)
  | cons x t ih =>
    intro pre h
    have hm : ((pre.length : Nat) : Int) < (x0.length : Int) := by rw [h]; exact lt_mid
    have hg : rdOf ByteArray.empty x0 (pre.length : Int) = x := by rw [h]; exact rdOf_mid
    have hxs := hz x (by rw [h]; simp)
    refine ev_succ ?_
    simp only [spec_peHyper.l0, hg]
    refine ev_pos hm (ev_pos (by omega) (ev_pos hm (ev_bind _ (spec_peTriple_f a0 n x (by omega) h0 h0') (ev_pos (by rw [hypE_len]; omega) ?_))))
    rw [winc (by omega), ← hypE_app]
    have := ih (pre ++ [x]) (by rw [h]; simp)
    rw [len_one] at this
    exact this
theorem spec_peHyper_f {a0 n : Int} (h0 : 0 ≤ a0) (h0' : a0 ≤ 1000000) (hn : 0 ≤ n) (hn' : n ≤ 1000) {x0 : List ByteArray} (hx : x0.length ≤ 1000) (hz : ∀ s ∈ x0, s.size ≤ 1000) : Ev (fun k => spec_peHyper.f k a0 x0 n) (3 * n, hypE a0 n x0) := by
  unfold spec_peHyper.f
  rw [w64 (by omega) (by omega)]
  exact spec_peHyper_l0 h0 h0' (3 * n) hx hz x0 [] rfl
end Go.Proofs.YthkcgimnagpmaaaQ
namespace Go.Proofs.YthkcgimnagpmaaaQ
open Go Go.RowKit Go.Proofs.YthkcgimnagpmaaaW.PrintWords Go.Proofs.YthkcgimnagpmaaaGp Go.Proofs.Ythkcgimnagpmaaa.PA

def risF (lo hi : Int) : Option Int → List Int → Bool
  | _, [] => true
  | p, x :: t => decide (lo ≤ x ∧ x ≤ hi) && (match p with | none => true | some q => decide (q < x)) && risF lo hi (some x) t
theorem last_int {pre : List Int} (h : 0 < pre.length) : ∃ q p, pre = q ++ [p] := by
  rcases List.eq_nil_or_concat pre with e | ⟨q, p, e⟩
  · rw [e] at h; simp at h
  · exact ⟨q, p, by rw [e]; simp⟩
theorem rd_last {pre t : List Int} {p s : Int} : rd ((pre ++ [p]) ++ s :: t) ((pre.length : Nat) : Int) = p := by simp [rd]
theorem spec_rising_l0 (lo hi : Int) (x0 : List Int) (hl : (x0.length : Int) ≤ 9223372036854775806) : ∀ (t pre : List Int), x0 = pre ++ t →
    Ev (fun k => spec_l1Rising.l0 k x0 lo hi x0 (x0.length : Int) (pre.length : Int)) (risF lo hi pre.getLast? t) := by
  intro t
  induction t with
  | nil =>
    intro pre h
    refine ev_succ ?_
    simp only [spec_l1Rising.l0]
    exact ev_neg (by rw [h]; exact not_lt_end) (ev_some (by simp [risF]))
  | cons x t ih =>
    intro pre h
    have hm : ((pre.length : Nat) : Int) < (x0.length : Int) := by rw [h]; exact lt_mid
    have hg : rd x0 (pre.length : Int) = x := by rw [h]; exact rd_mid
    have next := ih (pre ++ [x]) (by rw [h]; simp)
    rw [len_one, List.getLast?_append, List.getLast?_singleton, Option.some_or] at next
    refine ev_succ ?_
    simp only [spec_l1Rising.l0, hg]
    rw [spec_in]
    refine ev_pos hm (ev_pos (by omega) (ev_pos hm (ev_bind _ (Ev.now _) ?_)))
    rw [winc (by omega)]
    unfold risF
    by_cases c : lo ≤ x ∧ x ≤ hi
    · rw [decide_eq_true c, Bool.true_and]
      refine ev_pos rfl ?_
      by_cases p0 : 0 < pre.length
      · obtain ⟨q, p, rfl⟩ := last_int p0
        have hq : rd x0 (q.length : Int) = p := by rw [h]; exact rd_last
        have hlen : (q ++ [p]).length = q.length + 1 := by simp
        rw [hlen] at hm next ⊢
        rw [List.getLast?_append, List.getLast?_singleton, Option.some_or, wdec (by omega)]
        refine ev_pos (by omega) (ev_pos (by omega) (ev_pos (by omega) ?_))
        rw [hq]
        by_cases d : p < x
        · simp only [decide_eq_true d, Bool.true_and]
          exact ev_neg (by omega) next
        · simp only [decide_eq_false d, Bool.false_and]
          exact ev_pos (by omega) (Ev.now _)
      · have : pre = [] := List.length_eq_zero_iff.1 (by omega)
        subst this
        simp only [List.getLast?_nil, Bool.true_and]
        exact ev_neg (by simp) next
    · rw [decide_eq_false c]
      exact ev_neg (by simp) (ev_some (by simp))
theorem spec_rising_f (lo hi : Int) (l : List Int) (hl : (l.length : Int) ≤ 9223372036854775806) : Ev (fun k => spec_l1Rising.f k l lo hi) (risF lo hi none l) := by
  unfold spec_l1Rising.f
  exact spec_rising_l0 lo hi l hl l [] rfl
theorem ris_edge (P : Int) (e : List Int) (h : e.length = 3) : risF 0 (P - 1) none e = isEdgeB P e := by
  match e, h with
  | [a, b, c], _ =>
    unfold isEdgeB
    simp only [risF, Bool.and_true]
    rw [Bool.eq_iff_iff]
    simp only [Bool.and_eq_true, decide_eq_true_eq]
    have e0 : rd [a, b, c] 0 = a := rfl
    have e1 : rd [a, b, c] 1 = b := rfl
    have e2 : rd [a, b, c] 2 = c := rfl
    have e3 : [a, b, c].length = 3 := rfl
    rw [e0, e1, e2, e3]
    omega
theorem spec_peEdge_f {P : Int} (h1 : 1 ≤ P) (h2 : P ≤ 72) (e : List Int) (hl : (e.length : Int) ≤ 9223372036854775806) : Ev (fun k => spec_peEdge.f k e P) (isEdgeB P e) := by
  unfold spec_peEdge.f
  rw [w64 (by omega) (by omega)]
  by_cases c : e.length = 3
  · refine ev_pos (by omega) ?_
    rw [← ris_edge P e c]
    exact ev_bind _ (spec_rising_f 0 (P - 1) e hl) (Ev.now _)
  · refine ev_neg (by omega) (ev_some ?_)
    unfold isEdgeB
    rw [decide_eq_false c]; rfl
theorem spec_peGood_l0 {P : Int} (h1 : 1 ≤ P) (h2 : P ≤ 72) (E x0 : Edges) (hl : (x0.length : Int) ≤ 9223372036854775806) (hr : ∀ e ∈ x0, (e.length : Int) ≤ 9223372036854775806) : ∀ (t pre : Edges), x0 = pre ++ t →
    Ev (fun k => spec_peGood.l0 k x0 (x0.length : Int) (pre.length : Int) P E) (t.all (isEdgeB P)) := by
  intro t
  induction t with
  | nil =>
    intro pre h
    refine ev_succ ?_
    simp only [spec_peGood.l0]
    exact ev_neg (by rw [h]; exact not_lt_end) (ev_some (by simp))
  | cons x t ih =>
    intro pre h
    have hm : ((pre.length : Nat) : Int) < (x0.length : Int) := by rw [h]; exact lt_mid
    have hg : rd_L2 x0 (pre.length : Int) = x := by simp [rd_L2, h]
    refine ev_succ ?_
    simp only [spec_peGood.l0, hg]
    refine ev_pos hm (ev_pos (by omega) (ev_pos hm (ev_bind _ (spec_peEdge_f h1 h2 x (hr x (by rw [h]; simp))) ?_)))
    rw [winc (by omega)]
    by_cases c : isEdgeB P x = true
    · have := ih (pre ++ [x]) (by rw [h]; simp)
      rw [len_one] at this
      rw [List.all_cons, c]
      exact ev_pos rfl this
    · rw [List.all_cons, Bool.eq_false_iff.2 c]
      exact ev_neg (by simp) (Ev.now _)
theorem spec_peGood_f (P : Int) (E : Edges) (hl : (E.length : Int) ≤ 9223372036854775806) (hr : ∀ e ∈ E, (e.length : Int) ≤ 9223372036854775806) : Ev (fun k => spec_peGood.f k P E) (goodB P E) := by
  unfold spec_peGood.f goodB
  rw [spec_in]
  refine ev_bind _ (Ev.now _) ?_
  by_cases c : 1 ≤ P ∧ P ≤ 72
  · rw [decide_eq_true c]
    refine ev_pos rfl (ev_succ ?_)
    simp only [spec_peGood.j0]
    by_cases d : E.length ≤ 40
    · rw [decide_eq_false (by omega), decide_eq_true d]
      exact ev_neg (by simp) (spec_peGood_l0 c.1 c.2 E E hl hr E [] rfl)
    · rw [decide_eq_true (by omega), decide_eq_false d]
      exact ev_pos rfl (ev_some (by simp))
  · rw [decide_eq_false c]
    refine ev_neg (by simp) (ev_succ ?_)
    simp only [spec_peGood.j0]
    exact ev_pos trivial (ev_some (by simp))

theorem sameInts_l0 (x0 : List Int) (hl : (x0.length : Int) ≤ 9223372036854775806) : ∀ (t pre : List Int), x0 = pre ++ t →
    Ev (fun k => laws_pSameInts.l0 k x0 x0 (x0.length : Int) (pre.length : Int)) true := by
  intro t
  induction t with
  | nil =>
    intro pre h
    refine ev_succ ?_
    simp only [laws_pSameInts.l0]
    exact ev_neg (by rw [h]; exact not_lt_end) (Ev.now _)
  | cons x t ih =>
    intro pre h
    have hm : ((pre.length : Nat) : Int) < (x0.length : Int) := by rw [h]; exact lt_mid
    refine ev_succ ?_
    simp only [laws_pSameInts.l0]
    refine ev_pos hm (ev_pos (by omega) (ev_pos hm (ev_pos hm (ev_pos trivial ?_))))
    rw [winc (by omega)]
    have := ih (pre ++ [x]) (by rw [h]; simp)
    rw [len_one] at this
    exact this
theorem sameInts_f (l : List Int) (hl : (l.length : Int) ≤ 9223372036854775806) : Ev (fun k => laws_pSameInts.f k l l) true := by
  unfold laws_pSameInts.f
  exact ev_pos rfl (sameInts_l0 l hl l [] rfl)
end Go.Proofs.YthkcgimnagpmaaaQ
namespace Go.Proofs.YthkcgimnagpmaaaQ
open Go Go.RowKit Go.Proofs.YthkcgimnagpmaaaW.PrintWords Go.Proofs.YthkcgimnagpmaaaGp Go.Proofs.Ythkcgimnagpmaaa.PA

def insI (s : Int) : List Int → List Int
  | [] => [s]
  | q :: t => if q < s then q :: insI s t else if q = s then q :: t else s :: q :: t
theorem insI_len (s : Int) : ∀ l, (insI s l).length ≤ l.length + 1
  | [] => by simp [insI]
  | q :: t => by
    have := insI_len s t
    unfold insI
    split
    · simp; omega
    · split <;> simp
theorem put_l0 (x0 : List Int) (s : Int) (hx : x0.length ≤ 1000000) : ∀ (t pre : List Int), x0 = pre ++ t →
    Ev (fun k => spec_l1Put.l0 k x0 s (pre.length : Int)) (pre ++ insI s t) := by
  intro t
  induction t with
  | nil =>
    intro pre h
    have hp : x0 = pre := by rw [h, List.append_nil]
    subst hp
    refine ev_succ ?_
    simp only [spec_l1Put.l0]
    refine ev_neg (by omega) (ev_bind _ (Ev.now _) (ev_pos (by omega) (ev_pos (by omega) (ev_bind _ (Ev.now _) ?_))))
    rw [Int.toNat_natCast, List.take_length, List.nil_append]
    refine ev_pos (by simp; omega) (ev_bind _ (Ev.now _) (ev_pos (by omega) (ev_bind _ (Ev.now _) (ev_bind _ (Ev.now _) (ev_pos (by simp; omega) (ev_some ?_))))))
    simp [insI]
  | cons q t ih =>
    intro pre h
    have hm : ((pre.length : Nat) : Int) < (x0.length : Int) := by rw [h]; exact lt_mid
    have hg : rd x0 (pre.length : Int) = q := by rw [h]; exact rd_mid
    refine ev_succ ?_
    simp only [spec_l1Put.l0, hg]
    refine ev_pos hm (ev_pos (by omega) ?_)
    unfold insI
    by_cases c : q < s
    · refine ev_pos c ?_
      rw [winc (by omega), if_pos c]
      have := ih (pre ++ [q]) (by rw [h]; simp)
      rw [len_one] at this
      simpa using this
    · refine ev_neg c ?_
      rw [if_neg c]
      by_cases d : q = s
      · refine ev_pos d (ev_some ?_)
        rw [if_pos d, h]
      · refine ev_neg d (ev_bind _ (Ev.now _) (ev_pos (by omega) (ev_bind _ (Ev.now _) ?_)))
        have et : x0.take pre.length = pre := by rw [h]; simp
        have ed : x0.drop pre.length = q :: t := by rw [h]; simp
        have hl : x0.length = pre.length + (t.length + 1) := by rw [h]; simp
        rw [Int.toNat_natCast, et, ed, List.nil_append, if_neg d]
        refine ev_pos (by simp; omega) (ev_bind _ (Ev.now _) (ev_pos (by omega) (ev_bind _ (Ev.now _) (ev_bind _ (Ev.now _) (ev_pos (by simp; omega) (ev_some ?_))))))
        simp
theorem put_f (l : List Int) (s : Int) (h : l.length ≤ 1000000) : Ev (fun k => spec_l1Put.f k l s) (insI s l) := put_l0 l s h l [] rfl
theorem edge_l0 {s : List Int} (hs : Bys s) (P : Int) : ∀ (d i : Nat) (x : List Int) (p sd : Int), i + d = 5 → x.length ≤ i → 0 ≤ p → p + 2 * (d : Int) ≤ 1000000000000000000 →
    Dr (fun k => spec_l1Cur_edge.l0 k P x (i : Int) s p sd) p (2 * (d : Int)) (fun v => v.length ≤ 5) := by
  intro d
  induction d with
  | zero =>
    intro i x p sd hi hx h0 h1
    refine ⟨x, p, sd, ev_succ ?_, by omega, h0, by omega⟩
    simp only [spec_l1Cur_edge.l0]
    refine ev_neg (by omega) (ev_succ ?_)
    simp only [spec_l1Cur_edge.j1]
    exact ev_neg (by simp) (Ev.now _)
  | succ d ih =>
    intro i x p sd hi hx h0 h1
    by_cases c : (x.length : Int) < 3
    · obtain ⟨v, p', sd', e, hv, q0, q1⟩ := pick_ok hs sd (n := if P > 1 then P else 1) h0 (by omega)
      have hl := insI_len v x
      obtain ⟨u, p2, sd2, eu, hu, r0, r1⟩ := ih (i + 1) (insI v x) p' sd' (by omega) (by omega) q0 (by omega)
      refine ⟨u, p2, sd2, ev_succ ?_, hu, r0, by omega⟩
      simp only [spec_l1Cur_edge.l0]
      rw [decide_eq_true c]
      refine ev_pos (by omega) (ev_succ ?_)
      simp only [spec_l1Cur_edge.j1, spec_l1Most.f]
      refine ev_pos trivial (ev_bind (if P > 1 then P else 1) ?_ ?_)
      · split <;> exact Ev.now _
      · rw [e]
        refine ev_bind _ (Ev.now _) (ev_bind _ (put_f x v (by omega)) ?_)
        rw [winc (by omega)]
        exact eu
    · refine ⟨x, p, sd, ev_succ ?_, by omega, h0, by omega⟩
      simp only [spec_l1Cur_edge.l0]
      rw [decide_eq_false c]
      refine ev_pos (by omega) (ev_succ ?_)
      simp only [spec_l1Cur_edge.j1]
      exact ev_neg (by simp) (Ev.now _)
theorem edge_ok {s : List Int} (hs : Bys s) (P : Int) {p : Int} (sd : Int) (h0 : 0 ≤ p) (h1 : p ≤ 900000000000000000) : Dr (fun k => spec_l1Cur_edge.f k s p sd P) p 10 (fun v => v.length ≤ 5) := by
  unfold spec_l1Cur_edge.f
  have := edge_l0 hs P 5 0 [] p sd rfl (by simp) h0 (by omega)
  exact this
def DrH (g : Nat → Option (Int × Edges × Int × Int)) (p c : Int) : Prop := ∃ P E p' sd', Ev g (P, E, p', sd') ∧ ((E : Edges).length ≤ 100 ∧ ∀ e ∈ E, e.length ≤ 5) ∧ 0 ≤ p' ∧ p' ≤ p + c
theorem hyper_l0 {s : List Int} (hs : Bys s) : ∀ (d : Nat) (p sd P : Int) (E : Edges), E.length + d ≤ 100 → (∀ e ∈ E, e.length ≤ 5) → 0 ≤ p → p + 12 * (d : Int) ≤ 800000000000000000 →
    DrH (fun k => spec_l1Cur_hyper.l0 k (d : Int) s p sd P E) p (12 * (d : Int) + 4) := by
  intro d
  induction d with
  | zero =>
    intro p sd P E hE hE5 h0 h1
    obtain ⟨v, p', sd', e, q0, q1⟩ := one_ok hs sd 14 h0 (by omega)
    by_cases c : v = true
    · obtain ⟨u, p2, sd2, eu, hu, r0, r1⟩ := among_ok hs sd' (l := [(-1), 0, 2, 5, 72, 73]) (by simp) q0 (by omega)
      refine ⟨u, E, p2, sd2, ev_succ ?_, ⟨by omega, hE5⟩, r0, by omega⟩
      simp only [spec_l1Cur_hyper.l0, e]
      refine ev_neg (by omega) (ev_bind _ (Ev.now _) (ev_pos c ?_))
      simp only [eu]
      exact ev_bind _ (Ev.now _) (Ev.now _)
    · refine ⟨P, E, p', sd', ev_succ ?_, ⟨by omega, hE5⟩, q0, by omega⟩
      simp only [spec_l1Cur_hyper.l0, e]
      exact ev_neg (by omega) (ev_bind _ (Ev.now _) (ev_neg c (Ev.now _)))
  | succ d ih =>
    intro p sd P E hE hE5 h0 h1
    obtain ⟨v, p', sd', e, hv, q0, q1⟩ := edge_ok hs P sd h0 (by omega)
    have hE6 : ∀ e ∈ E ++ [v], e.length ≤ 5 := fun e he => (List.mem_append.1 he).elim (hE5 e) (fun h => List.mem_singleton.1 h ▸ hv)
    by_cases c : (v.length : Int) = 3
    · obtain ⟨P2, E2, p2, sd2, e2, h2, r0, r1⟩ := ih p' sd' P (E ++ [v]) (by simp; omega) hE6 q0 (by omega)
      refine ⟨P2, E2, p2, sd2, ev_succ ?_, h2, r0, by omega⟩
      simp only [spec_l1Cur_hyper.l0]
      refine ev_pos (by omega) (ev_bind _ e (ev_pos c (ev_pos (by omega) ?_)))
      rw [wdec (by omega)]
      exact e2
    · obtain ⟨b, p1, sd1, e1, t0, t1⟩ := one_ok hs sd' 8 q0 (by omega)
      by_cases cb : b = true
      · obtain ⟨P2, E2, p2, sd2, e2, h2, r0, r1⟩ := ih p1 sd1 P (E ++ [v]) (by simp; omega) hE6 t0 (by omega)
        refine ⟨P2, E2, p2, sd2, ev_succ ?_, h2, r0, by omega⟩
        simp only [spec_l1Cur_hyper.l0]
        refine ev_pos (by omega) (ev_bind _ e (ev_neg c ?_))
        simp only [e1]
        refine ev_bind _ (Ev.now _) (ev_pos cb (ev_pos (by omega) ?_))
        rw [wdec (by omega)]
        exact e2
      · obtain ⟨P2, E2, p2, sd2, e2, h2, r0, r1⟩ := ih p1 sd1 P E (by omega) hE5 t0 (by omega)
        refine ⟨P2, E2, p2, sd2, ev_succ ?_, h2, r0, by omega⟩
        simp only [spec_l1Cur_hyper.l0]
        refine ev_pos (by omega) (ev_bind _ e (ev_neg c ?_))
        simp only [e1]
        refine ev_bind _ (Ev.now _) (ev_neg cb ?_)
        rw [wdec (by omega)]
        exact e2
theorem hyper_ok {s : List Int} (hs : Bys s) {p : Int} (sd : Int) (h0 : 0 ≤ p) (h1 : p ≤ 100000000000000000) : DrH (fun k => spec_l1Cur_hyper.f k s p sd) p 700 := by
  obtain ⟨b, p1, sd1, e1, q0, q1⟩ := one_ok hs sd 4 h0 (by omega)
  unfold spec_l1Cur_hyper.f
  rw [e1]
  by_cases c : b = true
  · obtain ⟨a, p2, sd2, e2, ha, r0, r1⟩ := pick_ok hs sd1 (n := 20) q0 (by omega)
    obtain ⟨ks, p3, sd3, e3, hk, s0, s1⟩ := keys_ok hs sd2 (n := 10) (by omega) r0 (by omega)
    obtain ⟨n, p4, sd4, e4, hn, t0, t1⟩ := pick_ok hs sd3 (n := 6) s0 (by omega)
    have hh := spec_peHyper_f (a0 := a) (n := 1 + n) (by omega) (by omega) (by omega) (by omega) (x0 := ks) (by have := hk.1; omega) (fun s hs => by have := hk.2 s hs; omega)
    refine ⟨3 * (1 + n), hypE a (1 + n) ks, p4, sd4, ev_bind _ (Ev.now _) (ev_pos c ?_), ⟨by rw [hypE_len]; have := hk.1; omega, fun e he => by simp only [hypE, List.mem_map] at he; obtain ⟨s, _, rfl⟩ := he; simp [tripL]⟩, t0, by omega⟩
    simp only [e2]
    refine ev_bind _ (Ev.now _) (ev_bind _ e3 ?_)
    simp only [e4]
    refine ev_bind _ (Ev.now _) ?_
    simp only []
    rw [w64 (by omega) (by omega)]
    exact ev_bind _ hh (Ev.now _)
  · obtain ⟨a, p2, sd2, e2, ha, r0, r1⟩ := pick_ok hs sd1 (n := 8) q0 (by omega)
    obtain ⟨n, p3, sd3, e3, hn, s0, s1⟩ := pick_ok hs sd2 (n := 8) r0 (by omega)
    obtain ⟨b2, p4, sd4, e4, t0, t1⟩ := one_ok hs sd3 24 s0 (by omega)
    by_cases c2 : b2 = true
    · obtain ⟨m, p5, sd5, e5, hm, u0, u1⟩ := pick_ok hs sd4 (n := 2) t0 (by omega)
      obtain ⟨P2, E2, p6, sd6, e6, h6, v0, v1⟩ := hyper_l0 hs (40 + m.toNat) p5 sd5 72 [] (by simp; omega) (by simp) u0 (by omega)
      refine ⟨P2, E2, p6, sd6, ev_bind _ (Ev.now _) (ev_neg c ?_), h6, v0, by omega⟩
      simp only [e2]
      refine ev_bind _ (Ev.now _) ?_
      simp only [e3]
      refine ev_bind _ (Ev.now _) ?_
      simp only [e4]
      refine ev_bind _ (Ev.now _) (ev_pos c2 ?_)
      simp only [e5]
      refine ev_bind _ (Ev.now _) (ev_succ ?_)
      simp only [spec_l1Cur_hyper.j0]
      rw [w64 (by omega) (by omega), show 40 + m = ((40 + m.toNat : Nat) : Int) from by omega]
      exact e6
    · obtain ⟨P2, E2, p6, sd6, e6, h6, v0, v1⟩ := hyper_l0 hs n.toNat p4 sd4 (wrap64 (3 + a)) [] (by simp; omega) (by simp) t0 (by omega)
      refine ⟨P2, E2, p6, sd6, ev_bind _ (Ev.now _) (ev_neg c ?_), h6, v0, by omega⟩
      simp only [e2]
      refine ev_bind _ (Ev.now _) ?_
      simp only [e3]
      refine ev_bind _ (Ev.now _) ?_
      simp only [e4]
      refine ev_bind _ (Ev.now _) (ev_neg c2 (ev_succ ?_))
      simp only [spec_l1Cur_hyper.j0]
      rw [show ((n.toNat : Nat) : Int) = n from by omega] at e6
      exact e6
end Go.Proofs.YthkcgimnagpmaaaQ
namespace Go.Proofs.YthkcgimnagpmaaaQ
open Go Go.RowKit

def cutB (E : Edges) (L : List Nat) (i : Nat) : Bool := (edg E i).any fun p => degOf E L p == 1
def layerE (E : Edges) (L : List Nat) : List Nat := L.filter (cutB E L)
def restE (E : Edges) (L : List Nat) : List Nat := L.filter fun i => !(cutB E L i)
def layersE (E : Edges) : Nat → List Nat → List (List Nat) × List Nat
  | 0, L => ([], L)
  | d + 1, L => if layerE E L = [] then ([], L) else (layerE E L :: (layersE E d (restE E L)).1, (layersE E d (restE E L)).2)
theorem cutB_iff {E : Edges} {L : List Nat} {i : Nat} : cutB E L i = true ↔ ∃ p ∈ edg E i, degOf E L p = 1 := by simp [cutB]
theorem layer_nil {E : Edges} {L : List Nat} : layerE E L = [] ↔ Stable E L := by
  unfold layerE
  rw [List.filter_eq_nil_iff]
  constructor
  · intro h p hp
    obtain ⟨i, hi, hpi⟩ := degOf_pos (E := E) (L := L) (p := p) (by omega)
    exact h i hi (cutB_iff.2 ⟨p, hpi, hp⟩)
  · intro h i hi hc
    obtain ⟨p, _, hp⟩ := cutB_iff.1 hc
    exact h p hp
theorem layer_rest (E : Edges) (L : List Nat) : (layerE E L ++ restE E L).Perm L := List.filter_append_perm _ _
theorem layer_rest_len (E : Edges) (L : List Nat) : (layerE E L).length + (restE E L).length = L.length := by
  have := (layer_rest E L).length_eq
  rwa [List.length_append] at this
theorem rest_sub (E : Edges) (L : List Nat) : (restE E L).Sublist L := List.filter_sublist
theorem layer_sub (E : Edges) (L : List Nat) : (layerE E L).Sublist L := List.filter_sublist
theorem rest_stable {E : Edges} {S L : List Nat} (hS : Stable E S) (hs : S.Sublist L) : S.Sublist (restE E L) := by
  have e : S.filter (fun i => !(cutB E L i)) = S := List.filter_eq_self.2 fun i hi => by
    rw [Bool.not_eq_true', Bool.eq_false_iff]
    intro hc
    obtain ⟨p, hp, hd⟩ := cutB_iff.1 hc
    have a := degOf_mem hi hp
    have b := degOf_sub (E := E) hs p
    exact hS p (by omega)
  rw [← e]
  exact hs.filter _
theorem layersE_stop {E : Edges} {L : List Nat} (h : layerE E L = []) : ∀ d, layersE E d L = ([], L)
  | 0 => rfl
  | _ + 1 => if_pos h
theorem layersE_go {E : Edges} {L : List Nat} {d : Nat} (h : layerE E L ≠ []) : layersE E (d + 1) L = (layerE E L :: (layersE E d (restE E L)).1, (layersE E d (restE E L)).2) := if_neg h
theorem layersE_stable {E : Edges} {S : List Nat} (hS : Stable E S) : ∀ (d : Nat) (L : List Nat), S.Sublist L → S.Sublist (layersE E d L).2
  | 0, L, h => h
  | d + 1, L, hs => by
    by_cases c : layerE E L = []
    · rw [layersE_stop c]; exact hs
    · rw [layersE_go c]; exact layersE_stable hS d _ (rest_stable hS hs)
theorem layersE_sub {E : Edges} : ∀ (d : Nat) (L : List Nat), (layersE E d L).2.Sublist L
  | 0, L => List.Sublist.refl _
  | d + 1, L => by
    by_cases c : layerE E L = []
    · rw [layersE_stop c]; exact List.Sublist.refl _
    · rw [layersE_go c]; exact (layersE_sub d _).trans (rest_sub E L)
theorem layersE_end {E : Edges} : ∀ (d : Nat) (L : List Nat), L.length ≤ d → Stable E (layersE E d L).2
  | 0, L, h => by
    have : L = [] := List.length_eq_zero_iff.1 (by omega)
    subst this
    intro p
    change degOf E [] p ≠ 1
    rw [degOf_nil]; omega
  | d + 1, L, h => by
    by_cases c : layerE E L = []
    · rw [layersE_stop c]; exact layer_nil.1 c
    · rw [layersE_go c]
      have := layer_rest_len E L
      have hp := List.length_pos_iff.2 c
      exact layersE_end d _ (by omega)
theorem layersE_perm {E : Edges} : ∀ (d : Nat) (L : List Nat), ((layersE E d L).2 ++ (layersE E d L).1.flatten).Perm L
  | 0, L => by simp [layersE]
  | d + 1, L => by
    by_cases c : layerE E L = []
    · rw [layersE_stop c]; simp
    · rw [layersE_go c]
      have h := layersE_perm (E := E) d (restE E L)
      have h2 := layer_rest E L
      simp only [List.flatten_cons]
      refine List.Perm.trans ?_ ((List.Perm.append_left (layerE E L) h).trans h2)
      rw [← List.append_assoc, ← List.append_assoc]
      exact List.Perm.append_right _ List.perm_append_comm
theorem layersE_ne {E : Edges} : ∀ (d : Nat) (L : List Nat), ∀ l ∈ (layersE E d L).1, l ≠ []
  | 0, L, l, h => by cases h
  | d + 1, L, l, h => by
    by_cases c : layerE E L = []
    · rw [layersE_stop c] at h; cases h
    · rw [layersE_go c] at h
      rcases List.mem_cons.1 h with rfl | h
      · exact c
      · exact layersE_ne d _ l h
theorem layersE_first {E : Edges} {d : Nat} {L : List Nat} (hd : L.length ≤ d) : (layersE E d L).1.headD [] = layerE E L := by
  cases d with
  | zero =>
    have : L = [] := List.length_eq_zero_iff.1 (by omega)
    subst this
    rfl
  | succ d =>
    by_cases c : layerE E L = []
    · rw [layersE_stop c, c]; rfl
    · rw [layersE_go c]; rfl
theorem layers_core {P : Nat} {E : Edges} (hg : goodE P E) : (layersE E E.length (allE E)).2 = coreE P E := by
  have h1 : (layersE E E.length (allE E)).2.Sublist (allE E) := layersE_sub _ _
  have h2 := layersE_end (E := E) E.length (allE E) (by simp [allE])
  have h3 := stable_core (P := P) h2 h1
  have h4 := layersE_stable (core_stable hg) E.length (allE E) core_sub
  exact h3.eq_of_length_le h4.length_le
end Go.Proofs.YthkcgimnagpmaaaQ
namespace Go.Proofs.Ythkcgimnagpmaaa.Pure
open Go Go.RowKit Go.Proofs.YthkcgimnagpmaaaW.PrintWords Go.Proofs.YthkcgimnagpmaaaW.PrintMore Go.Proofs.YthkcgimnagpmaaaGp Go.Proofs.Ythkcgimnagpmaaa.PA Go.Proofs.YthkcgimnagpmaaaQ

theorem impl_own_f {P : Nat} {ps : List Int} {p : Int} (h0 : 0 ≤ p) (h1 : p < (P : Int)) : impl_LayersOf_1.f p (cntL ps P) = some (ps.count p == 1) := by
  unfold impl_LayersOf_1.f
  rw [if_pos h0, if_pos (by rw [cntL_len]; exact h1), cntL_rd ps h0 h1]
  congr 1
  rw [Bool.eq_iff_iff]
  simp only [beq_iff_eq]
  omega
theorem impl_cut_l0 {P : Nat} {ps : List Int} (x0 : List Int) (hl : (x0.length : Int) ≤ 9223372036854775806) (hr : ∀ p ∈ x0, 0 ≤ p ∧ p < (P : Int)) : ∀ (t pre : List Int), x0 = pre ++ t →
    ∃ r, Ev (fun k => slices_IndexFunc_int_int_at_impl_LayersOf_1.l0 k x0 (x0.length : Int) (pre.length : Int) (cntL ps P)) r ∧ decide (r ≥ 0) = t.any fun p => ps.count p == 1 := by
  intro t
  induction t with
  | nil =>
    intro pre h
    refine ⟨-1, ev_succ ?_, by simp⟩
    simp only [slices_IndexFunc_int_int_at_impl_LayersOf_1.l0]
    exact ev_neg (by rw [h]; exact not_lt_end) (Ev.now _)
  | cons x t ih =>
    intro pre h
    have hm : ((pre.length : Nat) : Int) < (x0.length : Int) := by rw [h]; exact lt_mid
    have hg : rd x0 (pre.length : Int) = x := by rw [h]; exact rd_mid
    obtain ⟨q0, q1⟩ := hr x (by rw [h]; simp)
    have e1 := impl_own_f (ps := ps) q0 q1
    by_cases c : (ps.count x == 1) = true
    · rw [c] at e1
      refine ⟨(pre.length : Int), ev_succ ?_, by simp only [List.any_cons, c, Bool.true_or]; simp⟩
      simp only [slices_IndexFunc_int_int_at_impl_LayersOf_1.l0, hg, e1]
      exact ev_pos hm (ev_pos (by omega) (ev_pos hm (ev_bind _ (Ev.now _) (ev_pos rfl (Ev.now _)))))
    · obtain ⟨r, h1, h2⟩ := ih (pre ++ [x]) (by rw [h]; simp)
      rw [len_one] at h1
      have c' := Bool.eq_false_iff.2 c
      rw [c'] at e1
      refine ⟨r, ev_succ ?_, by rw [h2]; simp only [List.any_cons, c', Bool.false_or]⟩
      simp only [slices_IndexFunc_int_int_at_impl_LayersOf_1.l0, hg, e1]
      rw [winc (by omega)]
      exact ev_pos hm (ev_pos (by omega) (ev_pos hm (ev_bind _ (Ev.now _) (ev_neg (by simp) h1))))
theorem impl_cut_f {P : Nat} {E : Edges} (hG : GoodH P E) (L : List Nat) (i : Nat) : Ev (fun k => slices_ContainsFunc_int_int_at_impl_LayersOf_1.f k (edg E i) (cntL (plsL E L) P)) (cutB E L i) := by
  obtain ⟨he, hr⟩ := hG.edge i
  obtain ⟨r, h1, h2⟩ := impl_cut_l0 (ps := plsL E L) (edg E i) (by omega) hr (edg E i) [] rfl
  unfold slices_ContainsFunc_int_int_at_impl_LayersOf_1.f slices_IndexFunc_int_int_at_impl_LayersOf_1.f
  refine ev_bind _ h1 (ev_some ?_)
  rw [h2]
  unfold cutB
  congr 1
  funext p
  rw [degOf_pls]
theorem layer_up (E : Edges) (L : List Nat) (i : Nat) : (upTo L (i + 1)).filter (cutB E L) = if i ∈ L ∧ cutB E L i = true then (upTo L i).filter (cutB E L) ++ [i] else (upTo L i).filter (cutB E L) := by
  rw [upTo_succ]
  by_cases c : i ∈ L
  · rw [if_pos c, List.filter_append]
    by_cases d : cutB E L i = true
    · rw [if_pos ⟨c, d⟩]; simp [d]
    · rw [if_neg (fun h => d h.2)]; simp [d]
  · rw [if_neg c, if_neg (fun h => c h.1)]
theorem drops_end {E : Edges} {L : List Nat} : L.filter (fun j => !((layerE E L).contains j)) = restE E L := by
  unfold restE
  refine List.filter_congr fun j hj => ?_
  congr 1
  rw [Bool.eq_iff_iff, List.contains_iff_mem]
  unfold layerE
  rw [List.mem_filter]
  exact ⟨fun h => h.2, fun h => ⟨hj, h⟩⟩
theorem impl_gone_l2 {n : Nat} {P : Int} {E : Edges} {L : List Nat} {acc : List (List Int)} (ha : acc.length ≤ 1000000) (M : List Nat) (hM : ∀ i ∈ M, i < n) (hMl : M.length ≤ 1000) {r : List (List Int) × Bool} (x7 : List Int)
    (H : Ev (fun k => impl_LayersOf.l0 k (acc ++ [x7]) (goneOf n (L.filter fun j => !(M.contains j))) P E) r) : ∀ (t pre : List Nat), M = pre ++ t →
    Ev (fun k => impl_LayersOf.l2 k acc (goneOf n (L.filter fun j => !(pre.contains j))) x7 (castL M) (M.length : Int) (pre.length : Int) P E) r := by
  intro t
  induction t with
  | nil =>
    intro pre h
    have hp : M = pre := by rw [h, List.append_nil]
    subst hp
    refine ev_succ ?_
    simp only [impl_LayersOf.l2]
    exact ev_neg (by omega) (ev_pos (by omega) H)
  | cons j t ih =>
    intro pre h
    have hm : ((pre.length : Nat) : Int) < (M.length : Int) := by rw [h]; exact lt_mid
    have hg : rd (castL M) (pre.length : Int) = (j : Int) := by rw [h]; exact rd_castmid
    have hj := hM j (by rw [h]; simp)
    have next := ih (pre ++ [j]) (by rw [h]; simp)
    rw [len_one] at next
    refine ev_succ ?_
    simp only [impl_LayersOf.l2, hg]
    refine ev_pos hm (ev_pos (by omega) (ev_pos (by rw [castL_len]; exact hm) (ev_pos (by omega) (ev_pos (by rw [goneOf_len]; omega) ?_))))
    rw [Int.toNat_natCast, goneOf_set, winc (by omega)]
    have e : dropE (L.filter fun j => !(pre.contains j)) j = L.filter fun i => !((pre ++ [j]).contains i) := by
      unfold dropE
      rw [List.filter_filter]
      refine List.filter_congr fun x _ => ?_
      rw [Bool.eq_iff_iff]
      simp [and_comm]
    rw [e]
    exact next
theorem impl_layers_l1 {P : Nat} {E : Edges} (hG : GoodH P E) {L : List Nat} (hL : Rg E.length L) {acc : List (List Int)} (ha : acc.length ≤ 1000000) {r : List (List Int) × Bool}
    (h0 : layerE E L = [] → r = (acc, true)) (H : layerE E L ≠ [] → Ev (fun k => impl_LayersOf.l0 k (acc ++ [castL (layerE E L)]) (goneOf E.length (restE E L)) (P : Int) E) r) : ∀ (d i : Nat), i + d = E.length →
    Ev (fun k => impl_LayersOf.l1 k acc (goneOf E.length L) (castL ((upTo L i).filter (cutB E L))) E (E.length : Int) (i : Int) (P : Int) E (cntL (plsL E L) P)) r := by
  have hn := hG.len
  intro d
  induction d with
  | zero =>
    intro i h
    have hi : i = E.length := by omega
    have hu : (upTo L i).filter (cutB E L) = layerE E L := by rw [hi, upTo_all hL]; rfl
    rw [hu]
    have hll := (layer_sub E L).length_le
    have hLl := hL.len
    refine ev_succ ?_
    simp only [impl_LayersOf.l1]
    refine ev_neg (by omega) ?_
    rw [castL_len]
    by_cases c : layerE E L = []
    · exact ev_pos (by rw [c]; rfl) (ev_some (h0 c).symm)
    · have hz : ¬ (layerE E L).length = 0 := fun e => c (List.length_eq_zero_iff.1 e)
      refine ev_neg (by omega) ?_
      have := impl_gone_l2 (n := E.length) (P := (P : Int)) (E := E) (L := L) ha (layerE E L) (fun i hi => hL.lt ((layer_sub E L).subset hi)) (by omega) (castL (layerE E L)) (by rw [drops_end]; exact H c) (layerE E L) [] rfl
      have e : L.filter (fun j => !(([] : List Nat).contains j)) = L := List.filter_eq_self.2 fun j _ => by simp
      rw [e] at this
      exact this
  | succ d ih =>
    intro i h
    have next := ih (i + 1) (by omega)
    rw [layer_up] at next
    have hu := upTo_len L i
    have hf := List.length_filter_le (cutB E L) (upTo L i)
    refine ev_succ ?_
    simp only [impl_LayersOf.l1]
    rw [goneOf_rd (by omega), rd_edg, winc (by omega)]
    refine ev_pos (by omega) (ev_pos (by omega) (ev_pos (by omega) (ev_pos (by rw [goneOf_len]; omega) ?_)))
    by_cases c : i ∈ L
    · refine ev_neg (by simp [c]) (ev_bind _ (impl_cut_f hG L i) ?_)
      by_cases e : cutB E L i = true
      · rw [if_pos ⟨c, e⟩, castL_app] at next
        exact ev_pos e (ev_pos (by rw [castL_len]; omega) next)
      · rw [if_neg (fun h => e h.2)] at next
        exact ev_neg e next
    · rw [if_neg (fun h => c h.1)] at next
      exact ev_pos (by simp [c]) next
theorem impl_layers_l0 {P : Nat} {E : Edges} (hG : GoodH P E) : ∀ (d : Nat) (L : List Nat) (acc : List (List Int)), Rg E.length L → L.length ≤ d → acc.length + d ≤ 1000000 →
    Ev (fun k => impl_LayersOf.l0 k acc (goneOf E.length L) (P : Int) E) (acc ++ (layersE E d L).1.map castL, true) := by
  have start : ∀ (L : List Nat) (acc : List (List Int)) (r : List (List Int) × Bool), Rg E.length L → acc.length ≤ 1000000 → (layerE E L = [] → r = (acc, true)) → (layerE E L ≠ [] → Ev (fun k => impl_LayersOf.l0 k (acc ++ [castL (layerE E L)]) (goneOf E.length (restE E L)) (P : Int) E) r) → Ev (fun k => impl_LayersOf.l0 k acc (goneOf E.length L) (P : Int) E) r := by
    intro L acc r hL ha h0 H
    refine ev_succ ?_
    simp only [impl_LayersOf.l0]
    refine ev_bind _ (impl_degrees_f hG hL) ?_
    exact impl_layers_l1 hG hL ha h0 H E.length 0 (by omega)
  intro d
  induction d with
  | zero =>
    intro L acc hL hd ha
    have : L = [] := List.length_eq_zero_iff.1 (by omega)
    subst this
    exact start _ acc _ hL (by omega) (fun _ => by simp [layersE]) (fun h => absurd rfl h)
  | succ d ih =>
    intro L acc hL hd ha
    refine start _ acc _ hL (by omega) (fun h => by rw [layersE_stop h]; simp) (fun h => ?_)
    have h1 := layer_rest_len E L
    have h2 := List.length_pos_iff.2 h
    have := ih (restE E L) (acc ++ [castL (layerE E L)]) ((rest_sub E L).trans hL) (by omega) (by simp; omega)
    rw [List.append_assoc] at this
    rw [layersE_go h]
    exact this
def layV (P : Int) (E : Edges) : List (List Int) × Bool := if goodB P E = true then ((layersE E E.length (allE E)).1.map castL, true) else ([], false)
theorem impl_LayersOf_f (P : Int) (E : Edges) (hE : E.length ≤ 1000) : Ev (fun k => impl_LayersOf.f k P E) (layV P E) := by
  unfold impl_LayersOf.f layV
  refine ev_bind _ (impl_IsHyper_f P E (by omega)) ?_
  by_cases g : goodB P E = true
  · obtain ⟨hG, hP, _, _⟩ := goodB_ok g
    rw [if_pos g]
    simp only [impl_Hyper_none.f]
    refine ev_pos g (ev_bind _ (ev_pos (by omega) (ev_pos (by omega) (Ev.now _))) ?_)
    rw [Int.toNat_natCast, ← goneOf_all]
    have := impl_layers_l0 hG E.length (allE E) [] (Rg.all _) (by simp [allE]) (by simp; omega)
    rw [hP, List.nil_append] at this
    exact this
  · rw [if_neg g]
    exact ev_neg g (Ev.now _)

theorem spec_meet_l0 (fr x0 : List Int) (hf : (fr.length : Int) ≤ 9223372036854775806) (hl : (x0.length : Int) ≤ 9223372036854775806) : ∀ (t pre : List Int), x0 = pre ++ t →
    Ev (fun k => spec_peMeet.l0 k fr x0 (x0.length : Int) (pre.length : Int)) (t.any fun p => fr.contains p) := by
  intro t
  induction t with
  | nil =>
    intro pre h
    refine ev_succ ?_
    simp only [spec_peMeet.l0]
    exact ev_neg (by rw [h]; exact not_lt_end) (ev_some (by simp))
  | cons x t ih =>
    intro pre h
    have hm : ((pre.length : Nat) : Int) < (x0.length : Int) := by rw [h]; exact lt_mid
    have hg : rd x0 (pre.length : Int) = x := by rw [h]; exact rd_mid
    refine ev_succ ?_
    simp only [spec_peMeet.l0, hg]
    refine ev_pos hm (ev_pos (by omega) (ev_pos hm (ev_bind _ (spec_l1Has_f fr x hf) ?_)))
    rw [List.any_cons, winc (by omega)]
    by_cases c : fr.contains x = true
    · rw [c]; exact ev_pos rfl (Ev.now _)
    · rw [Bool.eq_false_iff.2 c, Bool.false_or]
      have := ih (pre ++ [x]) (by rw [h]; simp)
      rw [len_one] at this
      exact ev_neg (by simp) this
theorem spec_meet_f {P : Nat} {E : Edges} (hG : GoodH P E) (L : List Nat) (i : Nat) : Ev (fun k => spec_peMeet.f k (edg E i) (freeL P E L)) (cutB E L i) := by
  obtain ⟨he, hr⟩ := hG.edge i
  have hf := freeL_len P E L
  have hp := hG.plc
  have h := spec_meet_l0 (freeL P E L) (edg E i) (by omega) (by omega) (edg E i) [] rfl
  unfold spec_peMeet.f
  have e : cutB E L i = (edg E i).any fun p => (freeL P E L).contains p := by
    unfold cutB
    rw [Bool.eq_iff_iff, List.any_eq_true, List.any_eq_true]
    refine exists_congr fun p => and_congr_right fun hp => ?_
    rw [List.contains_iff_mem, mem_freeL, beq_iff_eq]
    exact ⟨fun h => ⟨hr p hp, h⟩, fun h => h.2⟩
  rw [e]
  exact h
theorem spec_layers_l1 {P : Nat} {E : Edges} (hG : GoodH P E) {L : List Nat} (hL : Rg E.length L) {acc : List (List Int)} (ha : acc.length ≤ 1000000) {r : List (List Int) × Bool}
    (H : Ev (fun k => spec_LayersOf.l0 k (acc ++ [castL (layerE E L)]) (castL (restE E L)) (P : Int) E) r) : ∀ (t pre : List Nat), L = pre ++ t →
    Ev (fun k => spec_LayersOf.l1 k acc (freeL P E L) (castL (pre.filter (cutB E L))) (castL (pre.filter fun i => !(cutB E L i))) (castL L) (L.length : Int) (pre.length : Int) (P : Int) E) r := by
  have hn := hG.len
  have hLl := hL.len
  intro t
  induction t with
  | nil =>
    intro pre h
    have hp : pre = L := by rw [h, List.append_nil]
    rw [hp]
    refine ev_succ ?_
    simp only [spec_LayersOf.l1]
    exact ev_neg (by omega) (ev_pos (by omega) H)
  | cons j t ih =>
    intro pre h
    have hm : ((pre.length : Nat) : Int) < (L.length : Int) := by rw [h]; exact lt_mid
    have hg : rd (castL L) (pre.length : Int) = (j : Int) := by rw [h]; exact rd_castmid
    have hj := hL.lt (i := j) (by rw [h]; simp)
    have next := ih (pre ++ [j]) (by rw [h]; simp)
    rw [len_one, List.filter_append, List.filter_append] at next
    have h1 := List.length_filter_le (cutB E L) pre
    have h2 := List.length_filter_le (fun i => !(cutB E L i)) pre
    refine ev_succ ?_
    simp only [spec_LayersOf.l1, hg, rd_edg]
    rw [winc (by omega)]
    refine ev_pos hm (ev_pos (by omega) (ev_pos (by rw [castL_len]; exact hm) (ev_pos (by omega) (ev_pos (by omega) (ev_bind _ (spec_meet_f hG L j) ?_)))))
    by_cases c : cutB E L j = true
    · rw [List.filter_cons_of_pos c, List.filter_cons_of_neg (by simp [c]), List.filter_nil, List.filter_nil, List.append_nil, castL_app] at next
      exact ev_pos c (ev_pos (by rw [castL_len]; omega) next)
    · rw [List.filter_cons_of_neg c, List.filter_cons_of_pos (by simp [c]), List.filter_nil, List.filter_nil, List.append_nil, castL_app (pre.filter fun i => !(cutB E L i))] at next
      exact ev_neg c (ev_pos (by rw [castL_len]; omega) next)
theorem spec_layers_l0 {P : Nat} {E : Edges} (hG : GoodH P E) : ∀ (d : Nat) (L : List Nat) (acc : List (List Int)), Rg E.length L → L.length ≤ d → acc.length + d ≤ 1000000 →
    Ev (fun k => spec_LayersOf.l0 k acc (castL L) (P : Int) E) (acc ++ (layersE E d L).1.map castL, true) := by
  have hn := hG.len
  have start : ∀ (L : List Nat) (acc : List (List Int)) (r : List (List Int) × Bool), Rg E.length L → acc.length ≤ 1000000 → (layerE E L = [] → r = (acc, true)) → (layerE E L ≠ [] → Ev (fun k => spec_LayersOf.l0 k (acc ++ [castL (layerE E L)]) (castL (restE E L)) (P : Int) E) r) → Ev (fun k => spec_LayersOf.l0 k acc (castL L) (P : Int) E) r := by
    intro L acc r hL ha h0 H
    have hLl := hL.len
    refine ev_succ ?_
    simp only [spec_LayersOf.l0]
    refine ev_bind _ (spec_free_f hG (fun i hi => hL.lt hi) (by omega)) ?_
    by_cases c : layerE E L = []
    · have hf : freeL P E L = [] := (stable_iff hG.rng).1 (layer_nil.1 c)
      exact ev_pos (by rw [hf]; rfl) (ev_some (h0 c).symm)
    · have hf : ¬ (freeL P E L).length = 0 := fun e => c (layer_nil.2 ((stable_iff hG.rng).2 (List.length_eq_zero_iff.1 e)))
      refine ev_neg (by omega) ?_
      rw [castL_len]
      exact spec_layers_l1 hG hL ha (H c) L [] rfl
  intro d
  induction d with
  | zero =>
    intro L acc hL hd ha
    have : L = [] := List.length_eq_zero_iff.1 (by omega)
    subst this
    exact start _ acc _ hL (by omega) (fun _ => by simp [layersE]) (fun h => absurd rfl h)
  | succ d ih =>
    intro L acc hL hd ha
    refine start _ acc _ hL (by omega) (fun h => by rw [layersE_stop h]; simp) (fun h => ?_)
    have h1 := layer_rest_len E L
    have h2 := List.length_pos_iff.2 h
    have := ih (restE E L) (acc ++ [castL (layerE E L)]) ((rest_sub E L).trans hL) (by omega) (by simp; omega)
    rw [List.append_assoc] at this
    rw [layersE_go h]
    exact this
theorem spec_LayersOf_f (P : Int) (E : Edges) (hE : E.length ≤ 1000) (hr : ∀ e ∈ E, (e.length : Int) ≤ 9223372036854775806) : Ev (fun k => spec_LayersOf.f k P E) (layV P E) := by
  unfold spec_LayersOf.f layV
  refine ev_bind _ (spec_peGood_f P E (by omega) hr) ?_
  by_cases g : goodB P E = true
  · obtain ⟨hG, hP, _, _⟩ := goodB_ok g
    rw [if_pos g]
    refine ev_pos g (ev_bind _ (spec_peAll_f hE P) ?_)
    have := spec_layers_l0 hG E.length (allE E) [] (Rg.all _) (by simp [allE]) (by simp; omega)
    rw [hP, List.nil_append] at this
    exact this
  · rw [if_neg g]
    exact ev_neg g (Ev.now _)

theorem draw_f {s : List Int} (hs : Bys s) : ∃ P E, Ev (fun k => spec_DrawLayersOf.f k s) (P, E) ∧ ((E : Edges).length ≤ 100 ∧ ∀ e ∈ E, e.length ≤ 5) := by
  obtain ⟨P, E, p1, sd1, e1, hE, q0, q1⟩ := hyper_ok hs 0 (p := 0) (by omega) (by omega)
  refine ⟨P, E, ?_, hE⟩
  unfold spec_DrawLayersOf.f
  exact ev_bind _ e1 (Ev.now _)
theorem core_f {P : Int} {E : Edges} (h : goodB P E = true) : Ev (fun k => impl_CoreOf.f k P E) (castL (coreE P.toNat E), true) := by
  obtain ⟨hG, hP, hl, _⟩ := goodB_ok h
  have hg := impl_IsHyper_f P E (by omega)
  rw [h] at hg
  have hp := impl_peel_f hG
  rw [hP] at hp
  unfold impl_CoreOf.f
  exact ev_bind _ hg (ev_pos rfl (ev_bind _ hp (Ev.now _)))
theorem degrees_f {P : Int} {E : Edges} (h : goodB P E = true) : Ev (fun k => impl_HyperDegrees.f k P E) (cntL (plsL E (allE E)) P.toNat, true) := by
  obtain ⟨hG, hP, hl, _⟩ := goodB_ok h
  have hg := impl_IsHyper_f P E (by omega)
  rw [h] at hg
  have hd := impl_degrees_f hG (Rg.all _)
  rw [hP, goneOf_all] at hd
  unfold impl_HyperDegrees.f
  refine ev_bind _ hg (ev_pos rfl ?_)
  simp only [impl_Hyper_none.f]
  refine ev_bind _ (ev_pos (by omega) (ev_pos (by omega) (Ev.now _))) ?_
  rw [Int.toNat_natCast]
  exact ev_bind _ hd (Ev.now _)
theorem has_l0 (x0 : List Int) (a : Int) (hl : (x0.length : Int) ≤ 9223372036854775806) : ∀ (t pre : List Int), x0 = pre ++ t →
    Ev (fun k => laws_pHas.l0 k a x0 (x0.length : Int) (pre.length : Int)) (t.contains a) := by
  intro t
  induction t with
  | nil =>
    intro pre h
    refine ev_succ ?_
    simp only [laws_pHas.l0]
    exact ev_neg (by rw [h]; exact not_lt_end) (ev_some (by simp))
  | cons x t ih =>
    intro pre h
    have hm : ((pre.length : Nat) : Int) < (x0.length : Int) := by rw [h]; exact lt_mid
    have hg : rd x0 (pre.length : Int) = x := by rw [h]; exact rd_mid
    refine ev_succ ?_
    simp only [laws_pHas.l0, hg]
    refine ev_pos hm (ev_pos (by omega) (ev_pos hm ?_))
    by_cases c : x = a
    · exact ev_pos c (ev_some (by simp [c]))
    · refine ev_neg c ?_
      rw [winc (by omega)]
      have := ih (pre ++ [x]) (by rw [h]; simp)
      rw [len_one] at this
      have e : (x :: t).contains a = t.contains a := by simp [Ne.symm c]
      rw [e]
      exact this
theorem has_f (l : List Int) (a : Int) (hl : (l.length : Int) ≤ 9223372036854775806) : Ev (fun k => laws_pHas.f k l a) (l.contains a) := by
  unfold laws_pHas.f
  exact has_l0 l a hl l [] rfl
theorem once_l0 {l : List Int} {n : Nat} (hn : n ≤ 1000) (hl : l.length ≤ 1000) (h : ∀ i : Nat, i < n → (i : Int) ∈ l) : ∀ (d i : Nat), i + d = n →
    Ev (fun k => laws_pAllOnce.l0 k l (n : Int) (i : Int)) true := by
  intro d
  induction d with
  | zero =>
    intro i hi
    refine ev_succ ?_
    simp only [laws_pAllOnce.l0]
    exact ev_neg (by omega) (Ev.now _)
  | succ d ih =>
    intro i hi
    refine ev_succ ?_
    simp only [laws_pAllOnce.l0]
    rw [winc (by omega)]
    exact ev_pos (by omega) (ev_bind _ (has_f l _ (by omega)) (ev_pos (by rw [List.contains_iff_mem]; exact h i (by omega)) (ih (i + 1) (by omega))))
theorem once_f {l : List Int} {n : Nat} (hn : n ≤ 1000) (hl : l.length = n) (h : ∀ i : Nat, i < n → (i : Int) ∈ l) : Ev (fun k => laws_pAllOnce.f k l (n : Int)) true := by
  unfold laws_pAllOnce.f
  exact ev_pos (by omega) (once_l0 hn (by omega) h n 0 (by omega))
theorem good_edge {P : Int} {E : Edges} (h : goodB P E = true) {i : Nat} (hi : i < E.length) : ∃ a b c, edg E i = [a, b, c] ∧ (0 ≤ a ∧ a < P) ∧ (0 ≤ b ∧ b < P) ∧ (0 ≤ c ∧ c < P) := by
  unfold goodB at h
  simp only [Bool.and_eq_true, List.all_eq_true] at h
  have he : edg E i ∈ E := by
    unfold edg
    rw [List.getD_eq_getElem?_getD, List.getElem?_eq_getElem hi, Option.getD_some]
    exact List.getElem_mem hi
  have h1 := h.2 _ he
  have h2 := (isEdgeB_ok h1).2
  unfold isEdgeB at h1
  simp only [Bool.and_eq_true, decide_eq_true_eq] at h1
  have h3 := h1.1.1.1.1
  generalize edg E i = e at h2 h3
  match e, h3 with
  | [a, b, c], _ => exact ⟨a, b, c, rfl, h2 a (by simp), h2 b (by simp), h2 c (by simp)⟩
theorem law_l1 {P : Int} {E : Edges} (hB : goodB P E = true) {Ls : List (List Nat)} (hf : Ls.headD [] = layerE E (allE E)) (hLs : Ls.length ≤ 1000000) : ∀ (d i : Nat), i + d = E.length →
    Ev (fun k => laws_FnLayersPeel.l1 k (Ls.map castL) (cntL (plsL E (allE E)) P.toNat) E (E.length : Int) (i : Int)) true := by
  obtain ⟨hG, hP, hl, _⟩ := goodB_ok hB
  intro d
  induction d with
  | zero =>
    intro i hi
    refine ev_succ ?_
    simp only [laws_FnLayersPeel.l1]
    exact ev_neg (by omega) (Ev.now _)
  | succ d ih =>
    intro i hi
    have next := ih (i + 1) (by omega)
    obtain ⟨a, b, c, e, ⟨a0, a1⟩, ⟨b0, b1⟩, c0, c1⟩ := good_edge hB (i := i) (by omega)
    have lk : ∀ x : Int, 0 ≤ x → x < P → rd (cntL (plsL E (allE E)) P.toNat) x = ((degOf E (allE E) x : Nat) : Int) := fun x h0 h1 => by
      rw [cntL_rd _ h0 (by omega), degOf_pls]
    have hcut : cutB E (allE E) i = true ↔ degOf E (allE E) a = 1 ∨ degOf E (allE E) b = 1 ∨ degOf E (allE E) c = 1 := by
      rw [cutB_iff, e]; simp
    have hmem : i ∈ layerE E (allE E) ↔ cutB E (allE E) i = true := by
      unfold layerE
      rw [List.mem_filter]
      exact ⟨fun h => h.2, fun h => ⟨List.mem_range.2 (by omega), h⟩⟩
    -- one end of the walk
    have fin : ∀ q : Bool, q = cutB E (allE E) i → Ev (fun k => if ((Ls.map castL).length : Int) > 0 then (if 0 < ((Ls.map castL).length : Int) then ((laws_pHas.f k (rd_L2 (Ls.map castL) 0) (i : Int)).bind fun t => (if (q != t) = true then (some false) else (laws_FnLayersPeel.l1 k (Ls.map castL) (cntL (plsL E (allE E)) P.toNat) E (E.length : Int) (wrap64 ((i : Int) + 1))))) else (none)) else (if (q != false) = true then (some false) else (laws_FnLayersPeel.l1 k (Ls.map castL) (cntL (plsL E (allE E)) P.toNat) E (E.length : Int) (wrap64 ((i : Int) + 1))))) true := by
      intro q hq
      rw [winc (by omega)]
      cases Ls with
      | nil =>
        refine ev_neg (by simp) (ev_neg ?_ next)
        have : ¬ cutB E (allE E) i = true := fun h => by
          have := hmem.2 h
          rw [← hf] at this
          cases this
        rw [hq, Bool.eq_false_iff.2 this]; simp
      | cons M Ms =>
        have hM : M = layerE E (allE E) := hf
        have hr : rd_L2 ((M :: Ms).map castL) 0 = castL M := rfl
        have hml : M.length ≤ 1000 := by
          rw [hM]
          have := (layer_sub E (allE E)).length_le
          have h2 : (allE E).length = E.length := by simp [allE]
          omega
        rw [hr]
        refine ev_pos (by simp) (ev_pos (by simp) (ev_bind _ (has_f _ _ (by rw [castL_len]; omega)) (ev_neg ?_ next)))
        have : (castL M).contains (i : Int) = cutB E (allE E) i := by
          rw [Bool.eq_iff_iff, List.contains_iff_mem, mem_castL, hM]
          exact hmem
        rw [this, hq]; simp
    have r0 : rd (edg E i) 0 = a := by rw [e]; rfl
    have r1 : rd (edg E i) 1 = b := by rw [e]; rfl
    have r2 : rd (edg E i) 2 = c := by rw [e]; rfl
    have hlen : (edg E i).length = 3 := by rw [e]; rfl
    refine ev_succ ?_
    simp only [laws_FnLayersPeel.l1]
    rw [rd_edg, r0, r1, r2, lk a a0 a1, lk b b0 b1, lk c c0 c1, hlen, cntL_len]
    refine ev_pos (by omega) (ev_pos (by omega) (ev_pos (by omega) (ev_pos (by omega) (ev_pos a0 (ev_pos (by omega) ?_)))))
    by_cases ca : degOf E (allE E) a = 1
    · exact ev_pos (by omega) (fin true (hcut.2 (.inl ca)).symm)
    · refine ev_neg (by omega) (ev_pos (by omega) (ev_pos b0 (ev_pos (by omega) ?_)))
      by_cases cb : degOf E (allE E) b = 1
      · exact ev_pos (by omega) (fin true (hcut.2 (.inr (.inl cb))).symm)
      · refine ev_neg (by omega) (ev_pos (by omega) (ev_pos c0 (ev_pos (by omega) (fin _ ?_))))
        rw [Bool.eq_iff_iff, hcut, beq_iff_eq]
        omega
theorem law_l0 {P : Int} {E : Edges} (hE : E.length ≤ 1000) {Ls : List (List Nat)} (x12 : List Int) (hne : ∀ l ∈ Ls, l ≠ []) (core : List Nat) (hlen : (core ++ Ls.flatten).length = E.length) (hLs : Ls.length ≤ 1000000)
    (hall : ∀ i : Nat, i < E.length → i ∈ core ++ Ls.flatten)
    (H : Ev (fun k => laws_FnLayersPeel.l1 k (Ls.map castL) x12 E (E.length : Int) 0) true) : ∀ (t pre : List (List Nat)), Ls = pre ++ t →
    Ev (fun k => laws_FnLayersPeel.l0 k (Ls.map castL) (Ls.map castL) x12 (castL (core ++ pre.flatten)) (Ls.map castL) (Ls.length : Int) (pre.length : Int) P E) true := by
  intro t
  induction t with
  | nil =>
    intro pre h
    have hp : Ls = pre := by rw [h, List.append_nil]
    subst hp
    refine ev_succ ?_
    simp only [laws_FnLayersPeel.l0]
    refine ev_neg (by omega) (ev_bind _ (once_f hE (by rw [castL_len]; exact hlen) (fun i hi => mem_castL.2 (hall i hi))) (ev_pos rfl H))
  | cons M t ih =>
    intro pre h
    have hm : ((pre.length : Nat) : Int) < (Ls.length : Int) := by rw [h]; exact lt_mid
    have hr : rd_L2 (Ls.map castL) (pre.length : Int) = castL M := by
      unfold rd_L2
      rw [h]; simp
    have hM := hne M (by rw [h]; simp)
    have hz : ¬ M.length = 0 := fun e => hM (List.length_eq_zero_iff.1 e)
    have hl2 : (core ++ pre.flatten).length + M.length ≤ 1000 := by
      have : (core ++ Ls.flatten).length = (core ++ pre.flatten).length + M.length + t.flatten.length := by rw [h]; simp; omega
      omega
    have next := ih (pre ++ [M]) (by rw [h]; simp)
    have e : core ++ (pre ++ [M]).flatten = (core ++ pre.flatten) ++ M := by simp
    rw [len_one, e, castL_app] at next
    refine ev_succ ?_
    simp only [laws_FnLayersPeel.l0, hr, List.length_map]
    rw [winc (by omega)]
    refine ev_pos hm (ev_pos (by omega) (ev_pos hm (ev_pos hm (ev_bind _ (sameInts_f _ (by rw [castL_len]; omega)) (ev_pos rfl (ev_neg (by rw [castL_len]; omega) (ev_pos (by rw [castL_len, castL_len]; omega) next)))))))
theorem FnLayersPeel : laws_FnLayersPeel.Pure := by
  intro l0 l1 h0 _ hw0 h1 _ _
  refine Ev.rounds (r := true) ?_
  unfold laws_FnLayersPeel.f
  obtain ⟨b, eb, hb⟩ := big_f h0 h1
  rw [eb]
  refine ev_bind _ (Ev.now _) ?_
  by_cases c : b = true
  · exact ev_pos c (Ev.now _)
  obtain ⟨g0, _⟩ := hb (by simpa using c)
  have hs := bys g0 hw0
  obtain ⟨P, E, ed, hE, hE5⟩ := draw_f hs
  have hE1 : E.length ≤ 1000 := by omega
  refine ev_neg c (ev_bind _ ed (ev_bind _ (impl_LayersOf_f P E hE1) (ev_bind _ (spec_LayersOf_f P E hE1 (fun e he => by have := hE5 e he; omega)) (ev_neg (by simp) ?_))))
  simp only [bne_self_eq_false]
  by_cases g : goodB P E = true
  · have hv : layV P E = ((layersE E E.length (allE E)).1.map castL, true) := if_pos g
    rw [hv]
    simp only []
    obtain ⟨hG, hP, hl40, _⟩ := goodB_ok g
    have hcore := layers_core (P := P.toNat) hG.rng
    have hperm := layersE_perm (E := E) E.length (allE E)
    rw [hcore] at hperm
    have hlen := hperm.length_eq
    have hall : (allE E).length = E.length := by simp [allE]
    have hne := layersE_ne (E := E) E.length (allE E)
    have hmem : ∀ i : Nat, i < E.length → i ∈ coreE P.toNat E ++ (layersE E E.length (allE E)).1.flatten := fun i hi => hperm.mem_iff.2 (List.mem_range.2 hi)
    have hfl : ∀ Ls : List (List Nat), (∀ l ∈ Ls, l ≠ []) → Ls.length ≤ Ls.flatten.length := by
      intro Ls
      induction Ls with
      | nil => intro _; simp
      | cons M Ms ih =>
        intro h
        have h1 := ih (fun l hl => h l (by simp [hl]))
        have h2 := List.length_pos_iff.2 (h M (by simp))
        simp only [List.flatten_cons, List.length_append, List.length_cons]
        omega
    have hLs := hfl _ hne
    rw [List.length_append] at hlen
    have hfirst := layersE_first (E := E) (d := E.length) (L := allE E) (by omega)
    have H := law_l1 g hfirst (by omega) E.length 0 (by omega)
    refine ev_succ ?_
    simp only [laws_FnLayersPeel.j0]
    refine ev_neg (by simp) (ev_pos trivial (ev_bind _ (core_f g) (ev_bind _ (degrees_f g) (ev_pos rfl (ev_succ ?_)))))
    simp only [laws_FnLayersPeel.j1]
    refine ev_neg (by simp) (ev_bind _ (Ev.now _) (ev_pos (by rw [castL_len]; simp; omega) ?_))
    have := law_l0 (P := P) hE1 (cntL (plsL E (allE E)) P.toNat) hne (coreE P.toNat E) (by rw [List.length_append]; omega) (by omega) hmem H (layersE E E.length (allE E)).1 [] rfl
    rw [List.flatten_nil, List.append_nil] at this
    rw [List.length_map, List.nil_append]
    exact this
  · have hv : layV P E = ([], false) := if_neg g
    rw [hv]
    refine ev_succ ?_
    simp only [laws_FnLayersPeel.j0]
    exact ev_neg (by simp) (ev_neg (by simp) (Ev.now _))
end Go.Proofs.Ythkcgimnagpmaaa.Pure
