import Derived.Test.YtephjmmkggcmeaaCS1
import Derived.Test.YtephjmmkggcmeaaCS2
import Derived.Test.YtephjmmkggcmeaaCS3
import Derived.Test.YtephjmmkggcmeaaCS4
import Derived.Test.YtephjmmkggcmeaaCS5
import Derived.Test.YtephjmmkggcmeaaCS0
import Derived.Lib.Bytes
-- printed by a program of this session (wip/gp) out of the translation; Lean checks it
namespace Go.Proofs.Ytephjmmkggcmeaa.PG
open Go.RowKit Go.Proofs.YtephjmmkggcmeaaW.PrintWords Go.Proofs.YtephjmmkggcmeaaW.PrintLast Go.Proofs.YtephjmmkggcmeaaW.PrintMore Go.Proofs.YtephjmmkggcmeaaSq
attribute [local go_sem] max2_int min2_int max_two min_two max_three min_three max_four min_four   -- for this text's walks alone
attribute [local go_sem] Go.Proofs.YtephjmmkggcmeaaGp.str_geq Go.Proofs.YtephjmmkggcmeaaGp.str_gtr Go.Proofs.YtephjmmkggcmeaaGp.str_leq
set_option linter.unusedVariables false
set_option linter.unusedSimpArgs false

set_option maxHeartbeats 8000000
set_option maxRecDepth 100000
def spec_CuckooUnstash.l0 : Nat → List ByteArray → Int → Int → Int → List ByteArray → List ByteArray → Option (Int × List ByteArray × List ByteArray × Bool)
 | 0, _, _, _, _, _, _ => none
 | k + 1, x19, x20, x21, x524000, x524001, x524002 => if x21 < x20 then (if 0 ≤ x21 then (if x21 < (x19.length : Int) then ((spec_cuEmpty.f k x524000 x524001 x524002 (rdOf ByteArray.empty x19 x21)).bind fun t525 => (if t525 ≥ 0 then (if 0 ≤ t525 then (if t525 < (x524001.length : Int) then (spec_CuckooUnstash.l0 k x19 x20 (wrap64 (x21 + 1)) x524000 (x524001.set (t525 : Int).toNat (rdOf ByteArray.empty x19 x21)) x524002) else (none)) else (none)) else (if x524002.length < 8796093022208 then (spec_CuckooUnstash.l0 k x19 x20 (wrap64 (x21 + 1)) x524000 x524001 (x524002 ++ [rdOf ByteArray.empty x19 x21])) else (none)))) else (none)) else (none)) else (some (x524000, x524001, x524002, true))
def spec_CuckooUnstash.f (k : Nat) (a0_0 : Int) (l0_1 : List ByteArray) (l0_2 : List ByteArray) : Option (Int × List ByteArray × List ByteArray × Bool) := (spec_cuGood.f k a0_0 l0_1 l0_2).bind fun t519 => (if t519 = true then ((spec_l1OwnS.f l0_1).bind fun t520 => (spec_CuckooUnstash.l0 k l0_2 (l0_2.length : Int) 0 a0_0 t520 ([] : List ByteArray))) else (some (0, ([] : List ByteArray), ([] : List ByteArray), false)))
def spec_CuckooUnstash.T3 : Bool × List (List Nat × List Nat) := (true, [([], []), ([0], [0]), ([], []), ([2], [2]), ([3], [3]), ([1, 4], [1, 4]), ([], []), ([6, 5, 4, 0, 1, 2, 3, 4, 5, 6], [5, 6])])
def spec_CuckooUnstash.B3 : List Nat := [0, 1, 0, 4, 12, 31, 0, 127]
theorem spec_CuckooUnstash.tab3 : rtab .any (opsOf Try.f50 3) = spec_CuckooUnstash.T3 := by kernel_rfl
theorem spec_CuckooUnstash.bits3 : waitsOk spec_CuckooUnstash.T3.2 spec_CuckooUnstash.B3 = true := by kernel_rfl
theorem spec_CuckooUnstash.calls (k : Nat) (a0_0 : Int) (A0_1 : Option Addr) (c0_1 : Nat) (l0_1 : List ByteArray) (A0_2 : Option Addr) (c0_2 : Nat) (l0_2 : List ByteArray) (r1 : Int) (r2 : List ByteArray) (r3 : List ByteArray) (r4 : Bool) (w : World) (hr0_1 : Kd.C Kd.string w A0_1 l0_1.length l0_1) (hc0_1 : l0_1.length ≤ c0_1) (hr0_2 : Kd.C Kd.string w A0_2 l0_2.length l0_2) (hc0_2 : l0_2.length ≤ c0_2) (h : spec_CuckooUnstash.f k a0_0 l0_1 l0_2 = some (r1, r2, r3, r4)) :
  Calls Try.prog 50 #[.agg #[.int .i64 a0_0, .slice A0_1 l0_1.length c0_1, .slice A0_2 l0_2.length c0_2]] w fun e w' => ∃ v1_ v2_ : Value, e = .returned (.tuple #[.agg #[.int .i64 r1, v1_, v2_], .bool r4]) ∧ Kd.R Kd.string 9 w' w.heap.size (fun k_ => some k_ ≠ (v2_ : Value).ownBlock) v1_ r2 ∧ Kd.R Kd.string 9 w' w.heap.size (fun k_ => some k_ ≠ (v1_ : Value).ownBlock) v2_ r3 ∧ Below w.heap.size w w' := by
 have hu51 := Try.underlying51; have HR0_1 := am hr0_1; have HC0_1 := am hc0_1; clear hr0_1 hc0_1; have HR0_2 := am hr0_2; have HC0_2 := am hc0_2; clear hr0_2 hc0_2; have HB := am (Below.refl w.heap.size w); have H : ((spec_cuGood.f k a0_0 l0_1 l0_2).bind fun t519 => (if t519 = true then ((spec_l1OwnS.f l0_1).bind fun t520 => (spec_CuckooUnstash.l0 k l0_2 (l0_2.length : Int) 0 a0_0 t520 ([] : List ByteArray))) else (some (0, ([] : List ByteArray), ([] : List ByteArray), false)))) = some (r1, r2, r3, r4) := h; clear h; replace H := Option.bind_eq_some_iff.mp H; obtain ⟨t519, A20, H⟩ := H; (try dsimp -simprocs only at H); have A2 := am A20; clear A20
 by_cases c3 : t519 = true
 ·subst c3
  rw [if_pos rfl] at H; replace H := Option.bind_eq_some_iff.mp H; obtain ⟨t520, A40, H⟩ := H; (try dsimp -simprocs only at H); have A4 := am A40; clear A40; have H' := am H; clear H
  go_enter Try.func50, Try.ntmps50
  try go_wp2_with (first | ((with_reducible refine gate_dst (N := 1) rfl ?_); refine bE 1 #[.int .i64 a0_0, .slice A0_1 l0_1.length c0_1, .slice A0_2 l0_2.length c0_2] 51 ?_; intro gb517 hg w5 hbox hb; have n0_ := Bb HB hb; have n1_ := am (hbox); have n2_ := Gl HB hg; have n3_ := Gl HB hg; clear HB; revert n0_ n1_ n2_ n3_; intro HB BK517 GW517 GE517; clear hb hbox hg) | ((with_reducible refine gate_dst (N := 2) rfl ?_); refine bE 2 #[.int .i64 0, .slice none 0 0, .slice none 0 0] 51 ?_; intro gb518 hg w6 hbox hb; have n0_ := Kb BK517 hb; have n1_ := Bc HB hb; have n2_ := am (hbox); have n3_ := Gm HB hg; have n4_ := Gm HB hg; have n5_ := Nl BK517 hg; have n6_ := Ng BK517 hg; clear BK517 HB; revert n0_ n1_ n2_ n3_ n4_ n5_ n6_; intro BK517 HB BK518 GW518 GE518 NB517_518 NB518_517; clear hb hbox hg; have hnb7 := NB517_518.out; have hnc7 := NB518_517.out; obtain ⟨hcz8_0, hcz8_1, hcz8_2, hfz8_0, hfz8_1, hfz8_2⟩ := cf3 (w := w6) BK517) | ((with_reducible refine gate_callee (f := 100) rfl ?_); refine gL (some 9) Try.func100 #[.agg #[.int .i64 a0_0, .slice A0_1 l0_1.length c0_1, .slice A0_2 l0_2.length c0_2]] ?_; (with_reducible refine (spec_cuGood.calls k a0_0 _ _ l0_1 _ _ l0_2 true _ ?side1 ?side2 ?side3 ?side4 A2.out).mono ?_); (case side1 => exact Cz (Kd.C_below HR0_1.out HB.out)); (case side2 => exact HC0_1.out); (case side3 => exact Cz (Kd.C_below HR0_2.out HB.out)); (case side4 => exact HC0_2.out); rintro e w9 ⟨rfl, hb⟩; refine ⟨_, rfl, ?_⟩; have n0_ := Kb BK517 hb; have n1_ := Kb BK518 hb; have n2_ := Bc HB hb; clear BK517 BK518 HB; revert n0_ n1_ n2_; intro BK517 BK518 HB; (try clear hb); (try clear hb2); (try clear hk); (try clear hi)))
  have n0_ := am (blk_drew BK517.out); have n1_ := am (blk_drew BK518.out); have n2_ := am (below_drew1 HB.out); clear BK517 BK518 HB; revert n0_ n1_ n2_; intro BK517 BK518 HB; refine start_ (n := 8) (S := fun w' => w'.cell? ⟨gb517, 0, none⟩ = some (.int .i64 a0_0) ∧ w'.cell? ⟨gb517, 1, none⟩ = some (.slice A0_1 l0_1.length c0_1) ∧ w'.cell? ⟨gb517, 2, none⟩ = some (.slice A0_2 l0_2.length c0_2)) (ds := []) (bA 8 0) (by kernel_rfl) rfl rfl ⟨cz BK517 0, cz BK517 1, cz BK517 2⟩ (fun hHeld => ?_); refine with_tabW spec_CuckooUnstash.tab3 spec_CuckooUnstash.bits3 (fun HT_ HW_ => ?_); generalize w9.drew = w10 at BK517 BK518 HB hHeld ⊢; refine pZ 0 (some 12) (bA 8 1) HT_.out ?_; refine pZ 2 (some 14) (bA 8 5) HT_.out ?_; refine tZ3 1 (some 13) (bA 8 7) HT_.out HW_.out hHeld ?_; refine tZ3 3 (some 15) (bA 8 15) HT_.out HW_.out hHeld ?_; refine join_ (σ := Value × Nat) 1 (bA 8 127) (fun s_ => [(16, s_.1), (4, .pointer (some ⟨s_.2, 0, none⟩)), (17, .agg #[.int .i64 a0_0, s_.1, .slice none 0 0])]) (fun s_ w' => (w'.cell? ⟨gb517, 0, none⟩ = some (.int .i64 a0_0) ∧ w'.cell? ⟨gb517, 1, none⟩ = some (.slice A0_1 l0_1.length c0_1) ∧ w'.cell? ⟨gb517, 2, none⟩ = some (.slice A0_2 l0_2.length c0_2)) ∧ (Kd.R Kd.string 9 w' w.heap.size (fun _ => True) s_.1 t520) ∧ (w'.heap[gb517]? = some (.cells #[.int .i64 a0_0, .slice A0_1 l0_1.length c0_1, .slice A0_2 l0_2.length c0_2] 51 (0, 0))) ∧ (w'.heap[gb518]? = some (.cells #[.int .i64 0, .slice none 0 0, .slice none 0 0] 51 (0, 0))) ∧ (w'.heap[s_.2]? = some (.cells #[.int .i64 0, .slice none 0 0, .slice none 0 0] 51 (0, 0))) ∧ (w.heap.size ≤ s_.2) ∧ (w.heap.size ≤ s_.2) ∧ (gb517 ≠ s_.2) ∧ (s_.2 ≠ gb517) ∧ (gb518 ≠ s_.2) ∧ (s_.2 ≠ gb518) ∧ (Below w.heap.size w w')) ?_ ?_
  rotate_left
  ·intro hCont
   refine two_ (i := 4) (j := 6) (Ni := some 16) (Nj := some 4) (bA 8 31) (bA 8 79) rfl rfl rfl rfl (two_of HT_.out (by kernel_rfl)) (by decide) (by decide) (fun K hK => ?_) (fun K hK => ?_)
   ·skip
    refine gZ Try.func105 #[.slice A0_1 l0_1.length c0_1] ?_
    with_reducible refine (spec_l1OwnS.calls _ _ l0_1 t520 _ ?side1 ?side2 A4.out).mono ?_
    (case side1 => exact Cz (Kd.C_below HR0_1.out HB.out))
    (case side2 => exact HC0_1.out)
    rintro e w11 ⟨v521, rfl, ho0, hb⟩; refine ⟨_, rfl, ?_⟩; have n0_ := Rm ho0 HB; have n1_ := Kb BK517 hb; have n2_ := Kb BK518 hb; have n3_ := Bc HB hb; clear BK517 BK518 HB; revert n0_ n1_ n2_ n3_; intro HO522 BK517 BK518 HB
    (try clear hb)
    (try clear hb2)
    (try clear hk)
    (try clear hi)
    (try clear ho0)
    obtain ⟨Ao12, co12, eo12⟩ := Kd.R_slice HO522.out
    (first | subst eo12 | (injection eo12 with f1_ f2_ f3_; have f4_ := f1_.symm; have f5_ := f3_.symm; clear f1_ f2_ f3_; subst f4_; subst f5_))
    refine hK.out _ _ ⟨cz BK517 0, cz BK517 1, cz BK517 2⟩ (fun hHeld => ?_); clear hK K; refine norm_ (a' := ?_) ?_ ?_; rotate_left; show Act.put _ (some 16) _ = _; simp only [aP, i64_w, i32_w]; rfl; refine pZ 5 (some 17) (bA 8 63) HT_.out ?_; refine oZ 6 (some 4) (bA 8 127) HT_.out (fun K hK => ?_); refine box_step ?hg (N := 4) ?hd (cs := #[.int .i64 0, .slice none 0 0, .slice none 0 0]) (t := 51) ?hr ?_; (case hd => rfl); (case hg => rfl); (case hr => first | (go_simp; done) | (go_simp; rfl)); intro gb523 hg w13 hbox hb; have n0_ := Rb HO522 hb; have n1_ := Kb BK517 hb; have n2_ := Kb BK518 hb; have n3_ := Bc HB hb; have n4_ := am (hbox); have n5_ := Gm HB hg; have n6_ := Gm HB hg; have n7_ := Nl BK517 hg; have n8_ := Ng BK517 hg; have n9_ := Nl BK518 hg; have n10_ := Ng BK518 hg; clear HO522 BK517 BK518 HB; revert n0_ n1_ n2_ n3_ n4_ n5_ n6_ n7_ n8_ n9_ n10_; intro HO522 BK517 BK518 HB BK523 GW523 GE523 NB517_523 NB523_517 NB518_523 NB523_518; clear hb hbox hg; refine hK.out _ _ ⟨cz BK517 0, cz BK517 1, cz BK517 2⟩ (fun hHeld => ?_); clear hK K; refine norm_ (a' := ?_) ?_ ?_; rotate_left; show Act.put _ (some 4) _ = _; simp only [aP, i64_w, i32_w]; rfl; exact norm_ (by simp only [putAll, aP]) (hCont (.slice Ao12 t520.length co12, gb523) _ ⟨hHeld, (Rz HO522.out), (Kz BK517.out), (Kz BK518.out), (Kz BK523.out), GW523.out, GE523.out, NB517_523.out, NB523_517.out, NB518_523.out, NB523_518.out, (Bq)⟩)
   ·skip
    refine box_step ?hg (N := 4) ?hd (cs := #[.int .i64 0, .slice none 0 0, .slice none 0 0]) (t := 51) ?hr ?_; (case hd => rfl); (case hg => rfl); (case hr => first | (go_simp; done) | (go_simp; rfl)); intro gb523 hg w11 hbox hb; have n0_ := Kb BK517 hb; have n1_ := Kb BK518 hb; have n2_ := Bc HB hb; have n3_ := am (hbox); have n4_ := Gm HB hg; have n5_ := Gm HB hg; have n6_ := Nl BK517 hg; have n7_ := Ng BK517 hg; have n8_ := Nl BK518 hg; have n9_ := Ng BK518 hg; clear BK517 BK518 HB; revert n0_ n1_ n2_ n3_ n4_ n5_ n6_ n7_ n8_ n9_; intro BK517 BK518 HB BK523 GW523 GE523 NB517_523 NB523_517 NB518_523 NB523_518; clear hb hbox hg; refine hK.out _ _ ⟨cz BK517 0, cz BK517 1, cz BK517 2⟩ (fun hHeld => ?_); clear hK K; refine norm_ (a' := ?_) ?_ ?_; rotate_left; show Act.put _ (some 4) _ = _; simp only [aP, i64_w, i32_w]; rfl; refine oZ 4 (some 16) (bA 8 95) HT_.out (fun K hK => ?_); refine gZ Try.func105 #[.slice A0_1 l0_1.length c0_1] ?_
    with_reducible refine (spec_l1OwnS.calls _ _ l0_1 t520 _ ?side1 ?side2 A4.out).mono ?_
    (case side1 => exact Cz (Kd.C_below HR0_1.out HB.out))
    (case side2 => exact HC0_1.out)
    rintro e w12 ⟨v521, rfl, ho0, hb⟩; refine ⟨_, rfl, ?_⟩; have n0_ := Rm ho0 HB; have n1_ := Kb BK517 hb; have n2_ := Kb BK518 hb; have n3_ := Kb BK523 hb; have n4_ := Bc HB hb; clear BK517 BK518 BK523 HB; revert n0_ n1_ n2_ n3_ n4_; intro HO522 BK517 BK518 BK523 HB
    (try clear hb)
    (try clear hb2)
    (try clear hk)
    (try clear hi)
    (try clear ho0)
    obtain ⟨Ao13, co13, eo13⟩ := Kd.R_slice HO522.out
    (first | subst eo13 | (injection eo13 with f1_ f2_ f3_; have f4_ := f1_.symm; have f5_ := f3_.symm; clear f1_ f2_ f3_; subst f4_; subst f5_))
    refine hK.out _ _ ⟨cz BK517 0, cz BK517 1, cz BK517 2⟩ (fun hHeld => ?_); clear hK K; refine norm_ (a' := ?_) ?_ ?_; rotate_left; show Act.put _ (some 16) _ = _; simp only [aP, i64_w, i32_w]; rfl; refine pZ 5 (some 17) (bA 8 127) HT_.out ?_; exact norm_ (by simp only [putAll, aP]) (hCont (.slice Ao13 t520.length co13, gb523) _ ⟨hHeld, (Rz HO522.out), (Kz BK517.out), (Kz BK518.out), (Kz BK523.out), GW523.out, GE523.out, NB517_523.out, NB523_517.out, NB518_523.out, NB523_518.out, (Bq)⟩)
  rintro ⟨v521, gb523⟩ w14 ⟨hS_, h0_, h1_, h2_, h3_, h4_, h5_, h6_, h7_, h8_, h9_, h10_⟩; (try dsimp -simprocs only at h0_ h1_ h2_ h3_ h4_ h5_ h6_ h7_ h8_ h9_ h10_); have n0_ := am h0_; have n1_ := am h1_; have n2_ := am h2_; have n3_ := am h3_; have n4_ := am h4_; have n5_ := am h5_; have n6_ := am h6_; have n7_ := am h7_; have n8_ := am h8_; have n9_ := am h9_; have n10_ : Aside0 (Below w.heap.size w w14) := ⟨h10_⟩; clear BK517 BK518 HB; clear h0_ h1_ h2_ h3_ h4_ h5_ h6_ h7_ h8_ h9_ h10_; revert n0_ n1_ n2_ n3_ n4_ n5_ n6_ n7_ n8_ n9_ n10_; intro HO522 BK517 BK518 BK523 GW523 GE523 NB517_523 NB523_517 NB518_523 NB523_518 HB; have hHeld : w14.cell? ⟨gb517, 0, none⟩ = some (.int .i64 a0_0) ∧ w14.cell? ⟨gb517, 1, none⟩ = some (.slice A0_1 l0_1.length c0_1) ∧ w14.cell? ⟨gb517, 2, none⟩ = some (.slice A0_2 l0_2.length c0_2) := hS_; obtain ⟨Ao15, co15, eo15⟩ := Kd.R_slice HO522.out
  (first | subst eo15 | (injection eo15 with f1_ f2_ f3_; have f4_ := f1_.symm; have f5_ := f3_.symm; clear f1_ f2_ f3_; subst f4_; subst f5_))
  refine norm_ (a' := ?_) ?_ ?_
  rotate_left
  ·simp only [putAll, aP]
   rfl
  refine oZ 7 none (bA 8 255) HT_.out (fun K hK => ?_); have hs16 : w14.cell? ⟨gb523, 0, none⟩ = some (.int .i64 0) := cz BK523 0; have hfs16 := blk_frozen BK523.out 0; have hns16_0 := NB517_523.out; have hns16_1 := NB518_523.out; have hms16_0 := NB523_517.out; have hms16_1 := NB523_518.out; have hs17 : w14.cell? ⟨gb523, 1, none⟩ = some (.slice none 0 0) := cz BK523 1; have hfs17 := blk_frozen BK523.out 1; have hns17_0 := NB517_523.out; have hns17_1 := NB518_523.out; have hms17_0 := NB523_517.out; have hms17_1 := NB523_518.out; have hs18 : w14.cell? ⟨gb523, 2, none⟩ = some (.slice none 0 0) := cz BK523 2; have hfs18 := blk_frozen BK523.out 2; have hns18_0 := NB517_523.out; have hns18_1 := NB518_523.out; have hms18_0 := NB523_517.out; have hms18_1 := NB523_518.out; refine skip_ (w1 := ?_) (by rfl) rfl ?_ ?_
  rotate_left
  ·go_simp
   rfl
  refine hK.out _ _ ⟨((cell_far (p := ⟨gb523, _, none⟩) NB517_523.out _).trans (((cell_far (p := ⟨gb523, _, none⟩) NB517_523.out _).trans (((cell_far (p := ⟨gb523, _, none⟩) NB517_523.out _).trans (hHeld.1)))))), ((cell_far (p := ⟨gb523, _, none⟩) NB517_523.out _).trans (((cell_far (p := ⟨gb523, _, none⟩) NB517_523.out _).trans (((cell_far (p := ⟨gb523, _, none⟩) NB517_523.out _).trans (hHeld.2.1)))))), ((cell_far (p := ⟨gb523, _, none⟩) NB517_523.out _).trans (((cell_far (p := ⟨gb523, _, none⟩) NB517_523.out _).trans (((cell_far (p := ⟨gb523, _, none⟩) NB517_523.out _).trans (hHeld.2.2))))))⟩ (fun hHeld => ?_); clear hK K; refine done_ (done_of HT_.out (by kernel_rfl)) ?_; have hnb19 := NB517_523.out; have hnc19 := NB523_517.out; obtain ⟨hcz20_0, hcz20_1, hcz20_2, hfz20_0, hfz20_1, hfz20_2⟩ := cf3 (w := w14) BK517
  try go_wp2
  go_loopg [21] k (fun kq v21 w' => ∃ (x21_1 : Int) (x524001_1 : List ByteArray) (x524002_1 : List ByteArray) (u524001 : Value) (u524002 : Value), v21 = .int .i64 x21_1 ∧ Aside0 (spec_CuckooUnstash.l0 kq l0_2 (l0_2.length : Int) x21_1 a0_0 x524001_1 x524002_1 = some (r1, r2, r3, r4)) ∧ Aside0 (kq ≤ k) ∧ Aside0 (Kd.R Kd.string 9 w' w.heap.size (fun k_ => some k_ ≠ (u524002 : Value).ownBlock) u524001 x524001_1) ∧ Aside0 (Kd.R Kd.string 9 w' w.heap.size (fun k_ => some k_ ≠ (u524001 : Value).ownBlock) u524002 x524002_1) ∧ Aside0 (w'.heap[gb517]? = some (.cells #[.int .i64 a0_0, (.slice A0_1 l0_1.length c0_1), (.slice A0_2 l0_2.length c0_2)] 51 (0, 0))) ∧ Aside0 (w'.heap[gb518]? = some (.cells #[.int .i64 0, (.slice none 0 0), (.slice none 0 0)] 51 (0, 0))) ∧ Aside0 (w'.heap[gb523]? = some (.cells #[.int .i64 a0_0, u524001, u524002] 51 (0, 0))) ∧ Aside0 (Below w.heap.size w w'))
  case atStart => exact ⟨(0), (t520), (([] : List ByteArray)), (.slice Ao15 t520.length co15), (.slice none 0 0), wZ, H', ⟨Nat.le_refl _⟩, ⟨Rz (Kd.R_mono (Kd.R_far (p := ⟨gb523, 2, none⟩) (Kd.R_far (p := ⟨gb523, 1, none⟩) (Kd.R_far (p := ⟨gb523, 0, none⟩) (Kd.R_types HO522.out BK523.out (by decide)) (fun _ hk => hk.2) (.int .i64 a0_0)) (fun _ hk => hk.2) (.slice Ao15 t520.length co15)) (fun _ hk => hk.2) (.slice none 0 0)) (fun _ hk => (by simp [Value.ownBlock])))⟩, ⟨nZ⟩, ⟨by (with_reducible repeat (first | refine blk_drewN ?_ _ | refine blk_drew ?_ | refine blk_alloc ?_ _)); refine blk_far ?_ NB517_523.out _; (with_reducible repeat (first | refine blk_drewN ?_ _ | refine blk_drew ?_ | refine blk_alloc ?_ _)); refine blk_far ?_ NB517_523.out _; (with_reducible repeat (first | refine blk_drewN ?_ _ | refine blk_drew ?_ | refine blk_alloc ?_ _)); refine blk_far ?_ NB517_523.out _; (with_reducible repeat (first | refine blk_drewN ?_ _ | refine blk_drew ?_ | refine blk_alloc ?_ _)); exact BK517.out⟩, ⟨by (with_reducible repeat (first | refine blk_drewN ?_ _ | refine blk_drew ?_ | refine blk_alloc ?_ _)); refine blk_far ?_ NB518_523.out _; (with_reducible repeat (first | refine blk_drewN ?_ _ | refine blk_drew ?_ | refine blk_alloc ?_ _)); refine blk_far ?_ NB518_523.out _; (with_reducible repeat (first | refine blk_drewN ?_ _ | refine blk_drew ?_ | refine blk_alloc ?_ _)); refine blk_far ?_ NB518_523.out _; (with_reducible repeat (first | refine blk_drewN ?_ _ | refine blk_drew ?_ | refine blk_alloc ?_ _)); exact BK518.out⟩, ⟨by (with_reducible repeat (first | refine blk_drewN ?_ _ | refine blk_drew ?_ | refine blk_alloc ?_ _)); refine blk_put (cs := #[.int .i64 a0_0, .slice Ao15 t520.length co15, .slice none 0 0]) ?_ 2 _ rfl; (with_reducible repeat (first | refine blk_drewN ?_ _ | refine blk_drew ?_ | refine blk_alloc ?_ _)); refine blk_put (cs := #[.int .i64 a0_0, .slice none 0 0, .slice none 0 0]) ?_ 1 _ rfl; (with_reducible repeat (first | refine blk_drewN ?_ _ | refine blk_drew ?_ | refine blk_alloc ?_ _)); refine blk_put (cs := #[.int .i64 0, .slice none 0 0, .slice none 0 0]) ?_ 0 _ rfl; (with_reducible repeat (first | refine blk_drewN ?_ _ | refine blk_drew ?_ | refine blk_alloc ?_ _)); exact BK523.out⟩, ⟨Bq⟩⟩
  case round =>
   clear H'
   try clear c1
   try clear p2
   try clear c3
   try clear c5
   try clear c7
   try clear c10
   try clear c19
   try clear hcz20_0
   try clear hcz20_1
   try clear hcz20_2
   try clear hcz8_0
   try clear hcz8_1
   try clear hcz8_2
   try clear hfz20_0
   try clear hfz20_1
   try clear hfz20_2
   try clear hfz8_0
   try clear hfz8_1
   try clear hfz8_2
   obtain ⟨x21_1, x524001_1, x524002_1, u524001, u524002, rfl, HA, HK1, HO_524001, HO_524002, BK517, BK518, BK523, HB⟩ := hrel; cases gk with
   | zero => exact absurd HA.out (by simp [spec_CuckooUnstash.l0])
   | succ k1 =>
    have H := HA.out; clear HA
    simp only [spec_CuckooUnstash.l0] at H
    by_cases c21 : x21_1 < (l0_2.length : Int)
    ·rw [if_pos c21] at H
     have c21b0 : decide (x21_1 < (l0_2.length : Int)) = true := decide_eq_true c21; clear c21
     by_cases c22 : 0 ≤ x21_1
     ·rw [if_pos c22] at H
      have c22b0 : decide (0 ≤ x21_1) = true := decide_eq_true c22; clear c22
      by_cases c23 : x21_1 < (l0_2.length : Int)
      ·rw [if_pos c23] at H
       have c23b0 : decide (x21_1 < (l0_2.length : Int)) = true := decide_eq_true c23; clear c23; replace H := Option.bind_eq_some_iff.mp H; obtain ⟨t525, A240, H⟩ := H; (try dsimp -simprocs only at H); have A24 := am A240; clear A240
       by_cases c25 : t525 ≥ 0
       ·rw [if_pos c25] at H
        have c25b0 : decide (0 ≤ t525) = true := decide_eq_true c25; clear c25
        by_cases c26 : 0 ≤ t525
        ·rw [if_pos c26] at H
         have c26b0 : decide (0 ≤ t525) = true := decide_eq_true c26; clear c26
         by_cases c27 : t525 < (x524001_1.length : Int)
         ·rw [if_pos c27] at H
          have c27b0 : decide (t525 < (x524001_1.length : Int)) = true := decide_eq_true c27; clear c27; obtain ⟨y526, hy526⟩ : ∃ y_ : List ByteArray, y_ = (x524001_1.set (t525 : Int).toNat (rdOf ByteArray.empty l0_2 x21_1)) := ⟨_, rfl⟩
          replace H : (spec_CuckooUnstash.l0 k1 l0_2 (l0_2.length : Int) (wrap64 (x21_1 + 1)) a0_0 y526 x524002_1) = some (r1, r2, r3, r4) := by first | (rw [hy526]; with_reducible exact H) | (have H2_ := (Option.bind_some _ _).symm.trans H; rw [hy526]; with_reducible exact H2_) | (have H2_ := (Option.bind_some _ _).symm.trans H; with_reducible exact H2_) | with_reducible exact H | (rw [hy526]; exact H) | exact H
          have Ny526 := am hy526; clear hy526; have H' := am H; clear H; have p524 : 0 ≤ (x21_1 : Int) := dT; have q524 : x21_1 < (l0_2.length : Int) := dT; obtain ⟨ad524, e524, hx524_0⟩ := Kd.at_string HR0_2.out x21_1 p524 q524; cases e524; replace hx524_0 := (HB.out.cell (World.block_lt_of_cell? w _ hx524_0)).trans hx524_0; replace p524 := eq_true p524; replace q524 := eq_true q524; have hnb29 := NB523_517.out; have hnc29 := NB517_523.out; have hnb30 := NB523_518.out; have hnc30 := NB518_523.out; obtain ⟨hcz31_0, hcz31_1, hcz31_2, hfz31_0, hfz31_1, hfz31_2⟩ := cf3 (w := wr) BK523; obtain ⟨Ao32, co32, eo32⟩ := Kd.R_slice HO_524001.out; subst eo32; obtain ⟨Ao33, co33, eo33⟩ := Kd.R_slice HO_524002.out; subst eo33
          go_wp2_with (first | ((with_reducible refine gate_callee (f := 110) rfl ?_); refine gL (some 27) Try.func110 #[.agg #[.int .i64 a0_0, .slice Ao32 x524001_1.length co32, .slice Ao33 x524002_1.length co33], .string (rdOf ByteArray.empty l0_2 x21_1)] ?_; (with_reducible refine (spec_cuEmpty.calls k1 a0_0 _ _ x524001_1 _ _ x524002_1 (rdOf ByteArray.empty l0_2 x21_1) t525 _ ?side1 ?side2 ?side3 ?side4 A24.out).mono ?_); (case side1 => exact Cz ((Kd.R_reads' HO_524001.out).2.2)); (case side2 => exact (Kd.R_reads' HO_524001.out).2.1); (case side3 => exact Cz ((Kd.R_reads' HO_524002.out).2.2)); (case side4 => exact (Kd.R_reads' HO_524002.out).2.1); rintro e w34 ⟨rfl, hb⟩; refine ⟨_, rfl, ?_⟩; have n0_ := Rb HO_524001 hb; have n1_ := Rb HO_524002 hb; have n2_ := Kb BK517 hb; have n3_ := Kb BK518 hb; have n4_ := Kb BK523 hb; have n5_ := Bc HB hb; clear HO_524001 HO_524002 BK517 BK518 BK523 HB; revert n0_ n1_ n2_ n3_ n4_ n5_; intro HO_524001 HO_524002 BK517 BK518 BK523 HB; (try clear hb); (try clear hb2); (try clear hk); (try clear hi); obtain ⟨hcz35_0, hcz35_1, hcz35_2, hfz35_0, hfz35_1, hfz35_2⟩ := cf3 (w := w34) BK523; have p28 : 0 ≤ (t525 : Int) := dT; have q28 : (t525 : Int) < ((x524001_1.length : Int) : Int) := dT; obtain ⟨go28, co28, eo28, gb28, gl28, cl28, HG28⟩ := Kd.R_form HO_524001.out (by omega); (first | cases eo28 | (injection eo28 with ea_ en_ ec_; (first | subst ea_ | (injection ea_ with ea_; subst ea_)); subst ec_; clear en_)); have GB28 := am gb28; have GG28 := am HG28; clear gb28 gl28 HG28; obtain ⟨hx28_0, hf28_0⟩ := Kd.R_celln (⟨#[]⟩ : ByteArray) HO_524001.out (t525 : Int) p28 q28; replace p28 := eq_true p28; replace q28 := eq_true q28; obtain ⟨hy36_, hz36_⟩ := Kd.R_celln (⟨#[]⟩ : ByteArray) HO_524001.out (t525 : Int) (dT) (dT); have HP36 := Kd.R_putg HO_524001.out (t525 : Int) (rdOf ByteArray.empty l0_2 x21_1)) | ((with_reducible refine gate_store (t := 9) (p := 34) rfl ?_); refine store_event (t := 9) (p := 34) (v := ?vo_w37) (w1 := (w34.setCell ⟨go28, (t525 : Int).toNat, none⟩ (.string (rdOf ByteArray.empty l0_2 x21_1)))) ?hg ?ho ?hn ?hr ?_; (case ho => rfl); (case hg => rfl); (case hn => rfl); (case hr => first | (go_simp; done) | (go_simp; rfl)); intro w37 hw; have hg : w34.grownBy w37 (some go28) := (by rw [hw]; exact HP36.2); have hp_ : Kd.R Kd.string 9 w37 w.heap.size (fun k_ => some k_ ≠ (.slice Ao33 x524002_1.length co33 : Value).ownBlock) (.slice (some ⟨go28, 0, none⟩) x524001_1.length co32) y526 := (by rw [hw, Ny526.out]; exact HP36.1); clear HP36; have n0_ := am (hp_); have n1_ := am (Kd.R_after (v := (.slice (some ⟨go28, 0, none⟩) x524001_1.length co32)) (v1 := (.slice (some ⟨go28, 0, none⟩) x524001_1.length co32)) (ok := (fun _ => True)) (Rz (Kd.R_mono HO_524002.out (fun _ hk => ⟨trivial, hk⟩))) hg (.inl rfl)); have n2_ := am (blk_grown (g := gb517) (o := .cells #[.int .i64 a0_0, .slice A0_1 l0_1.length c0_1, .slice (some ad524) l0_2.length c0_2] 51 (0, 0)) (Kz BK517.out) hg (Kd.R_ne HO_524001.out BK517.out (by decide))); have n3_ := am (blk_grown (g := gb518) (o := .cells #[.int .i64 0, .slice none 0 0, .slice none 0 0] 51 (0, 0)) (Kz BK518.out) hg (Kd.R_ne HO_524001.out BK518.out (by decide))); have n4_ := am (blk_grown (g := gb523) (o := .cells #[.int .i64 a0_0, .slice (some ⟨go28, 0, none⟩) x524001_1.length co32, .slice Ao33 x524002_1.length co33] 51 (0, 0)) (Kz BK523.out) hg (Kd.R_ne HO_524001.out BK523.out (by decide))); have n5_ := am ((by rw [hw]; exact below_set (HB.out) GB28.out : Below w.heap.size w w37)); clear HO_524001 HO_524002 BK517 BK518 BK523 HB; revert n0_ n1_ n2_ n3_ n4_ n5_; intro HO_524001 HO_524002 BK517 BK518 BK523 HB; clear hg hw hp_))
          go_roundg k1
          case measure => have := HK1.out; omega
          case rel => exact ⟨(wrap64 (x21_1 + 1)), (y526), (x524002_1), (.slice (some ⟨go28, 0, none⟩) x524001_1.length co32), (.slice Ao33 x524002_1.length co33), wZ, H', ⟨by have := HK1.out; omega⟩, ⟨Rz HO_524001.out⟩, ⟨Rz (Kd.R_mono HO_524002.out (fun _ hk => hk.2))⟩, ⟨Kz BK517.out⟩, ⟨Kz BK518.out⟩, ⟨Kz BK523.out⟩, ⟨Bq⟩⟩
         ·rw [if_neg c27] at H
          exact absurd H (by simp)
        ·rw [if_neg c26] at H
         exact absurd H (by simp)
       ·rw [if_neg c25] at H
        have c25b0 : decide (0 ≤ t525) = false := decide_eq_false c25; clear c25
        by_cases c38 : x524002_1.length < 8796093022208
        ·rw [if_pos c38] at H
         have LMc38 := am c38; clear c38; obtain ⟨y527, hy527⟩ : ∃ y_ : List ByteArray, y_ = (x524002_1 ++ [rdOf ByteArray.empty l0_2 x21_1]) := ⟨_, rfl⟩
         replace H : (spec_CuckooUnstash.l0 k1 l0_2 (l0_2.length : Int) (wrap64 (x21_1 + 1)) a0_0 x524001_1 y527) = some (r1, r2, r3, r4) := by first | (rw [hy527]; with_reducible exact H) | (have H2_ := (Option.bind_some _ _).symm.trans H; rw [hy527]; with_reducible exact H2_) | (have H2_ := (Option.bind_some _ _).symm.trans H; with_reducible exact H2_) | with_reducible exact H | (rw [hy527]; exact H) | exact H
         have Ny527 := am hy527; clear hy527; have H' := am H; clear H; have p524 : 0 ≤ (x21_1 : Int) := dT; have q524 : x21_1 < (l0_2.length : Int) := dT; obtain ⟨ad524, e524, hx524_0⟩ := Kd.at_string HR0_2.out x21_1 p524 q524; cases e524; replace hx524_0 := (HB.out.cell (World.block_lt_of_cell? w _ hx524_0)).trans hx524_0; replace p524 := eq_true p524; replace q524 := eq_true q524; have hnb39 := NB523_517.out; have hnc39 := NB517_523.out; have hnb40 := NB523_518.out; have hnc40 := NB518_523.out; obtain ⟨hcz41_0, hcz41_1, hcz41_2, hfz41_0, hfz41_1, hfz41_2⟩ := cf3 (w := wr) BK523; obtain ⟨Ao42, co42, eo42⟩ := Kd.R_slice HO_524001.out; subst eo42; obtain ⟨Ao43, co43, eo43⟩ := Kd.R_slice HO_524002.out; subst eo43
         go_wp2_with (first | ((with_reducible refine gate_callee (f := 110) rfl ?_); refine gL (some 27) Try.func110 #[.agg #[.int .i64 a0_0, .slice Ao42 x524001_1.length co42, .slice Ao43 x524002_1.length co43], .string (rdOf ByteArray.empty l0_2 x21_1)] ?_; (with_reducible refine (spec_cuEmpty.calls k1 a0_0 _ _ x524001_1 _ _ x524002_1 (rdOf ByteArray.empty l0_2 x21_1) t525 _ ?side1 ?side2 ?side3 ?side4 A24.out).mono ?_); (case side1 => exact Cz ((Kd.R_reads' HO_524001.out).2.2)); (case side2 => exact (Kd.R_reads' HO_524001.out).2.1); (case side3 => exact Cz ((Kd.R_reads' HO_524002.out).2.2)); (case side4 => exact (Kd.R_reads' HO_524002.out).2.1); rintro e w44 ⟨rfl, hb⟩; refine ⟨_, rfl, ?_⟩; have n0_ := Rb HO_524001 hb; have n1_ := Rb HO_524002 hb; have n2_ := Kb BK517 hb; have n3_ := Kb BK518 hb; have n4_ := Kb BK523 hb; have n5_ := Bc HB hb; clear HO_524001 HO_524002 BK517 BK518 BK523 HB; revert n0_ n1_ n2_ n3_ n4_ n5_; intro HO_524001 HO_524002 BK517 BK518 BK523 HB; (try clear hb); (try clear hb2); (try clear hk); (try clear hi); obtain ⟨hcz45_0, hcz45_1, hcz45_2, hfz45_0, hfz45_1, hfz45_2⟩ := cf3 (w := w44) BK523) | ((with_reducible refine gate_builtin (b := .append) (xs := #[.tmp 36, .tmp 38]) rfl ?_); at_builtin; refine Kd.R_append Kd.string (w0 := w) w.heap.size rfl (.tmp 36) (.tmp 38) 24 9 (.string ⟨#[]⟩) 16 rfl Try.underlying24 info9 rfl (by decide) (by omega) (.slice Ao43 x524002_1.length co43) x524002_1 (rdOf ByteArray.empty l0_2 x21_1) [.string (rdOf ByteArray.empty l0_2 x21_1)] (fun k_ => some k_ ≠ (.slice Ao42 x524001_1.length co42 : Value).ownBlock) (fun _ => False) rfl rfl ?aP (fun _ hk => hk.elim) ?aF ?aO ?aB ?aS ?aL ?_; (case aP => exact rfl); (case aB => exact (Bq)); (case aF => exact (fun k_ hk => Kd.fresh' (Kd.R_lt (Rz HO_524001.out)) k_ hk)); (case aO => exact (Rz HO_524002.out)); (case aS => exact (below_size (w := w) (Bq))); (case aL => have := LMc38.out; omega); intro v528 w46 ho hb hg hat; rw [← Ny527.out] at ho; have n0_ := am (Kd.R_after (ok := (fun _ => True)) (Rz (Kd.R_mono HO_524001.out (fun _ hk => ⟨trivial, hk⟩))) hg hat); have n1_ := am (blk_grown (g := gb517) (o := .cells #[.int .i64 a0_0, .slice A0_1 l0_1.length c0_1, .slice (some ad524) l0_2.length c0_2] 51 (0, 0)) (Kz BK517.out) hg (Kd.R_ne HO_524002.out BK517.out (by decide))); have n2_ := am (blk_grown (g := gb518) (o := .cells #[.int .i64 0, .slice none 0 0, .slice none 0 0] 51 (0, 0)) (Kz BK518.out) hg (Kd.R_ne HO_524002.out BK518.out (by decide))); have n3_ := am (blk_grown (g := gb523) (o := .cells #[.int .i64 a0_0, .slice Ao42 x524001_1.length co42, .slice Ao43 x524002_1.length co43] 51 (0, 0)) (Kz BK523.out) hg (Kd.R_ne HO_524002.out BK523.out (by decide))); have n4_ := am (hb); have n5_ := am (ho); clear HO_524001 BK517 BK518 BK523 HB HO_524002; revert n0_ n1_ n2_ n3_ n4_ n5_; intro HO_524001 BK517 BK518 BK523 HB HO529; clear ho hb hg hat; obtain ⟨Ao47, co47, eo47⟩ := Kd.R_slice HO529.out; subst eo47; obtain ⟨hcz48_0, hcz48_1, hcz48_2, hfz48_0, hfz48_1, hfz48_2⟩ := cf3 (w := w46) BK523))
         go_roundg k1
         case measure => have := HK1.out; omega
         case rel => exact ⟨(wrap64 (x21_1 + 1)), (x524001_1), (y527), (.slice Ao42 x524001_1.length co42), (.slice Ao47 y527.length co47), wZ, H', ⟨by have := HK1.out; omega⟩, ⟨Rz (Kd.R_mono (Kd.R_far (p := ⟨gb523, 2, none⟩) (Kd.R_types HO_524001.out BK523.out (by decide)) (fun _ hk => hk.2) (.slice Ao47 y527.length co47)) (fun _ hk => hk.1.2))⟩, ⟨Rz (Kd.R_mono (Kd.R_far (p := ⟨gb523, 2, none⟩) (Kd.R_types HO529.out BK523.out (by decide)) (fun _ hk => hk.2) (.slice Ao47 y527.length co47)) (fun _ hk => hk.1))⟩, ⟨by (with_reducible repeat (first | refine blk_drewN ?_ _ | refine blk_drew ?_ | refine blk_alloc ?_ _)); refine blk_far ?_ NB517_523.out _; (with_reducible repeat (first | refine blk_drewN ?_ _ | refine blk_drew ?_ | refine blk_alloc ?_ _)); exact BK517.out⟩, ⟨by (with_reducible repeat (first | refine blk_drewN ?_ _ | refine blk_drew ?_ | refine blk_alloc ?_ _)); refine blk_far ?_ NB518_523.out _; (with_reducible repeat (first | refine blk_drewN ?_ _ | refine blk_drew ?_ | refine blk_alloc ?_ _)); exact BK518.out⟩, ⟨by (with_reducible repeat (first | refine blk_drewN ?_ _ | refine blk_drew ?_ | refine blk_alloc ?_ _)); refine blk_put (cs := #[.int .i64 a0_0, .slice Ao42 x524001_1.length co42, .slice Ao43 x524002_1.length co43]) ?_ 2 _ rfl; (with_reducible repeat (first | refine blk_drewN ?_ _ | refine blk_drew ?_ | refine blk_alloc ?_ _)); exact BK523.out⟩, ⟨Bq⟩⟩
        ·rw [if_neg c38] at H
         exact absurd H (by simp)
      ·rw [if_neg c23] at H
       exact absurd H (by simp)
     ·rw [if_neg c22] at H
      exact absurd H (by simp)
    ·rw [if_neg c21] at H
     have c21b0 : decide (x21_1 < (l0_2.length : Int)) = false := decide_eq_false c21; clear c21
     simp only [Option.some.injEq, Prod.mk.injEq] at H
     obtain ⟨rfl, rfl, rfl, rfl⟩ := H; have hnb49 := NB523_517.out; have hnc49 := NB517_523.out; have hnb50 := NB523_518.out; have hnc50 := NB518_523.out; obtain ⟨hcz51_0, hcz51_1, hcz51_2, hfz51_0, hfz51_1, hfz51_2⟩ := cf3 (w := wr) BK523; have hnb52 := NB518_517.out; have hnc52 := NB517_518.out; obtain ⟨hcz53_0, hcz53_1, hcz53_2, hfz53_0, hfz53_1, hfz53_2⟩ := cf3 (w := wr) BK518; obtain ⟨Ao54, co54, eo54⟩ := Kd.R_slice HO_524001.out; subst eo54; obtain ⟨Ao55, co55, eo55⟩ := Kd.R_slice HO_524002.out; subst eo55
     go_wp2
     refine bodyPost_ret (results_ct rfl _ _ gb518 51 #[.int .i64 a0_0, .slice Ao54 x524001_1.length co54, .slice Ao55 x524002_1.length co55] (0, 0) _ rfl (by (with_reducible repeat (first | refine blk_drewN ?_ _ | refine blk_drew ?_ | refine blk_alloc ?_ _)); refine blk_put (cs := #[.int .i64 a0_0, .slice Ao54 x524001_1.length co54, .slice none 0 0]) ?_ 2 _ rfl; (with_reducible repeat (first | refine blk_drewN ?_ _ | refine blk_drew ?_ | refine blk_alloc ?_ _)); refine blk_put (cs := #[.int .i64 a0_0, .slice none 0 0, .slice none 0 0]) ?_ 1 _ rfl; (with_reducible repeat (first | refine blk_drewN ?_ _ | refine blk_drew ?_ | refine blk_alloc ?_ _)); refine blk_put (cs := #[.int .i64 0, .slice none 0 0, .slice none 0 0]) ?_ 0 _ rfl; exact Kz BK518.out) Try.underlying51 rfl (by kernel_rfl)) rfl ?_; exact ⟨_, _, eZ, Rz (Kd.R_mono (Kd.R_far (p := ⟨gb518, 2, none⟩) (Kd.R_far (p := ⟨gb518, 1, none⟩) (Kd.R_far (p := ⟨gb518, 0, none⟩) (Kd.R_types HO_524001.out BK518.out (by decide)) (fun _ hk => hk.2) (.int .i64 a0_0)) (fun _ hk => hk.2) (.slice Ao54 x524001_1.length co54)) (fun _ hk => hk.2) (.slice Ao55 x524002_1.length co55)) (fun _ hk => hk.1)), Rz (Kd.R_mono (Kd.R_far (p := ⟨gb518, 2, none⟩) (Kd.R_far (p := ⟨gb518, 1, none⟩) (Kd.R_far (p := ⟨gb518, 0, none⟩) (Kd.R_types HO_524002.out BK518.out (by decide)) (fun _ hk => hk.2) (.int .i64 a0_0)) (fun _ hk => hk.2) (.slice Ao54 x524001_1.length co54)) (fun _ hk => hk.2) (.slice Ao55 x524002_1.length co55)) (fun _ hk => hk.1)), Bq⟩
 ·replace c3 := Bool.eq_false_iff.mpr c3
  subst c3
  rw [if_neg (show ¬ (false = true) by decide)] at H
  simp only [Option.some.injEq, Prod.mk.injEq] at H
  obtain ⟨rfl, rfl, rfl, rfl⟩ := H
  go_enter Try.func50, Try.ntmps50
  go_wp2_with (first | ((with_reducible refine gate_dst (N := 1) rfl ?_); refine bE 1 #[.int .i64 a0_0, .slice A0_1 l0_1.length c0_1, .slice A0_2 l0_2.length c0_2] 51 ?_; intro gb517 hg w56 hbox hb; have n0_ := Bb HB hb; have n1_ := am (hbox); have n2_ := Gl HB hg; have n3_ := Gl HB hg; clear HB; revert n0_ n1_ n2_ n3_; intro HB BK517 GW517 GE517; clear hb hbox hg) | ((with_reducible refine gate_dst (N := 2) rfl ?_); refine bE 2 #[.int .i64 0, .slice none 0 0, .slice none 0 0] 51 ?_; intro gb518 hg w57 hbox hb; have n0_ := Kb BK517 hb; have n1_ := Bc HB hb; have n2_ := am (hbox); have n3_ := Gm HB hg; have n4_ := Gm HB hg; have n5_ := Nl BK517 hg; have n6_ := Ng BK517 hg; clear BK517 HB; revert n0_ n1_ n2_ n3_ n4_ n5_ n6_; intro BK517 HB BK518 GW518 GE518 NB517_518 NB518_517; clear hb hbox hg; have hnb58 := NB517_518.out; have hnc58 := NB518_517.out; obtain ⟨hcz59_0, hcz59_1, hcz59_2, hfz59_0, hfz59_1, hfz59_2⟩ := cf3 (w := w57) BK517) | ((with_reducible refine gate_callee (f := 100) rfl ?_); refine gL (some 9) Try.func100 #[.agg #[.int .i64 a0_0, .slice A0_1 l0_1.length c0_1, .slice A0_2 l0_2.length c0_2]] ?_; (with_reducible refine (spec_cuGood.calls k a0_0 _ _ l0_1 _ _ l0_2 false _ ?side1 ?side2 ?side3 ?side4 A2.out).mono ?_); (case side1 => exact Cz (Kd.C_below HR0_1.out HB.out)); (case side2 => exact HC0_1.out); (case side3 => exact Cz (Kd.C_below HR0_2.out HB.out)); (case side4 => exact HC0_2.out); rintro e w60 ⟨rfl, hb⟩; refine ⟨_, rfl, ?_⟩; have n0_ := Kb BK517 hb; have n1_ := Kb BK518 hb; have n2_ := Bc HB hb; clear BK517 BK518 HB; revert n0_ n1_ n2_; intro BK517 BK518 HB; (try clear hb); (try clear hb2); (try clear hk); (try clear hi); obtain ⟨hcz61_0, hcz61_1, hcz61_2, hfz61_0, hfz61_1, hfz61_2⟩ := cf3 (w := w60) BK518))
  refine bodyPost_ret (results_ct rfl _ _ gb518 51 #[.int .i64 0, .slice none 0 0, .slice none 0 0] (0, 0) _ rfl (by (with_reducible repeat (first | refine blk_drewN ?_ _ | refine blk_drew ?_ | refine blk_alloc ?_ _)); refine blk_put (cs := #[.int .i64 0, .slice none 0 0, .slice none 0 0]) ?_ 2 _ rfl; (with_reducible repeat (first | refine blk_drewN ?_ _ | refine blk_drew ?_ | refine blk_alloc ?_ _)); refine blk_put (cs := #[.int .i64 0, .slice none 0 0, .slice none 0 0]) ?_ 1 _ rfl; (with_reducible repeat (first | refine blk_drewN ?_ _ | refine blk_drew ?_ | refine blk_alloc ?_ _)); refine blk_put (cs := #[.int .i64 0, .slice none 0 0, .slice none 0 0]) ?_ 0 _ rfl; exact Kz BK518.out) Try.underlying51 rfl (by kernel_rfl)) rfl ?_; exact ⟨_, _, eZ, nZ, nZ, Bq⟩

mutual
def laws_FnCuckooFinds.j0 : Nat → List Int → ByteArray → Bool → Bool → Int → List ByteArray → List ByteArray → Int → List ByteArray → List ByteArray → Option (Bool)
 | 0, _, _, _, _, _, _, _, _, _, _ => none
 | k + 1, x1, x6, x8, x83, x540000, x540001, x540002, x553000, x553001, x553002 => if x83 = true then (some false) else (if x8 = true then ((impl_CuckooKeys.f k x540000 x540001 x540002).bind fun bt563 => ((impl_CuckooFind.f k x553000 x553001 x553002 x6).bind fun bt567 => (if bt563.2 = true then (if bt567.2 = true then (some false) else ((laws_rHasText.f k bt563.1 x6).bind fun t569 => (if t569 = true then (laws_FnCuckooFinds.j1 k x1) else (some false)))) else (some false)))) else (laws_FnCuckooFinds.j1 k x1))
def laws_FnCuckooFinds.j1 : Nat → List Int → Option (Bool)
 | 0, _ => none
 | k + 1, x1 => (spec_DrawCuckooUnstash.f k x1).bind fun bt570 => ((impl_CuckooUnstash.f k bt570.1 bt570.2.1 bt570.2.2).bind fun bt578 => ((spec_CuckooUnstash.f k bt570.1 bt570.2.1 bt570.2.2).bind fun bt587 => (if (bt578.2.2.2 != bt587.2.2.2) = true then (laws_FnCuckooFinds.j2 k bt578.2.2.2 true bt570.1 bt570.2.1 bt570.2.2 bt578.1 bt578.2.1 bt578.2.2.1) else ((laws_rSameCuckoo.f k bt578.1 bt578.2.1 bt578.2.2.1 bt587.1 bt587.2.1 bt587.2.2.1).bind fun t596 => (laws_FnCuckooFinds.j2 k bt578.2.2.2 (!t596) bt570.1 bt570.2.1 bt570.2.2 bt578.1 bt578.2.1 bt578.2.2.1)))))
def laws_FnCuckooFinds.j2 : Nat → Bool → Bool → Int → List ByteArray → List ByteArray → Int → List ByteArray → List ByteArray → Option (Bool)
 | 0, _, _, _, _, _, _, _, _ => none
 | k + 1, x21, x127, x578000, x578001, x578002, x587000, x587001, x587002 => if x127 = true then (some false) else (if x21 = true then ((impl_CuckooKeys.f k x578000 x578001 x578002).bind fun bt597 => ((impl_CuckooKeys.f k x587000 x587001 x587002).bind fun bt601 => (if bt597.2 = true then (if bt601.2 = true then ((laws_pSameTexts.f k bt597.1 bt601.1).bind fun t605 => (if t605 = true then (if (x587002.length : Int) ≤ (x578002.length : Int) then ((impl_IsCuckoo.f k x587000 x587001 x587002).bind fun t606 => (some t606)) else (some false)) else (some false))) else (some false)) else (some false)))) else (some true))
end
def laws_FnCuckooFinds.f (k : Nat) (l0 : List Int) (l1 : List Int) : Option (Bool) := (laws_big.f l0 l1).bind fun t530 => (if t530 = true then (some true) else ((spec_DrawCuckooFind.f k l0).bind fun bt531 => ((impl_CuckooFind.f k bt531.1 bt531.2.1 bt531.2.2.1 bt531.2.2.2).bind fun bt540 => ((spec_CuckooFind.f k bt531.1 bt531.2.1 bt531.2.2.1 bt531.2.2.2).bind fun bt542 => ((impl_CuckooRemove.f k bt531.1 bt531.2.1 bt531.2.2.1 bt531.2.2.2).bind fun bt544 => ((spec_CuckooRemove.f k bt531.1 bt531.2.1 bt531.2.2.1 bt531.2.2.2).bind fun bt553 => (if (bt540.2 != bt542.2) = true then (laws_FnCuckooFinds.j0 k l1 bt531.2.2.2 bt540.2 true bt531.1 bt531.2.1 bt531.2.2.1 bt544.1 bt544.2.1 bt544.2.2.1) else (if bt540.1 = bt542.1 then (if (bt544.2.2.2 != bt553.2.2.2) = true then (laws_FnCuckooFinds.j0 k l1 bt531.2.2.2 bt540.2 true bt531.1 bt531.2.1 bt531.2.2.1 bt544.1 bt544.2.1 bt544.2.2.1) else ((laws_rSameCuckoo.f k bt544.1 bt544.2.1 bt544.2.2.1 bt553.1 bt553.2.1 bt553.2.2.1).bind fun t562 => (if t562 = true then (laws_FnCuckooFinds.j0 k l1 bt531.2.2.2 bt540.2 (bt540.2 != bt544.2.2.2) bt531.1 bt531.2.1 bt531.2.2.1 bt544.1 bt544.2.1 bt544.2.2.1) else (laws_FnCuckooFinds.j0 k l1 bt531.2.2.2 bt540.2 true bt531.1 bt531.2.1 bt531.2.2.1 bt544.1 bt544.2.1 bt544.2.2.1)))) else (laws_FnCuckooFinds.j0 k l1 bt531.2.2.2 bt540.2 true bt531.1 bt531.2.1 bt531.2.2.1 bt544.1 bt544.2.1 bt544.2.2.1)))))))))
theorem laws_FnCuckooFinds.j0.dead (k : Nat) (y0 : List Int) (y1 : ByteArray) (y2 : Bool) (y4 : Int) (y5 : List ByteArray) (y6 : List ByteArray) (y7 : Int) (y8 : List ByteArray) (y9 : List ByteArray) : laws_FnCuckooFinds.j0 k y0 y1 y2 true y4 y5 y6 y7 y8 y9 ≠ some true := by cases k <;> simp [laws_FnCuckooFinds.j0]
theorem laws_FnCuckooFinds.j2.dead (k : Nat) (y0 : Bool) (y2 : Int) (y3 : List ByteArray) (y4 : List ByteArray) (y5 : Int) (y6 : List ByteArray) (y7 : List ByteArray) : laws_FnCuckooFinds.j2 k y0 true y2 y3 y4 y5 y6 y7 ≠ some true := by cases k <;> simp [laws_FnCuckooFinds.j2]
theorem laws_FnCuckooFinds.calls (k : Nat) (A0 : Option Addr) (c0 : Nat) (l0 : List Int) (A1 : Option Addr) (c1 : Nat) (l1 : List Int) (r : Bool) (w : World) (hr0 : Kd.C (Kd.int .u8) w A0 l0.length l0) (hc0 : l0.length ≤ c0) (hr1 : Kd.C (Kd.int .u8) w A1 l1.length l1) (hc1 : l1.length ≤ c1) (h : laws_FnCuckooFinds.f k l0 l1 = some r) (hT_ : r = true) :
  Calls Try.prog 8 #[.slice A0 l0.length c0, .slice A1 l1.length c1] w fun e w' => e = .returned (.bool r) ∧ Below w.heap.size w w' := by
 have hu51 := Try.underlying51; have HR0 := am hr0; have HC0 := am hc0; clear hr0 hc0; have HR1 := am hr1; have HC1 := am hc1; clear hr1 hc1; have HB := am (Below.refl w.heap.size w); have H : ((laws_big.f l0 l1).bind fun t530 => (if t530 = true then (some true) else ((spec_DrawCuckooFind.f k l0).bind fun bt531 => ((impl_CuckooFind.f k bt531.1 bt531.2.1 bt531.2.2.1 bt531.2.2.2).bind fun bt540 => ((spec_CuckooFind.f k bt531.1 bt531.2.1 bt531.2.2.1 bt531.2.2.2).bind fun bt542 => ((impl_CuckooRemove.f k bt531.1 bt531.2.1 bt531.2.2.1 bt531.2.2.2).bind fun bt544 => ((spec_CuckooRemove.f k bt531.1 bt531.2.1 bt531.2.2.1 bt531.2.2.2).bind fun bt553 => (if (bt540.2 != bt542.2) = true then (laws_FnCuckooFinds.j0 k l1 bt531.2.2.2 bt540.2 true bt531.1 bt531.2.1 bt531.2.2.1 bt544.1 bt544.2.1 bt544.2.2.1) else (if bt540.1 = bt542.1 then (if (bt544.2.2.2 != bt553.2.2.2) = true then (laws_FnCuckooFinds.j0 k l1 bt531.2.2.2 bt540.2 true bt531.1 bt531.2.1 bt531.2.2.1 bt544.1 bt544.2.1 bt544.2.2.1) else ((laws_rSameCuckoo.f k bt544.1 bt544.2.1 bt544.2.2.1 bt553.1 bt553.2.1 bt553.2.2.1).bind fun t562 => (if t562 = true then (laws_FnCuckooFinds.j0 k l1 bt531.2.2.2 bt540.2 (bt540.2 != bt544.2.2.2) bt531.1 bt531.2.1 bt531.2.2.1 bt544.1 bt544.2.1 bt544.2.2.1) else (laws_FnCuckooFinds.j0 k l1 bt531.2.2.2 bt540.2 true bt531.1 bt531.2.1 bt531.2.2.1 bt544.1 bt544.2.1 bt544.2.2.1)))) else (laws_FnCuckooFinds.j0 k l1 bt531.2.2.2 bt540.2 true bt531.1 bt531.2.1 bt531.2.2.1 bt544.1 bt544.2.1 bt544.2.2.1)))))))))) = some r := h; clear h; have HQT_ := am hT_; clear hT_; replace H := Option.bind_eq_some_iff.mp H; obtain ⟨t530, A30, H⟩ := H; (try dsimp -simprocs only at H); have A3 := am A30; clear A30
 by_cases c4 : t530 = true
 ·subst c4
  rw [if_pos rfl] at H; obtain rfl := Option.some.inj H
  go_enter Try.func8, Try.ntmps8
  go_wp2_with (first | ((with_reducible refine gate_callee (f := 11) rfl ?_); refine gL (some 30) Try.func11 #[.slice A0 l0.length c0, .slice A1 l1.length c1] ?_; (with_reducible refine (laws_big.calls _ _ l0 _ _ l1 true _ ?side1 ?side2 ?side3 ?side4 A3.out).mono ?_); (case side1 => exact Cz HR0.out); (case side2 => exact HC0.out); (case side3 => exact Cz HR1.out); (case side4 => exact HC1.out); rintro e w' ⟨rfl, ⟨nd, rfl⟩⟩; refine ⟨_, rfl, ?_⟩))
  go_ret
  exact ⟨eZ, Bz HB.out⟩
 ·replace c4 := Bool.eq_false_iff.mpr c4
  subst c4
  rw [if_neg (show ¬ (false = true) by decide)] at H; replace H := Option.bind_eq_some_iff.mp H; obtain ⟨⟨t531, t532, t535, t538⟩, A50, H⟩ := H; (try dsimp -simprocs only at H); have A5 := am A50; clear A50; replace H := Option.bind_eq_some_iff.mp H; obtain ⟨⟨t540, t541⟩, A60, H⟩ := H; (try dsimp -simprocs only at H); have A6 := am A60; clear A60; replace H := Option.bind_eq_some_iff.mp H; obtain ⟨⟨t542, t543⟩, A70, H⟩ := H; (try dsimp -simprocs only at H)
  have A7 := am A70; clear A70; replace H := Option.bind_eq_some_iff.mp H; obtain ⟨⟨t544, t545, t548, t551⟩, A80, H⟩ := H; (try dsimp -simprocs only at H); have A8 := am A80; clear A80; replace H := Option.bind_eq_some_iff.mp H; obtain ⟨⟨t553, t554, t557, t560⟩, A90, H⟩ := H; (try dsimp -simprocs only at H); have A9 := am A90; clear A90; have HC10 := am H; clear H
  go_enter Try.func8, Try.ntmps8
  go_upto_region 8 with (first | ((with_reducible refine gate_callee (f := 11) rfl ?_); refine gL (some 30) Try.func11 #[.slice A0 l0.length c0, .slice A1 l1.length c1] ?_; (with_reducible refine (laws_big.calls _ _ l0 _ _ l1 false _ ?side1 ?side2 ?side3 ?side4 A3.out).mono ?_); (case side1 => exact Cz HR0.out); (case side2 => exact HC0.out); (case side3 => exact Cz HR1.out); (case side4 => exact HC1.out); rintro e w' ⟨rfl, ⟨nd, rfl⟩⟩; refine ⟨_, rfl, ?_⟩) | ((with_reducible refine gate_callee (f := 40) rfl ?_); refine gL (some 33) Try.func40 #[.slice A0 l0.length c0] ?_; (with_reducible refine (spec_DrawCuckooFind.calls k _ _ l0 t531 t532 t535 t538 _ ?side1 ?side2 A5.out).mono ?_); (case side1 => exact Cz HR0.out); (case side2 => exact HC0.out); rintro e w11 ⟨v533, v536, rfl, ho0, ho1, hb⟩; refine ⟨_, rfl, ?_⟩; have n0_ := Rl ho0 HB; have n1_ := Rl ho1 HB; have n2_ := Bb HB hb; clear HB; revert n0_ n1_ n2_; intro HO534 HO537 HB; (try clear hb); (try clear hb2); (try clear hk); (try clear hi); (try clear ho0); (try clear ho1)) | ((with_reducible refine gate_dst (N := 5) rfl ?_); (try (refine gate_guard (by rfl) ?_; dsimp only)); refine bE 5 #[.int .i64 0, .slice none 0 0, .slice none 0 0] 51 ?_; intro gb539 hg w12 hbox hb; have n0_ := Rb HO534 hb; have n1_ := Rb HO537 hb; have n2_ := Bb HB hb; have n3_ := am (hbox); have n4_ := Gl HB hg; have n5_ := Gl HB hg; clear HO534 HO537 HB; revert n0_ n1_ n2_ n3_ n4_ n5_; intro HO534 HO537 HB BK539 GW539 GE539; clear hb hbox hg; obtain ⟨hcz13_0, hcz13_1, hcz13_2, hfz13_0, hfz13_1, hfz13_2⟩ := cf3 (w := w12) BK539; obtain ⟨Ao14, co14, eo14⟩ := Kd.R_slice HO534.out; subst eo14; obtain ⟨Ao15, co15, eo15⟩ := Kd.R_slice HO537.out; subst eo15) | ((with_reducible refine gate_callee (f := 41) rfl ?_); refine gL (some 39) Try.func41 #[.agg #[.int .i64 t531, .slice Ao14 t532.length co14, .slice Ao15 t535.length co15], .string t538] ?_; (with_reducible refine (impl_CuckooFind.calls k t531 _ _ t532 _ _ t535 t538 t540 t541 _ ?side1 ?side2 ?side3 ?side4 A6.out).mono ?_); (case side1 => refine (Kd.R_reads' (e := 9) (base := w.heap.size) (ok := fun k_ => some k_ ≠ (.slice Ao15 t535.length co15 : Value).ownBlock) (n := t532.length) (c := co14) ?_).2.2; exact (Rz (Kd.R_mono (Kd.R_far (p := ⟨gb539, 2, none⟩) (Kd.R_far (p := ⟨gb539, 1, none⟩) (Kd.R_far (p := ⟨gb539, 0, none⟩) (Kd.R_types HO534.out BK539.out (by decide)) (fun _ hk => hk.2) (.int .i64 t531)) (fun _ hk => hk.2) (.slice Ao14 t532.length co14)) (fun _ hk => hk.2) (.slice Ao15 t535.length co15)) (fun _ h_ => h_.1)))); (case side2 => exact (Kd.R_reads' HO534.out).2.1); (case side3 => refine (Kd.R_reads' (e := 9) (base := w.heap.size) (ok := fun k_ => some k_ ≠ (.slice Ao14 t532.length co14 : Value).ownBlock) (n := t535.length) (c := co15) ?_).2.2; exact (Rz (Kd.R_mono (Kd.R_far (p := ⟨gb539, 2, none⟩) (Kd.R_far (p := ⟨gb539, 1, none⟩) (Kd.R_far (p := ⟨gb539, 0, none⟩) (Kd.R_types HO537.out BK539.out (by decide)) (fun _ hk => hk.2) (.int .i64 t531)) (fun _ hk => hk.2) (.slice Ao14 t532.length co14)) (fun _ hk => hk.2) (.slice Ao15 t535.length co15)) (fun _ h_ => h_.1)))); (case side4 => exact (Kd.R_reads' HO537.out).2.1); rintro e w16 ⟨rfl, hb⟩; refine ⟨_, rfl, ?_⟩; have n0_ := am (Kd.R_below (Rz (Kd.R_mono (Kd.R_far (p := ⟨gb539, 2, none⟩) (Kd.R_far (p := ⟨gb539, 1, none⟩) (Kd.R_far (p := ⟨gb539, 0, none⟩) (Kd.R_types HO534.out BK539.out (by decide)) (fun _ hk => hk.2) (.int .i64 t531)) (fun _ hk => hk.2) (.slice Ao14 t532.length co14)) (fun _ hk => hk.2) (.slice Ao15 t535.length co15)) (fun _ h_ => h_.1))) hb); have n1_ := am (Kd.R_below (Rz (Kd.R_mono (Kd.R_far (p := ⟨gb539, 2, none⟩) (Kd.R_far (p := ⟨gb539, 1, none⟩) (Kd.R_far (p := ⟨gb539, 0, none⟩) (Kd.R_types HO537.out BK539.out (by decide)) (fun _ hk => hk.2) (.int .i64 t531)) (fun _ hk => hk.2) (.slice Ao14 t532.length co14)) (fun _ hk => hk.2) (.slice Ao15 t535.length co15)) (fun _ h_ => h_.1))) hb); have n2_ := am (blk_below (g := gb539) (o := .cells #[.int .i64 t531, .slice Ao14 t532.length co14, .slice Ao15 t535.length co15] 51 (0, 0)) (by (with_reducible repeat (first | refine blk_drewN ?_ _ | refine blk_drew ?_ | refine blk_alloc ?_ _)); refine blk_put (cs := #[.int .i64 t531, .slice Ao14 t532.length co14, .slice none 0 0]) ?_ 2 _ rfl; (with_reducible repeat (first | refine blk_drewN ?_ _ | refine blk_drew ?_ | refine blk_alloc ?_ _)); refine blk_put (cs := #[.int .i64 t531, .slice none 0 0, .slice none 0 0]) ?_ 1 _ rfl; (with_reducible repeat (first | refine blk_drewN ?_ _ | refine blk_drew ?_ | refine blk_alloc ?_ _)); refine blk_put (cs := #[.int .i64 0, .slice none 0 0, .slice none 0 0]) ?_ 0 _ rfl; exact Kz BK539.out) hb); have n3_ := Bc HB hb; clear HO534 HO537 BK539 HB; revert n0_ n1_ n2_ n3_; intro HO534 HO537 BK539 HB; (try clear hb); (try clear hb2); (try clear hk); (try clear hi); obtain ⟨hcz17_0, hcz17_1, hcz17_2, hfz17_0, hfz17_1, hfz17_2⟩ := cf3 (w := w16) BK539) | ((with_reducible refine gate_callee (f := 42) rfl ?_); refine gL (some 45) Try.func42 #[.agg #[.int .i64 t531, .slice Ao14 t532.length co14, .slice Ao15 t535.length co15], .string t538] ?_; (with_reducible refine (spec_CuckooFind.calls k t531 _ _ t532 _ _ t535 t538 t542 t543 _ ?side1 ?side2 ?side3 ?side4 A7.out).mono ?_); (case side1 => exact Cz ((Kd.R_reads' HO534.out).2.2)); (case side2 => exact (Kd.R_reads' HO534.out).2.1); (case side3 => exact Cz ((Kd.R_reads' HO537.out).2.2)); (case side4 => exact (Kd.R_reads' HO537.out).2.1); rintro e w18 ⟨rfl, hb⟩; refine ⟨_, rfl, ?_⟩; have n0_ := Rb HO534 hb; have n1_ := Rb HO537 hb; have n2_ := Kb BK539 hb; have n3_ := Bc HB hb; clear HO534 HO537 BK539 HB; revert n0_ n1_ n2_ n3_; intro HO534 HO537 BK539 HB; (try clear hb); (try clear hb2); (try clear hk); (try clear hi); obtain ⟨hcz19_0, hcz19_1, hcz19_2, hfz19_0, hfz19_1, hfz19_2⟩ := cf3 (w := w18) BK539) | ((with_reducible refine gate_callee (f := 43) rfl ?_); refine gL (some 51) Try.func43 #[.agg #[.int .i64 t531, .slice Ao14 t532.length co14, .slice Ao15 t535.length co15], .string t538] ?_; (with_reducible refine (impl_CuckooRemove.calls k t531 _ _ t532 _ _ t535 t538 t544 t545 t548 t551 _ ?side1 ?side2 ?side3 ?side4 A8.out).mono ?_); (case side1 => exact Cz ((Kd.R_reads' HO534.out).2.2)); (case side2 => exact (Kd.R_reads' HO534.out).2.1); (case side3 => exact Cz ((Kd.R_reads' HO537.out).2.2)); (case side4 => exact (Kd.R_reads' HO537.out).2.1); rintro e w20 ⟨v546, v549, rfl, ho0, ho1, hb⟩; refine ⟨_, rfl, ?_⟩; have n0_ := am (Kd.R_mono (Kd.R_told (Kd.R_told (Kd.R_old (Rz HO534.out) hb) (Kd.R_base ho0)) (Kd.R_base ho1)) (fun _ h_ => h_.1)); have n1_ := am (Kd.R_mono (Kd.R_told (Kd.R_told (Kd.R_old (Rz HO537.out) hb) (Kd.R_base ho0)) (Kd.R_base ho1)) (fun _ h_ => h_.1)); have n2_ := Rm (Kd.R_new' (Kd.R_new' ho0 (Kd.R_lt (Rz HO534.out))) (Kd.R_lt (Rz HO537.out))) HB; have n3_ := Rm (Kd.R_new' (Kd.R_new' ho1 (Kd.R_lt (Rz HO534.out))) (Kd.R_lt (Rz HO537.out))) HB; have n4_ := Kb BK539 hb; have n5_ := Bc HB hb; clear HO534 HO537 BK539 HB; revert n0_ n1_ n2_ n3_ n4_ n5_; intro HO534 HO537 HO547 HO550 BK539 HB; (try clear hb); (try clear hb2); (try clear hk); (try clear hi); (try clear ho0); (try clear ho1)) | ((with_reducible refine gate_dst (N := 11) rfl ?_); (try (refine gate_guard (by rfl) ?_; dsimp only)); refine bE 11 #[.int .i64 0, .slice none 0 0, .slice none 0 0] 51 ?_; intro gb552 hg w21 hbox hb; have n0_ := Rb HO534 hb; have n1_ := Rb HO537 hb; have n2_ := Rb HO547 hb; have n3_ := Rb HO550 hb; have n4_ := Kb BK539 hb; have n5_ := Bc HB hb; have n6_ := am (hbox); have n7_ := Gm HB hg; have n8_ := Gm HB hg; have n9_ := Nl BK539 hg; have n10_ := Ng BK539 hg; clear HO534 HO537 HO547 HO550 BK539 HB; revert n0_ n1_ n2_ n3_ n4_ n5_ n6_ n7_ n8_ n9_ n10_; intro HO534 HO537 HO547 HO550 BK539 HB BK552 GW552 GE552 NB539_552 NB552_539; clear hb hbox hg; have hnb22 := NB552_539.out; have hnc22 := NB539_552.out; obtain ⟨hcz23_0, hcz23_1, hcz23_2, hfz23_0, hfz23_1, hfz23_2⟩ := cf3 (w := w21) BK552; obtain ⟨Ao24, co24, eo24⟩ := Kd.R_slice HO547.out; subst eo24; obtain ⟨Ao25, co25, eo25⟩ := Kd.R_slice HO550.out; subst eo25; obtain ⟨hcz26_0, hcz26_1, hcz26_2, hfz26_0, hfz26_1, hfz26_2⟩ := cf3 (w := w21) BK539) | ((with_reducible refine gate_callee (f := 44) rfl ?_); refine gL (some 57) Try.func44 #[.agg #[.int .i64 t531, .slice Ao14 t532.length co14, .slice Ao15 t535.length co15], .string t538] ?_; (with_reducible refine (spec_CuckooRemove.calls k t531 _ _ t532 _ _ t535 t538 t553 t554 t557 t560 _ ?side1 ?side2 ?side3 ?side4 A9.out).mono ?_); (case side1 => refine (Kd.R_reads' (e := 9) (base := w.heap.size) (ok := fun k_ => ((some k_ ≠ (.slice Ao15 t535.length co15 : Value).ownBlock ∧ some k_ ≠ (.slice Ao24 t545.length co24 : Value).ownBlock) ∧ some k_ ≠ (.slice Ao25 t548.length co25 : Value).ownBlock)) (n := t532.length) (c := co14) ?_).2.2; exact (Rz (Kd.R_mono (Kd.R_far (p := ⟨gb552, 2, none⟩) (Kd.R_far (p := ⟨gb552, 1, none⟩) (Kd.R_far (p := ⟨gb552, 0, none⟩) (Kd.R_types HO534.out BK552.out (by decide)) (fun _ hk => hk.2) (.int .i64 t544)) (fun _ hk => hk.2) (.slice Ao24 t545.length co24)) (fun _ hk => hk.2) (.slice Ao25 t548.length co25)) (fun _ h_ => h_.1)))); (case side2 => exact (Kd.R_reads' HO534.out).2.1); (case side3 => refine (Kd.R_reads' (e := 9) (base := w.heap.size) (ok := fun k_ => ((some k_ ≠ (.slice Ao14 t532.length co14 : Value).ownBlock ∧ some k_ ≠ (.slice Ao24 t545.length co24 : Value).ownBlock) ∧ some k_ ≠ (.slice Ao25 t548.length co25 : Value).ownBlock)) (n := t535.length) (c := co15) ?_).2.2; exact (Rz (Kd.R_mono (Kd.R_far (p := ⟨gb552, 2, none⟩) (Kd.R_far (p := ⟨gb552, 1, none⟩) (Kd.R_far (p := ⟨gb552, 0, none⟩) (Kd.R_types HO537.out BK552.out (by decide)) (fun _ hk => hk.2) (.int .i64 t544)) (fun _ hk => hk.2) (.slice Ao24 t545.length co24)) (fun _ hk => hk.2) (.slice Ao25 t548.length co25)) (fun _ h_ => h_.1)))); (case side4 => exact (Kd.R_reads' HO537.out).2.1); rintro e w27 ⟨v555, v558, rfl, ho0, ho1, hb⟩; refine ⟨_, rfl, ?_⟩; have n0_ := am (Kd.R_mono (Kd.R_told (Kd.R_told (Kd.R_old (Rz (Kd.R_mono (Kd.R_far (p := ⟨gb552, 2, none⟩) (Kd.R_far (p := ⟨gb552, 1, none⟩) (Kd.R_far (p := ⟨gb552, 0, none⟩) (Kd.R_types HO534.out BK552.out (by decide)) (fun _ hk => hk.2) (.int .i64 t544)) (fun _ hk => hk.2) (.slice Ao24 t545.length co24)) (fun _ hk => hk.2) (.slice Ao25 t548.length co25)) (fun _ h_ => h_.1))) hb) (Kd.R_base ho0)) (Kd.R_base ho1)) (fun _ h_ => h_.1)); have n1_ := am (Kd.R_mono (Kd.R_told (Kd.R_told (Kd.R_old (Rz (Kd.R_mono (Kd.R_far (p := ⟨gb552, 2, none⟩) (Kd.R_far (p := ⟨gb552, 1, none⟩) (Kd.R_far (p := ⟨gb552, 0, none⟩) (Kd.R_types HO537.out BK552.out (by decide)) (fun _ hk => hk.2) (.int .i64 t544)) (fun _ hk => hk.2) (.slice Ao24 t545.length co24)) (fun _ hk => hk.2) (.slice Ao25 t548.length co25)) (fun _ h_ => h_.1))) hb) (Kd.R_base ho0)) (Kd.R_base ho1)) (fun _ h_ => h_.1)); have n2_ := am (Kd.R_mono (Kd.R_told (Kd.R_told (Kd.R_old (Rz (Kd.R_mono (Kd.R_far (p := ⟨gb552, 2, none⟩) (Kd.R_far (p := ⟨gb552, 1, none⟩) (Kd.R_far (p := ⟨gb552, 0, none⟩) (Kd.R_types HO547.out BK552.out (by decide)) (fun _ hk => hk.2) (.int .i64 t544)) (fun _ hk => hk.2) (.slice Ao24 t545.length co24)) (fun _ hk => hk.2) (.slice Ao25 t548.length co25)) (fun _ h_ => h_.1))) hb) (Kd.R_base ho0)) (Kd.R_base ho1)) (fun _ h_ => h_.1)); have n3_ := am (Kd.R_mono (Kd.R_told (Kd.R_told (Kd.R_old (Rz (Kd.R_mono (Kd.R_far (p := ⟨gb552, 2, none⟩) (Kd.R_far (p := ⟨gb552, 1, none⟩) (Kd.R_far (p := ⟨gb552, 0, none⟩) (Kd.R_types HO550.out BK552.out (by decide)) (fun _ hk => hk.2) (.int .i64 t544)) (fun _ hk => hk.2) (.slice Ao24 t545.length co24)) (fun _ hk => hk.2) (.slice Ao25 t548.length co25)) (fun _ h_ => h_.1))) hb) (Kd.R_base ho0)) (Kd.R_base ho1)) (fun _ h_ => h_.1)); have n4_ := am (Kd.R_lower (Kd.R_new' (Kd.R_new' (Kd.R_new' (Kd.R_new' ho0 (Kd.R_lt (Rz (Kd.R_mono (Kd.R_far (p := ⟨gb552, 2, none⟩) (Kd.R_far (p := ⟨gb552, 1, none⟩) (Kd.R_far (p := ⟨gb552, 0, none⟩) (Kd.R_types HO534.out BK552.out (by decide)) (fun _ hk => hk.2) (.int .i64 t544)) (fun _ hk => hk.2) (.slice Ao24 t545.length co24)) (fun _ hk => hk.2) (.slice Ao25 t548.length co25)) (fun _ h_ => h_.1))))) (Kd.R_lt (Rz (Kd.R_mono (Kd.R_far (p := ⟨gb552, 2, none⟩) (Kd.R_far (p := ⟨gb552, 1, none⟩) (Kd.R_far (p := ⟨gb552, 0, none⟩) (Kd.R_types HO537.out BK552.out (by decide)) (fun _ hk => hk.2) (.int .i64 t544)) (fun _ hk => hk.2) (.slice Ao24 t545.length co24)) (fun _ hk => hk.2) (.slice Ao25 t548.length co25)) (fun _ h_ => h_.1))))) (Kd.R_lt (Rz (Kd.R_mono (Kd.R_far (p := ⟨gb552, 2, none⟩) (Kd.R_far (p := ⟨gb552, 1, none⟩) (Kd.R_far (p := ⟨gb552, 0, none⟩) (Kd.R_types HO547.out BK552.out (by decide)) (fun _ hk => hk.2) (.int .i64 t544)) (fun _ hk => hk.2) (.slice Ao24 t545.length co24)) (fun _ hk => hk.2) (.slice Ao25 t548.length co25)) (fun _ h_ => h_.1))))) (Kd.R_lt (Rz (Kd.R_mono (Kd.R_far (p := ⟨gb552, 2, none⟩) (Kd.R_far (p := ⟨gb552, 1, none⟩) (Kd.R_far (p := ⟨gb552, 0, none⟩) (Kd.R_types HO550.out BK552.out (by decide)) (fun _ hk => hk.2) (.int .i64 t544)) (fun _ hk => hk.2) (.slice Ao24 t545.length co24)) (fun _ hk => hk.2) (.slice Ao25 t548.length co25)) (fun _ h_ => h_.1))))) (below_size (w := w) (Bq))); have n5_ := am (Kd.R_lower (Kd.R_new' (Kd.R_new' (Kd.R_new' (Kd.R_new' ho1 (Kd.R_lt (Rz (Kd.R_mono (Kd.R_far (p := ⟨gb552, 2, none⟩) (Kd.R_far (p := ⟨gb552, 1, none⟩) (Kd.R_far (p := ⟨gb552, 0, none⟩) (Kd.R_types HO534.out BK552.out (by decide)) (fun _ hk => hk.2) (.int .i64 t544)) (fun _ hk => hk.2) (.slice Ao24 t545.length co24)) (fun _ hk => hk.2) (.slice Ao25 t548.length co25)) (fun _ h_ => h_.1))))) (Kd.R_lt (Rz (Kd.R_mono (Kd.R_far (p := ⟨gb552, 2, none⟩) (Kd.R_far (p := ⟨gb552, 1, none⟩) (Kd.R_far (p := ⟨gb552, 0, none⟩) (Kd.R_types HO537.out BK552.out (by decide)) (fun _ hk => hk.2) (.int .i64 t544)) (fun _ hk => hk.2) (.slice Ao24 t545.length co24)) (fun _ hk => hk.2) (.slice Ao25 t548.length co25)) (fun _ h_ => h_.1))))) (Kd.R_lt (Rz (Kd.R_mono (Kd.R_far (p := ⟨gb552, 2, none⟩) (Kd.R_far (p := ⟨gb552, 1, none⟩) (Kd.R_far (p := ⟨gb552, 0, none⟩) (Kd.R_types HO547.out BK552.out (by decide)) (fun _ hk => hk.2) (.int .i64 t544)) (fun _ hk => hk.2) (.slice Ao24 t545.length co24)) (fun _ hk => hk.2) (.slice Ao25 t548.length co25)) (fun _ h_ => h_.1))))) (Kd.R_lt (Rz (Kd.R_mono (Kd.R_far (p := ⟨gb552, 2, none⟩) (Kd.R_far (p := ⟨gb552, 1, none⟩) (Kd.R_far (p := ⟨gb552, 0, none⟩) (Kd.R_types HO550.out BK552.out (by decide)) (fun _ hk => hk.2) (.int .i64 t544)) (fun _ hk => hk.2) (.slice Ao24 t545.length co24)) (fun _ hk => hk.2) (.slice Ao25 t548.length co25)) (fun _ h_ => h_.1))))) (below_size (w := w) (Bq))); have n6_ := am (blk_below (g := gb539) (o := .cells #[.int .i64 t531, .slice Ao14 t532.length co14, .slice Ao15 t535.length co15] 51 (0, 0)) (by (with_reducible repeat (first | refine blk_drewN ?_ _ | refine blk_drew ?_ | refine blk_alloc ?_ _)); refine blk_far ?_ NB539_552.out _; (with_reducible repeat (first | refine blk_drewN ?_ _ | refine blk_drew ?_ | refine blk_alloc ?_ _)); refine blk_far ?_ NB539_552.out _; (with_reducible repeat (first | refine blk_drewN ?_ _ | refine blk_drew ?_ | refine blk_alloc ?_ _)); refine blk_far ?_ NB539_552.out _; exact Kz BK539.out) hb); have n7_ := am (blk_below (g := gb552) (o := .cells #[.int .i64 t544, .slice Ao24 t545.length co24, .slice Ao25 t548.length co25] 51 (0, 0)) (by (with_reducible repeat (first | refine blk_drewN ?_ _ | refine blk_drew ?_ | refine blk_alloc ?_ _)); refine blk_put (cs := #[.int .i64 t544, .slice Ao24 t545.length co24, .slice none 0 0]) ?_ 2 _ rfl; (with_reducible repeat (first | refine blk_drewN ?_ _ | refine blk_drew ?_ | refine blk_alloc ?_ _)); refine blk_put (cs := #[.int .i64 t544, .slice none 0 0, .slice none 0 0]) ?_ 1 _ rfl; (with_reducible repeat (first | refine blk_drewN ?_ _ | refine blk_drew ?_ | refine blk_alloc ?_ _)); refine blk_put (cs := #[.int .i64 0, .slice none 0 0, .slice none 0 0]) ?_ 0 _ rfl; exact Kz BK552.out) hb); have n8_ := Bc HB hb; clear HO534 HO537 HO547 HO550 BK539 BK552 HB; revert n0_ n1_ n2_ n3_ n4_ n5_ n6_ n7_ n8_; intro HO534 HO537 HO547 HO550 HO556 HO559 BK539 BK552 HB; (try clear hb); (try clear hb2); (try clear hk); (try clear hi); (try clear ho0); (try clear ho1)) | ((with_reducible refine gate_dst (N := 13) rfl ?_); (try (refine gate_guard (by rfl) ?_; dsimp only)); refine bE 13 #[.int .i64 0, .slice none 0 0, .slice none 0 0] 51 ?_; intro gb561 hg w28 hbox hb; have n0_ := Rb HO534 hb; have n1_ := Rb HO537 hb; have n2_ := Rb HO547 hb; have n3_ := Rb HO550 hb; have n4_ := Rb HO556 hb; have n5_ := Rb HO559 hb; have n6_ := Kb BK539 hb; have n7_ := Kb BK552 hb; have n8_ := Bc HB hb; have n9_ := am (hbox); have n10_ := Gm HB hg; have n11_ := Gm HB hg; have n12_ := Nl BK539 hg; have n13_ := Ng BK539 hg; have n14_ := Nl BK552 hg; have n15_ := Ng BK552 hg; clear HO534 HO537 HO547 HO550 HO556 HO559 BK539 BK552 HB; revert n0_ n1_ n2_ n3_ n4_ n5_ n6_ n7_ n8_ n9_ n10_ n11_ n12_ n13_ n14_ n15_; intro HO534 HO537 HO547 HO550 HO556 HO559 BK539 BK552 HB BK561 GW561 GE561 NB539_561 NB561_539 NB552_561 NB561_552; clear hb hbox hg; have hnb29 := NB561_539.out; have hnc29 := NB539_561.out; have hnb30 := NB561_552.out; have hnc30 := NB552_561.out; obtain ⟨hcz31_0, hcz31_1, hcz31_2, hfz31_0, hfz31_1, hfz31_2⟩ := cf3 (w := w28) BK561; obtain ⟨Ao32, co32, eo32⟩ := Kd.R_slice HO556.out; subst eo32; obtain ⟨Ao33, co33, eo33⟩ := Kd.R_slice HO559.out; subst eo33))
  (try simp only [aP])
  go_cut [83] (fun v83 wc => ∃ (kq : Nat) (x83_9 : Bool), v83 = .bool x83_9 ∧ Aside0 (laws_FnCuckooFinds.j0 kq l1 t538 t541 x83_9 t531 t532 t535 t544 t545 t548 = some r) ∧ Aside0 (kq ≤ k) ∧ Aside0 (Kd.R Kd.string 9 wc w.heap.size (fun k_ => some k_ ≠ ((.slice Ao15 t535.length co15) : Value).ownBlock ∧ some k_ ≠ ((.slice Ao24 t545.length co24) : Value).ownBlock ∧ some k_ ≠ ((.slice Ao25 t548.length co25) : Value).ownBlock ∧ some k_ ≠ ((.slice Ao32 t554.length co32) : Value).ownBlock ∧ some k_ ≠ ((.slice Ao33 t557.length co33) : Value).ownBlock) (.slice Ao14 t532.length co14) t532) ∧ Aside0 (Kd.R Kd.string 9 wc w.heap.size (fun k_ => some k_ ≠ ((.slice Ao14 t532.length co14) : Value).ownBlock ∧ some k_ ≠ ((.slice Ao24 t545.length co24) : Value).ownBlock ∧ some k_ ≠ ((.slice Ao25 t548.length co25) : Value).ownBlock ∧ some k_ ≠ ((.slice Ao32 t554.length co32) : Value).ownBlock ∧ some k_ ≠ ((.slice Ao33 t557.length co33) : Value).ownBlock) (.slice Ao15 t535.length co15) t535) ∧ Aside0 (Kd.R Kd.string 9 wc w.heap.size (fun k_ => some k_ ≠ ((.slice Ao14 t532.length co14) : Value).ownBlock ∧ some k_ ≠ ((.slice Ao15 t535.length co15) : Value).ownBlock ∧ some k_ ≠ ((.slice Ao25 t548.length co25) : Value).ownBlock ∧ some k_ ≠ ((.slice Ao32 t554.length co32) : Value).ownBlock ∧ some k_ ≠ ((.slice Ao33 t557.length co33) : Value).ownBlock) (.slice Ao24 t545.length co24) t545) ∧ Aside0 (Kd.R Kd.string 9 wc w.heap.size (fun k_ => some k_ ≠ ((.slice Ao14 t532.length co14) : Value).ownBlock ∧ some k_ ≠ ((.slice Ao15 t535.length co15) : Value).ownBlock ∧ some k_ ≠ ((.slice Ao24 t545.length co24) : Value).ownBlock ∧ some k_ ≠ ((.slice Ao32 t554.length co32) : Value).ownBlock ∧ some k_ ≠ ((.slice Ao33 t557.length co33) : Value).ownBlock) (.slice Ao25 t548.length co25) t548) ∧ Aside0 (Kd.R Kd.string 9 wc w.heap.size (fun k_ => some k_ ≠ ((.slice Ao14 t532.length co14) : Value).ownBlock ∧ some k_ ≠ ((.slice Ao15 t535.length co15) : Value).ownBlock ∧ some k_ ≠ ((.slice Ao24 t545.length co24) : Value).ownBlock ∧ some k_ ≠ ((.slice Ao25 t548.length co25) : Value).ownBlock ∧ some k_ ≠ ((.slice Ao33 t557.length co33) : Value).ownBlock) (.slice Ao32 t554.length co32) t554) ∧ Aside0 (Kd.R Kd.string 9 wc w.heap.size (fun k_ => some k_ ≠ ((.slice Ao14 t532.length co14) : Value).ownBlock ∧ some k_ ≠ ((.slice Ao15 t535.length co15) : Value).ownBlock ∧ some k_ ≠ ((.slice Ao24 t545.length co24) : Value).ownBlock ∧ some k_ ≠ ((.slice Ao25 t548.length co25) : Value).ownBlock ∧ some k_ ≠ ((.slice Ao32 t554.length co32) : Value).ownBlock) (.slice Ao33 t557.length co33) t557) ∧ Aside0 (wc.heap[gb539]? = some (.cells #[.int .i64 t531, (.slice Ao14 t532.length co14), (.slice Ao15 t535.length co15)] 51 (0, 0))) ∧ Aside0 (wc.heap[gb552]? = some (.cells #[.int .i64 t544, (.slice Ao24 t545.length co24), (.slice Ao25 t548.length co25)] 51 (0, 0))) ∧ Aside0 (wc.heap[gb561]? = some (.cells #[.int .i64 t553, (.slice Ao32 t554.length co32), (.slice Ao33 t557.length co33)] 51 (0, 0))) ∧ Aside0 (Below w.heap.size w wc))
  case first =>
   have H := HC10.out; clear HC10
   by_cases c34 : (t541 != t543) = true
   ·rw [if_pos c34] at H
    have c34b0 : (t541 != t543) = true := c34
    (try (have c34b1 : decide (t541 = t543) = false := by simpa using c34))
    (try (have c34b2 : (t541 == t543) = false := by simpa using c34))
    (try (have c34b3 : ¬ (t541 = t543) := by simpa using c34))
    (try (have c34b4 : (!(t541 == t543)) = true := c34b0))
    clear c34
    (first | rw [c34b0] | (simp only [i64_w, i32_w]; rw [c34b0]) | skip)
    exact absurd (H.trans (congrArg some HQT_.out)) (laws_FnCuckooFinds.j0.dead _ _ _ _ _ _ _ _ _ _)
   ·rw [if_neg c34] at H
    have c34b0 : (t541 != t543) = false := by simpa using c34
    (try (have c34b1 : decide (t541 = t543) = true := by simpa using c34))
    (try (have c34b2 : (t541 == t543) = true := by simpa using c34))
    (try (have c34b3 : (!(t541 == t543)) = false := c34b0))
    clear c34
    (first | rw [c34b0] | (simp only [i64_w, i32_w]; rw [c34b0]) | skip)
    by_cases c35 : t540 = t542
    ·rw [if_pos c35] at H
     have c35b0 : (t540 == t542) = true := beq_iff_eq.mpr c35; have c35b1 : (t540 != t542) = false := bne_eq_false_iff_eq.mpr c35; clear c35
     by_cases c36 : (t551 != t560) = true
     ·rw [if_pos c36] at H
      have c36b0 : (t551 != t560) = true := c36
      (try (have c36b1 : decide (t551 = t560) = false := by simpa using c36))
      (try (have c36b2 : (t551 == t560) = false := by simpa using c36))
      (try (have c36b3 : ¬ (t551 = t560) := by simpa using c36))
      (try (have c36b4 : (!(t551 == t560)) = true := c36b0))
      clear c36; exact absurd (H.trans (congrArg some HQT_.out)) (laws_FnCuckooFinds.j0.dead _ _ _ _ _ _ _ _ _ _)
     ·rw [if_neg c36] at H
      have c36b0 : (t551 != t560) = false := by simpa using c36
      (try (have c36b1 : decide (t551 = t560) = true := by simpa using c36))
      (try (have c36b2 : (t551 == t560) = true := by simpa using c36))
      (try (have c36b3 : (!(t551 == t560)) = false := c36b0))
      clear c36; replace H := Option.bind_eq_some_iff.mp H; obtain ⟨t562, A370, H⟩ := H; (try dsimp -simprocs only at H); have A37 := am A370; clear A370
      by_cases c38 : t562 = true
      ·subst c38
       rw [if_pos rfl] at H; have H' := am H; clear H; have hnb39 := NB552_539.out; have hnc39 := NB539_552.out; have hnb40 := NB552_561.out; have hnc40 := NB561_552.out; obtain ⟨hcz41_0, hcz41_1, hcz41_2, hfz41_0, hfz41_1, hfz41_2⟩ := cf3 (w := w28) BK552; have hnb42 := NB561_539.out; have hnc42 := NB539_561.out; obtain ⟨hcz43_0, hcz43_1, hcz43_2, hfz43_0, hfz43_1, hfz43_2⟩ := cf3 (w := w28) BK561
       go_wp2_with (first | (go_at_call 45; (with_reducible refine (laws_rSameCuckoo.calls k t544 _ _ t545 _ _ t548 t553 _ _ t554 _ _ t557 true _ ?side1 ?side2 ?side3 ?side4 ?side5 ?side6 ?side7 ?side8 A37.out).mono ?_); (case side1 => refine (Kd.R_reads' (e := 9) (base := w.heap.size) (ok := fun k_ => ((((some k_ ≠ (.slice Ao25 t548.length co25 : Value).ownBlock ∧ some k_ ≠ (.slice Ao14 t532.length co14 : Value).ownBlock) ∧ some k_ ≠ (.slice Ao15 t535.length co15 : Value).ownBlock) ∧ some k_ ≠ (.slice Ao32 t554.length co32 : Value).ownBlock) ∧ some k_ ≠ (.slice Ao33 t557.length co33 : Value).ownBlock)) (n := t545.length) (c := co24) ?_).2.2; exact (Rz (Kd.R_mono (Kd.R_far (p := ⟨gb561, 2, none⟩) (Kd.R_far (p := ⟨gb561, 1, none⟩) (Kd.R_far (p := ⟨gb561, 0, none⟩) (Kd.R_types HO547.out BK561.out (by decide)) (fun _ hk => hk.2) (.int .i64 t553)) (fun _ hk => hk.2) (.slice Ao32 t554.length co32)) (fun _ hk => hk.2) (.slice Ao33 t557.length co33)) (fun _ h_ => h_.1)))); (case side2 => exact (Kd.R_reads' HO547.out).2.1); (case side3 => refine (Kd.R_reads' (e := 9) (base := w.heap.size) (ok := fun k_ => ((((some k_ ≠ (.slice Ao24 t545.length co24 : Value).ownBlock ∧ some k_ ≠ (.slice Ao14 t532.length co14 : Value).ownBlock) ∧ some k_ ≠ (.slice Ao15 t535.length co15 : Value).ownBlock) ∧ some k_ ≠ (.slice Ao32 t554.length co32 : Value).ownBlock) ∧ some k_ ≠ (.slice Ao33 t557.length co33 : Value).ownBlock)) (n := t548.length) (c := co25) ?_).2.2; exact (Rz (Kd.R_mono (Kd.R_far (p := ⟨gb561, 2, none⟩) (Kd.R_far (p := ⟨gb561, 1, none⟩) (Kd.R_far (p := ⟨gb561, 0, none⟩) (Kd.R_types HO550.out BK561.out (by decide)) (fun _ hk => hk.2) (.int .i64 t553)) (fun _ hk => hk.2) (.slice Ao32 t554.length co32)) (fun _ hk => hk.2) (.slice Ao33 t557.length co33)) (fun _ h_ => h_.1)))); (case side4 => exact (Kd.R_reads' HO550.out).2.1); (case side5 => refine (Kd.R_reads' (e := 9) (base := w.heap.size) (ok := fun k_ => ((((some k_ ≠ (.slice Ao33 t557.length co33 : Value).ownBlock ∧ some k_ ≠ (.slice Ao14 t532.length co14 : Value).ownBlock) ∧ some k_ ≠ (.slice Ao15 t535.length co15 : Value).ownBlock) ∧ some k_ ≠ (.slice Ao24 t545.length co24 : Value).ownBlock) ∧ some k_ ≠ (.slice Ao25 t548.length co25 : Value).ownBlock)) (n := t554.length) (c := co32) ?_).2.2; exact (Rz (Kd.R_mono (Kd.R_far (p := ⟨gb561, 2, none⟩) (Kd.R_far (p := ⟨gb561, 1, none⟩) (Kd.R_far (p := ⟨gb561, 0, none⟩) (Kd.R_types HO556.out BK561.out (by decide)) (fun _ hk => hk.2) (.int .i64 t553)) (fun _ hk => hk.2) (.slice Ao32 t554.length co32)) (fun _ hk => hk.2) (.slice Ao33 t557.length co33)) (fun _ h_ => h_.1)))); (case side6 => exact (Kd.R_reads' HO556.out).2.1); (case side7 => refine (Kd.R_reads' (e := 9) (base := w.heap.size) (ok := fun k_ => ((((some k_ ≠ (.slice Ao32 t554.length co32 : Value).ownBlock ∧ some k_ ≠ (.slice Ao14 t532.length co14 : Value).ownBlock) ∧ some k_ ≠ (.slice Ao15 t535.length co15 : Value).ownBlock) ∧ some k_ ≠ (.slice Ao24 t545.length co24 : Value).ownBlock) ∧ some k_ ≠ (.slice Ao25 t548.length co25 : Value).ownBlock)) (n := t557.length) (c := co33) ?_).2.2; exact (Rz (Kd.R_mono (Kd.R_far (p := ⟨gb561, 2, none⟩) (Kd.R_far (p := ⟨gb561, 1, none⟩) (Kd.R_far (p := ⟨gb561, 0, none⟩) (Kd.R_types HO559.out BK561.out (by decide)) (fun _ hk => hk.2) (.int .i64 t553)) (fun _ hk => hk.2) (.slice Ao32 t554.length co32)) (fun _ hk => hk.2) (.slice Ao33 t557.length co33)) (fun _ h_ => h_.1)))); (case side8 => exact (Kd.R_reads' HO559.out).2.1); rintro e w44 ⟨rfl, hb⟩; have n0_ := am (Kd.R_below (Rz (Kd.R_mono (Kd.R_far (p := ⟨gb561, 2, none⟩) (Kd.R_far (p := ⟨gb561, 1, none⟩) (Kd.R_far (p := ⟨gb561, 0, none⟩) (Kd.R_types HO534.out BK561.out (by decide)) (fun _ hk => hk.2) (.int .i64 t553)) (fun _ hk => hk.2) (.slice Ao32 t554.length co32)) (fun _ hk => hk.2) (.slice Ao33 t557.length co33)) (fun _ h_ => h_.1))) hb); have n1_ := am (Kd.R_below (Rz (Kd.R_mono (Kd.R_far (p := ⟨gb561, 2, none⟩) (Kd.R_far (p := ⟨gb561, 1, none⟩) (Kd.R_far (p := ⟨gb561, 0, none⟩) (Kd.R_types HO537.out BK561.out (by decide)) (fun _ hk => hk.2) (.int .i64 t553)) (fun _ hk => hk.2) (.slice Ao32 t554.length co32)) (fun _ hk => hk.2) (.slice Ao33 t557.length co33)) (fun _ h_ => h_.1))) hb); have n2_ := am (Kd.R_below (Rz (Kd.R_mono (Kd.R_far (p := ⟨gb561, 2, none⟩) (Kd.R_far (p := ⟨gb561, 1, none⟩) (Kd.R_far (p := ⟨gb561, 0, none⟩) (Kd.R_types HO547.out BK561.out (by decide)) (fun _ hk => hk.2) (.int .i64 t553)) (fun _ hk => hk.2) (.slice Ao32 t554.length co32)) (fun _ hk => hk.2) (.slice Ao33 t557.length co33)) (fun _ h_ => h_.1))) hb); have n3_ := am (Kd.R_below (Rz (Kd.R_mono (Kd.R_far (p := ⟨gb561, 2, none⟩) (Kd.R_far (p := ⟨gb561, 1, none⟩) (Kd.R_far (p := ⟨gb561, 0, none⟩) (Kd.R_types HO550.out BK561.out (by decide)) (fun _ hk => hk.2) (.int .i64 t553)) (fun _ hk => hk.2) (.slice Ao32 t554.length co32)) (fun _ hk => hk.2) (.slice Ao33 t557.length co33)) (fun _ h_ => h_.1))) hb); have n4_ := am (Kd.R_below (Rz (Kd.R_mono (Kd.R_far (p := ⟨gb561, 2, none⟩) (Kd.R_far (p := ⟨gb561, 1, none⟩) (Kd.R_far (p := ⟨gb561, 0, none⟩) (Kd.R_types HO556.out BK561.out (by decide)) (fun _ hk => hk.2) (.int .i64 t553)) (fun _ hk => hk.2) (.slice Ao32 t554.length co32)) (fun _ hk => hk.2) (.slice Ao33 t557.length co33)) (fun _ h_ => h_.1))) hb); have n5_ := am (Kd.R_below (Rz (Kd.R_mono (Kd.R_far (p := ⟨gb561, 2, none⟩) (Kd.R_far (p := ⟨gb561, 1, none⟩) (Kd.R_far (p := ⟨gb561, 0, none⟩) (Kd.R_types HO559.out BK561.out (by decide)) (fun _ hk => hk.2) (.int .i64 t553)) (fun _ hk => hk.2) (.slice Ao32 t554.length co32)) (fun _ hk => hk.2) (.slice Ao33 t557.length co33)) (fun _ h_ => h_.1))) hb); have n6_ := am (blk_below (g := gb539) (o := .cells #[.int .i64 t531, .slice Ao14 t532.length co14, .slice Ao15 t535.length co15] 51 (0, 0)) (by (with_reducible repeat (first | refine blk_drewN ?_ _ | refine blk_drew ?_ | refine blk_alloc ?_ _)); refine blk_far ?_ NB539_561.out _; (with_reducible repeat (first | refine blk_drewN ?_ _ | refine blk_drew ?_ | refine blk_alloc ?_ _)); refine blk_far ?_ NB539_561.out _; (with_reducible repeat (first | refine blk_drewN ?_ _ | refine blk_drew ?_ | refine blk_alloc ?_ _)); refine blk_far ?_ NB539_561.out _; exact Kz BK539.out) hb); have n7_ := am (blk_below (g := gb552) (o := .cells #[.int .i64 t544, .slice Ao24 t545.length co24, .slice Ao25 t548.length co25] 51 (0, 0)) (by (with_reducible repeat (first | refine blk_drewN ?_ _ | refine blk_drew ?_ | refine blk_alloc ?_ _)); refine blk_far ?_ NB552_561.out _; (with_reducible repeat (first | refine blk_drewN ?_ _ | refine blk_drew ?_ | refine blk_alloc ?_ _)); refine blk_far ?_ NB552_561.out _; (with_reducible repeat (first | refine blk_drewN ?_ _ | refine blk_drew ?_ | refine blk_alloc ?_ _)); refine blk_far ?_ NB552_561.out _; exact Kz BK552.out) hb); have n8_ := am (blk_below (g := gb561) (o := .cells #[.int .i64 t553, .slice Ao32 t554.length co32, .slice Ao33 t557.length co33] 51 (0, 0)) (by (with_reducible repeat (first | refine blk_drewN ?_ _ | refine blk_drew ?_ | refine blk_alloc ?_ _)); refine blk_put (cs := #[.int .i64 t553, .slice Ao32 t554.length co32, .slice none 0 0]) ?_ 2 _ rfl; (with_reducible repeat (first | refine blk_drewN ?_ _ | refine blk_drew ?_ | refine blk_alloc ?_ _)); refine blk_put (cs := #[.int .i64 t553, .slice none 0 0, .slice none 0 0]) ?_ 1 _ rfl; (with_reducible repeat (first | refine blk_drewN ?_ _ | refine blk_drew ?_ | refine blk_alloc ?_ _)); refine blk_put (cs := #[.int .i64 0, .slice none 0 0, .slice none 0 0]) ?_ 0 _ rfl; exact Kz BK561.out) hb); have n9_ := Bc HB hb; clear HO534 HO537 HO547 HO550 HO556 HO559 BK539 BK552 BK561 HB; revert n0_ n1_ n2_ n3_ n4_ n5_ n6_ n7_ n8_ n9_; intro HO534 HO537 HO547 HO550 HO556 HO559 BK539 BK552 BK561 HB; (try clear hb); (try clear hb2); (try clear hk); (try clear hi)))
       go_meet
       case rel => exact ⟨_, ((t541 != t551)), wZ, H', ⟨by first | omega | exact Nat.le_refl _⟩, ⟨Rz (Kd.R_mono HO534.out (fun _ hk => ⟨hk.1.1.1.1, ⟨hk.1.1.1.2, ⟨hk.1.1.2, ⟨hk.1.2, hk.2⟩⟩⟩⟩))⟩, ⟨Rz (Kd.R_mono HO537.out (fun _ hk => ⟨hk.1.1.1.1, ⟨hk.1.1.1.2, ⟨hk.1.1.2, ⟨hk.1.2, hk.2⟩⟩⟩⟩))⟩, ⟨Rz (Kd.R_mono HO547.out (fun _ hk => ⟨hk.1.1.1.2, ⟨hk.1.1.2, ⟨hk.1.1.1.1, ⟨hk.1.2, hk.2⟩⟩⟩⟩))⟩, ⟨Rz (Kd.R_mono HO550.out (fun _ hk => ⟨hk.1.1.1.2, ⟨hk.1.1.2, ⟨hk.1.1.1.1, ⟨hk.1.2, hk.2⟩⟩⟩⟩))⟩, ⟨Rz (Kd.R_mono HO556.out (fun _ hk => ⟨hk.1.1.1.2, ⟨hk.1.1.2, ⟨hk.1.2, ⟨hk.2, hk.1.1.1.1⟩⟩⟩⟩))⟩, ⟨Rz (Kd.R_mono HO559.out (fun _ hk => ⟨hk.1.1.1.2, ⟨hk.1.1.2, ⟨hk.1.2, ⟨hk.2, hk.1.1.1.1⟩⟩⟩⟩))⟩, ⟨Kz BK539.out⟩, ⟨Kz BK552.out⟩, ⟨Kz BK561.out⟩, ⟨Bq⟩⟩
      ·replace c38 := Bool.eq_false_iff.mpr c38
       subst c38
       rw [if_neg (show ¬ (false = true) by decide)] at H; exact absurd (H.trans (congrArg some HQT_.out)) (laws_FnCuckooFinds.j0.dead _ _ _ _ _ _ _ _ _ _)
    ·rw [if_neg c35] at H
     have c35b0 : (t540 == t542) = false := beq_eq_false_iff_ne.mpr c35; have c35b1 : (t540 != t542) = true := bne_iff_ne.mpr c35; exact absurd (H.trans (congrArg some HQT_.out)) (laws_FnCuckooFinds.j0.dead _ _ _ _ _ _ _ _ _ _)
  case rest =>
   refine Nonempty.elim ?_ id
   refine (letI hh_ : Nonempty (_ : Prop) := ?apart1; (?close1 : type_of% hh_))
   case apart1 =>
    refine Nonempty.intro ?_
    clear HC10
    try clear c1
    try clear c2
    try clear p2
    try clear c3
    try clear c4
    try clear c8
    try clear c11
    try clear c22
    try clear c29
    try clear c30
    try clear c34
    try clear c34b0
    try clear c34b1
    try clear c34b2
    try clear c35
    try clear c35b0
    try clear c35b1
    try clear c36
    try clear c36b0
    try clear c36b1
    try clear c36b2
    try clear c38
    try clear c39
    try clear c40
    try clear c41
    try clear c42
    try clear c43
    try clear c44
    try clear hcz13_0
    try clear hcz13_1
    try clear hcz13_2
    try clear hcz17_0
    try clear hcz17_1
    try clear hcz17_2
    try clear hcz19_0
    try clear hcz19_1
    try clear hcz19_2
    try clear hcz23_0
    try clear hcz23_1
    try clear hcz23_2
    try clear hcz26_0
    try clear hcz26_1
    try clear hcz26_2
    try clear hcz31_0
    try clear hcz31_1
    try clear hcz31_2
    try clear hcz41_0
    try clear hcz41_1
    try clear hcz41_2
    try clear hcz43_0
    try clear hcz43_1
    try clear hcz43_2
    try clear hfz13_0
    try clear hfz13_1
    try clear hfz13_2
    try clear hfz17_0
    try clear hfz17_1
    try clear hfz17_2
    try clear hfz19_0
    try clear hfz19_1
    try clear hfz19_2
    try clear hfz23_0
    try clear hfz23_1
    try clear hfz23_2
    try clear hfz26_0
    try clear hfz26_1
    try clear hfz26_2
    try clear hfz31_0
    try clear hfz31_1
    try clear hfz31_2
    try clear hfz41_0
    try clear hfz41_1
    try clear hfz41_2
    try clear hfz43_0
    try clear hfz43_1
    try clear hfz43_2
    obtain ⟨kq, x83_9, rfl, HA, HJ9, HO_540001, HO_540002, HO_553001, HO_553002, HO_562001, HO_562002, BK539, BK552, BK561, HB⟩ := hcut; cases kq with
    | zero => exact absurd HA.out (by simp [laws_FnCuckooFinds.j0])
    | succ kj9 =>
     have H := HA.out; clear HA
     simp only [laws_FnCuckooFinds.j0] at H
     by_cases c45 : x83_9 = true
     ·subst c45
      rw [if_pos rfl] at H; exact absurd (Option.some.inj H) (by rw [HQT_.out]; decide)
     ·replace c45 := Bool.eq_false_iff.mpr c45
      subst c45
      rw [if_neg (show ¬ (false = true) by decide)] at H; have HC46 := am H; clear H
      go_upto_if 84 with (fail)
      go_cut [] (fun wc => ∃ (kq : Nat), Aside0 (laws_FnCuckooFinds.j1 kq l1 = some r) ∧ Aside0 (kq ≤ kj9) ∧ Aside0 (Kd.R Kd.string 9 wc w.heap.size (fun k_ => some k_ ≠ ((.slice Ao15 t535.length co15) : Value).ownBlock ∧ some k_ ≠ ((.slice Ao24 t545.length co24) : Value).ownBlock ∧ some k_ ≠ ((.slice Ao25 t548.length co25) : Value).ownBlock ∧ some k_ ≠ ((.slice Ao32 t554.length co32) : Value).ownBlock ∧ some k_ ≠ ((.slice Ao33 t557.length co33) : Value).ownBlock) (.slice Ao14 t532.length co14) t532) ∧ Aside0 (Kd.R Kd.string 9 wc w.heap.size (fun k_ => some k_ ≠ ((.slice Ao14 t532.length co14) : Value).ownBlock ∧ some k_ ≠ ((.slice Ao24 t545.length co24) : Value).ownBlock ∧ some k_ ≠ ((.slice Ao25 t548.length co25) : Value).ownBlock ∧ some k_ ≠ ((.slice Ao32 t554.length co32) : Value).ownBlock ∧ some k_ ≠ ((.slice Ao33 t557.length co33) : Value).ownBlock) (.slice Ao15 t535.length co15) t535) ∧ Aside0 (Kd.R Kd.string 9 wc w.heap.size (fun k_ => some k_ ≠ ((.slice Ao14 t532.length co14) : Value).ownBlock ∧ some k_ ≠ ((.slice Ao15 t535.length co15) : Value).ownBlock ∧ some k_ ≠ ((.slice Ao25 t548.length co25) : Value).ownBlock ∧ some k_ ≠ ((.slice Ao32 t554.length co32) : Value).ownBlock ∧ some k_ ≠ ((.slice Ao33 t557.length co33) : Value).ownBlock) (.slice Ao24 t545.length co24) t545) ∧ Aside0 (Kd.R Kd.string 9 wc w.heap.size (fun k_ => some k_ ≠ ((.slice Ao14 t532.length co14) : Value).ownBlock ∧ some k_ ≠ ((.slice Ao15 t535.length co15) : Value).ownBlock ∧ some k_ ≠ ((.slice Ao24 t545.length co24) : Value).ownBlock ∧ some k_ ≠ ((.slice Ao32 t554.length co32) : Value).ownBlock ∧ some k_ ≠ ((.slice Ao33 t557.length co33) : Value).ownBlock) (.slice Ao25 t548.length co25) t548) ∧ Aside0 (Kd.R Kd.string 9 wc w.heap.size (fun k_ => some k_ ≠ ((.slice Ao14 t532.length co14) : Value).ownBlock ∧ some k_ ≠ ((.slice Ao15 t535.length co15) : Value).ownBlock ∧ some k_ ≠ ((.slice Ao24 t545.length co24) : Value).ownBlock ∧ some k_ ≠ ((.slice Ao25 t548.length co25) : Value).ownBlock ∧ some k_ ≠ ((.slice Ao33 t557.length co33) : Value).ownBlock) (.slice Ao32 t554.length co32) t554) ∧ Aside0 (Kd.R Kd.string 9 wc w.heap.size (fun k_ => some k_ ≠ ((.slice Ao14 t532.length co14) : Value).ownBlock ∧ some k_ ≠ ((.slice Ao15 t535.length co15) : Value).ownBlock ∧ some k_ ≠ ((.slice Ao24 t545.length co24) : Value).ownBlock ∧ some k_ ≠ ((.slice Ao25 t548.length co25) : Value).ownBlock ∧ some k_ ≠ ((.slice Ao32 t554.length co32) : Value).ownBlock) (.slice Ao33 t557.length co33) t557) ∧ Aside0 (wc.heap[gb539]? = some (.cells #[.int .i64 t531, (.slice Ao14 t532.length co14), (.slice Ao15 t535.length co15)] 51 (0, 0))) ∧ Aside0 (wc.heap[gb552]? = some (.cells #[.int .i64 t544, (.slice Ao24 t545.length co24), (.slice Ao25 t548.length co25)] 51 (0, 0))) ∧ Aside0 (wc.heap[gb561]? = some (.cells #[.int .i64 t553, (.slice Ao32 t554.length co32), (.slice Ao33 t557.length co33)] 51 (0, 0))) ∧ Aside0 (Below w.heap.size w wc))
      case first =>
       have H := HC46.out; clear HC46
       by_cases c47 : t541 = true
       ·subst c47
        rw [if_pos rfl] at H; replace H := Option.bind_eq_some_iff.mp H; obtain ⟨⟨t563, t566⟩, A480, H⟩ := H; (try dsimp -simprocs only at H); have A48 := am A480; clear A480; replace H := Option.bind_eq_some_iff.mp H; obtain ⟨⟨t567, t568⟩, A490, H⟩ := H; (try dsimp -simprocs only at H); have A49 := am A490; clear A490
        by_cases c50 : t566 = true
        ·subst c50
         rw [if_pos rfl] at H
         by_cases c51 : t568 = true
         ·subst c51
          rw [if_pos rfl] at H; exact absurd (Option.some.inj H) (by rw [HQT_.out]; decide)
         ·replace c51 := Bool.eq_false_iff.mpr c51
          subst c51
          rw [if_neg (show ¬ (false = true) by decide)] at H; replace H := Option.bind_eq_some_iff.mp H; obtain ⟨t569, A520, H⟩ := H; (try dsimp -simprocs only at H); have A52 := am A520; clear A520
          by_cases c53 : t569 = true
          ·subst c53
           rw [if_pos rfl] at H; have H' := am H; clear H; have hnb54 := NB539_552.out; have hnc54 := NB552_539.out; have hnb55 := NB539_561.out; have hnc55 := NB561_539.out; obtain ⟨hcz56_0, hcz56_1, hcz56_2, hfz56_0, hfz56_1, hfz56_2⟩ := cf3 (w := wc) BK539
           go_wp2_with (first | ((with_reducible refine gate_callee (f := 46) rfl ?_); refine gL (some 87) Try.func46 #[.agg #[.int .i64 t531, .slice Ao14 t532.length co14, .slice Ao15 t535.length co15]] ?_; (with_reducible refine (impl_CuckooKeys.calls kj9 t531 _ _ t532 _ _ t535 t563 true _ ?side1 ?side2 ?side3 ?side4 A48.out).mono ?_); (case side1 => exact Cz ((Kd.R_reads' HO_540001.out).2.2)); (case side2 => exact (Kd.R_reads' HO_540001.out).2.1); (case side3 => exact Cz ((Kd.R_reads' HO_540002.out).2.2)); (case side4 => exact (Kd.R_reads' HO_540002.out).2.1); rintro e w57 ⟨v564, rfl, ho0, hb⟩; refine ⟨_, rfl, ?_⟩; have n0_ := Re HO_540001 (Kd.R_base ho0) hb; have n1_ := Re HO_540002 (Kd.R_base ho0) hb; have n2_ := Re HO_553001 (Kd.R_base ho0) hb; have n3_ := Re HO_553002 (Kd.R_base ho0) hb; have n4_ := Re HO_562001 (Kd.R_base ho0) hb; have n5_ := Re HO_562002 (Kd.R_base ho0) hb; have n6_ := am (Kd.R_lower (Kd.R_new' (Kd.R_new' (Kd.R_new' (Kd.R_new' (Kd.R_new' (Kd.R_new' ho0 (Kd.R_lt (Rz HO_540001.out))) (Kd.R_lt (Rz HO_540002.out))) (Kd.R_lt (Rz HO_553001.out))) (Kd.R_lt (Rz HO_553002.out))) (Kd.R_lt (Rz HO_562001.out))) (Kd.R_lt (Rz HO_562002.out))) (below_size (w := w) (Bq))); have n7_ := Kb BK539 hb; have n8_ := Kb BK552 hb; have n9_ := Kb BK561 hb; have n10_ := Bc HB hb; clear HO_540001 HO_540002 HO_553001 HO_553002 HO_562001 HO_562002 BK539 BK552 BK561 HB; revert n0_ n1_ n2_ n3_ n4_ n5_ n6_ n7_ n8_ n9_ n10_; intro HO_540001 HO_540002 HO_553001 HO_553002 HO_562001 HO_562002 HO565 BK539 BK552 BK561 HB; (try clear hb); (try clear hb2); (try clear hk); (try clear hi); (try clear ho0); have hnb58 := NB552_561.out; have hnc58 := NB561_552.out; obtain ⟨hcz59_0, hcz59_1, hcz59_2, hfz59_0, hfz59_1, hfz59_2⟩ := cf3 (w := w57) BK552) | ((with_reducible refine gate_callee (f := 41) rfl ?_); refine gL (some 93) Try.func41 #[.agg #[.int .i64 t544, .slice Ao24 t545.length co24, .slice Ao25 t548.length co25], .string t538] ?_; (with_reducible refine (impl_CuckooFind.calls kj9 t544 _ _ t545 _ _ t548 t538 t567 false _ ?side1 ?side2 ?side3 ?side4 A49.out).mono ?_); (case side1 => exact Cz ((Kd.R_reads' HO_553001.out).2.2)); (case side2 => exact (Kd.R_reads' HO_553001.out).2.1); (case side3 => exact Cz ((Kd.R_reads' HO_553002.out).2.2)); (case side4 => exact (Kd.R_reads' HO_553002.out).2.1); rintro e w60 ⟨rfl, hb⟩; refine ⟨_, rfl, ?_⟩; have n0_ := Rb HO_540001 hb; have n1_ := Rb HO_540002 hb; have n2_ := Rb HO_553001 hb; have n3_ := Rb HO_553002 hb; have n4_ := Rb HO_562001 hb; have n5_ := Rb HO_562002 hb; have n6_ := Rb HO565 hb; have n7_ := Kb BK539 hb; have n8_ := Kb BK552 hb; have n9_ := Kb BK561 hb; have n10_ := Bc HB hb; clear HO_540001 HO_540002 HO_553001 HO_553002 HO_562001 HO_562002 HO565 BK539 BK552 BK561 HB; revert n0_ n1_ n2_ n3_ n4_ n5_ n6_ n7_ n8_ n9_ n10_; intro HO_540001 HO_540002 HO_553001 HO_553002 HO_562001 HO_562002 HO565 BK539 BK552 BK561 HB; (try clear hb); (try clear hb2); (try clear hk); (try clear hi); obtain ⟨Ao61, co61, eo61⟩ := Kd.R_slice HO565.out; subst eo61) | (go_at_call 47; (with_reducible refine (laws_rHasText.calls kj9 _ _ t563 t538 true _ ?side1 ?side2 A52.out).mono ?_); (case side1 => exact Cz ((Kd.R_reads' HO565.out).2.2)); (case side2 => exact (Kd.R_reads' HO565.out).2.1); rintro e w' ⟨rfl, ⟨nd, rfl⟩⟩))
           go_meet
           case rel => exact ⟨_, H', ⟨by have := HJ9.out; first | omega | exact Nat.le_refl _⟩, ⟨Rz (Kd.R_mono HO_540001.out (fun _ hk => ⟨hk.1.1, ⟨hk.1.2.1, ⟨hk.1.2.2.1, ⟨hk.1.2.2.2.1, hk.1.2.2.2.2⟩⟩⟩⟩))⟩, ⟨Rz (Kd.R_mono HO_540002.out (fun _ hk => ⟨hk.1.1, ⟨hk.1.2.1, ⟨hk.1.2.2.1, ⟨hk.1.2.2.2.1, hk.1.2.2.2.2⟩⟩⟩⟩))⟩, ⟨Rz (Kd.R_mono HO_553001.out (fun _ hk => ⟨hk.1.1, ⟨hk.1.2.1, ⟨hk.1.2.2.1, ⟨hk.1.2.2.2.1, hk.1.2.2.2.2⟩⟩⟩⟩))⟩, ⟨Rz (Kd.R_mono HO_553002.out (fun _ hk => ⟨hk.1.1, ⟨hk.1.2.1, ⟨hk.1.2.2.1, ⟨hk.1.2.2.2.1, hk.1.2.2.2.2⟩⟩⟩⟩))⟩, ⟨Rz (Kd.R_mono HO_562001.out (fun _ hk => ⟨hk.1.1, ⟨hk.1.2.1, ⟨hk.1.2.2.1, ⟨hk.1.2.2.2.1, hk.1.2.2.2.2⟩⟩⟩⟩))⟩, ⟨Rz (Kd.R_mono HO_562002.out (fun _ hk => ⟨hk.1.1, ⟨hk.1.2.1, ⟨hk.1.2.2.1, ⟨hk.1.2.2.2.1, hk.1.2.2.2.2⟩⟩⟩⟩))⟩, ⟨Kz BK539.out⟩, ⟨Kz BK552.out⟩, ⟨Kz BK561.out⟩, ⟨Bq⟩⟩
          ·replace c53 := Bool.eq_false_iff.mpr c53
           subst c53
           rw [if_neg (show ¬ (false = true) by decide)] at H; exact absurd (Option.some.inj H) (by rw [HQT_.out]; decide)
        ·replace c50 := Bool.eq_false_iff.mpr c50
         subst c50
         rw [if_neg (show ¬ (false = true) by decide)] at H; exact absurd (Option.some.inj H) (by rw [HQT_.out]; decide)
       ·replace c47 := Bool.eq_false_iff.mpr c47
        subst c47
        rw [if_neg (show ¬ (false = true) by decide)] at H; have H' := am H; clear H
        go_wp2
        go_meet
        case rel => exact ⟨_, H', ⟨by have := HJ9.out; first | omega | exact Nat.le_refl _⟩, ⟨Rz HO_540001.out⟩, ⟨Rz HO_540002.out⟩, ⟨Rz HO_553001.out⟩, ⟨Rz HO_553002.out⟩, ⟨Rz HO_562001.out⟩, ⟨Rz HO_562002.out⟩, ⟨Kz BK539.out⟩, ⟨Kz BK552.out⟩, ⟨Kz BK561.out⟩, ⟨Bq⟩⟩
      case rest =>
       refine Nonempty.elim ?_ id
       refine (letI hh_ : Nonempty (_ : Prop) := ?apart2; (?close2 : type_of% hh_))
       case apart2 =>
        refine Nonempty.intro ?_
        clear HC46
        try clear c1
        try clear c2
        try clear p2
        try clear c3
        try clear c4
        try clear c5
        try clear c8
        try clear c11
        try clear c22
        try clear c29
        try clear c30
        try clear c34
        try clear c34b0
        try clear c34b1
        try clear c34b2
        try clear c35
        try clear c35b0
        try clear c35b1
        try clear c36
        try clear c36b0
        try clear c36b1
        try clear c36b2
        try clear c38
        try clear c39
        try clear c40
        try clear c41
        try clear c42
        try clear c43
        try clear c44
        try clear c45
        try clear c46
        try clear c47
        try clear c50
        try clear c51
        try clear c53
        try clear c54
        try clear c55
        try clear c58
        try clear hcz13_0
        try clear hcz13_1
        try clear hcz13_2
        try clear hcz17_0
        try clear hcz17_1
        try clear hcz17_2
        try clear hcz19_0
        try clear hcz19_1
        try clear hcz19_2
        try clear hcz23_0
        try clear hcz23_1
        try clear hcz23_2
        try clear hcz26_0
        try clear hcz26_1
        try clear hcz26_2
        try clear hcz31_0
        try clear hcz31_1
        try clear hcz31_2
        try clear hcz41_0
        try clear hcz41_1
        try clear hcz41_2
        try clear hcz43_0
        try clear hcz43_1
        try clear hcz43_2
        try clear hcz56_0
        try clear hcz56_1
        try clear hcz56_2
        try clear hcz59_0
        try clear hcz59_1
        try clear hcz59_2
        try clear hfz13_0
        try clear hfz13_1
        try clear hfz13_2
        try clear hfz17_0
        try clear hfz17_1
        try clear hfz17_2
        try clear hfz19_0
        try clear hfz19_1
        try clear hfz19_2
        try clear hfz23_0
        try clear hfz23_1
        try clear hfz23_2
        try clear hfz26_0
        try clear hfz26_1
        try clear hfz26_2
        try clear hfz31_0
        try clear hfz31_1
        try clear hfz31_2
        try clear hfz41_0
        try clear hfz41_1
        try clear hfz41_2
        try clear hfz43_0
        try clear hfz43_1
        try clear hfz43_2
        try clear hfz56_0
        try clear hfz56_1
        try clear hfz56_2
        try clear hfz59_0
        try clear hfz59_1
        try clear hfz59_2
        try clear p2
        obtain ⟨kq, HA, HJ45, HO_540001, HO_540002, HO_553001, HO_553002, HO_562001, HO_562002, BK539, BK552, BK561, HB⟩ := hcut; cases kq with
        | zero => exact absurd HA.out (by simp [laws_FnCuckooFinds.j1])
        | succ kj45 =>
         have H := HA.out; clear HA
         simp only [laws_FnCuckooFinds.j1] at H
         replace H := Option.bind_eq_some_iff.mp H; obtain ⟨⟨t570, t571, t574⟩, A620, H⟩ := H; (try dsimp -simprocs only at H); have A62 := am A620; clear A620; replace H := Option.bind_eq_some_iff.mp H; obtain ⟨⟨t578, t579, t582, t585⟩, A630, H⟩ := H; (try dsimp -simprocs only at H); have A63 := am A630; clear A630; replace H := Option.bind_eq_some_iff.mp H; obtain ⟨⟨t587, t588, t591, t594⟩, A640, H⟩ := H; (try dsimp -simprocs only at H); have A64 := am A640; clear A640; have HC65 := am H; clear H
         go_upto_region 18 with (first | ((with_reducible refine gate_callee (f := 48) rfl ?_); refine gL (some 108) Try.func48 #[.slice A1 l1.length c1] ?_; (with_reducible refine (spec_DrawCuckooUnstash.calls kj45 _ _ l1 t570 t571 t574 _ ?side1 ?side2 A62.out).mono ?_); (case side1 => exact Cz (Kd.C_below HR1.out HB.out)); (case side2 => exact HC1.out); rintro e w66 ⟨v572, v575, rfl, ho0, ho1, hb⟩; refine ⟨_, rfl, ?_⟩; have n0_ := am (Kd.R_mono (Kd.R_told (Kd.R_told (Kd.R_old (Rz HO_540001.out) hb) (Kd.R_base ho0)) (Kd.R_base ho1)) (fun _ h_ => h_.1)); have n1_ := am (Kd.R_mono (Kd.R_told (Kd.R_told (Kd.R_old (Rz HO_540002.out) hb) (Kd.R_base ho0)) (Kd.R_base ho1)) (fun _ h_ => h_.1)); have n2_ := am (Kd.R_mono (Kd.R_told (Kd.R_told (Kd.R_old (Rz HO_553001.out) hb) (Kd.R_base ho0)) (Kd.R_base ho1)) (fun _ h_ => h_.1)); have n3_ := am (Kd.R_mono (Kd.R_told (Kd.R_told (Kd.R_old (Rz HO_553002.out) hb) (Kd.R_base ho0)) (Kd.R_base ho1)) (fun _ h_ => h_.1)); have n4_ := am (Kd.R_mono (Kd.R_told (Kd.R_told (Kd.R_old (Rz HO_562001.out) hb) (Kd.R_base ho0)) (Kd.R_base ho1)) (fun _ h_ => h_.1)); have n5_ := am (Kd.R_mono (Kd.R_told (Kd.R_told (Kd.R_old (Rz HO_562002.out) hb) (Kd.R_base ho0)) (Kd.R_base ho1)) (fun _ h_ => h_.1)); have n6_ := am (Kd.R_lower (Kd.R_new' (Kd.R_new' (Kd.R_new' (Kd.R_new' (Kd.R_new' (Kd.R_new' ho0 (Kd.R_lt (Rz HO_540001.out))) (Kd.R_lt (Rz HO_540002.out))) (Kd.R_lt (Rz HO_553001.out))) (Kd.R_lt (Rz HO_553002.out))) (Kd.R_lt (Rz HO_562001.out))) (Kd.R_lt (Rz HO_562002.out))) (below_size (w := w) (Bq))); have n7_ := am (Kd.R_lower (Kd.R_new' (Kd.R_new' (Kd.R_new' (Kd.R_new' (Kd.R_new' (Kd.R_new' ho1 (Kd.R_lt (Rz HO_540001.out))) (Kd.R_lt (Rz HO_540002.out))) (Kd.R_lt (Rz HO_553001.out))) (Kd.R_lt (Rz HO_553002.out))) (Kd.R_lt (Rz HO_562001.out))) (Kd.R_lt (Rz HO_562002.out))) (below_size (w := w) (Bq))); have n8_ := Kb BK539 hb; have n9_ := Kb BK552 hb; have n10_ := Kb BK561 hb; have n11_ := Bc HB hb; clear HO_540001 HO_540002 HO_553001 HO_553002 HO_562001 HO_562002 BK539 BK552 BK561 HB; revert n0_ n1_ n2_ n3_ n4_ n5_ n6_ n7_ n8_ n9_ n10_ n11_; intro HO_540001 HO_540002 HO_553001 HO_553002 HO_562001 HO_562002 HO573 HO576 BK539 BK552 BK561 HB; (try clear hb); (try clear hb2); (try clear hk); (try clear hi); (try clear ho0); (try clear ho1)) | ((with_reducible refine gate_dst (N := 19) rfl ?_); (try (refine gate_guard (by rfl) ?_; dsimp only)); refine bE 19 #[.int .i64 0, .slice none 0 0, .slice none 0 0] 51 ?_; intro gb577 hg w67 hbox hb; have n0_ := Rb HO_540001 hb; have n1_ := Rb HO_540002 hb; have n2_ := Rb HO_553001 hb; have n3_ := Rb HO_553002 hb; have n4_ := Rb HO_562001 hb; have n5_ := Rb HO_562002 hb; have n6_ := Rb HO573 hb; have n7_ := Rb HO576 hb; have n8_ := Kb BK539 hb; have n9_ := Kb BK552 hb; have n10_ := Kb BK561 hb; have n11_ := Bc HB hb; have n12_ := am (hbox); have n13_ := Gm HB hg; have n14_ := Gm HB hg; have n15_ := Nl BK539 hg; have n16_ := Ng BK539 hg; have n17_ := Nl BK552 hg; have n18_ := Ng BK552 hg; have n19_ := Nl BK561 hg; have n20_ := Ng BK561 hg; clear HO_540001 HO_540002 HO_553001 HO_553002 HO_562001 HO_562002 HO573 HO576 BK539 BK552 BK561 HB; revert n0_ n1_ n2_ n3_ n4_ n5_ n6_ n7_ n8_ n9_ n10_ n11_ n12_ n13_ n14_ n15_ n16_ n17_ n18_ n19_ n20_; intro HO_540001 HO_540002 HO_553001 HO_553002 HO_562001 HO_562002 HO573 HO576 BK539 BK552 BK561 HB BK577 GW577 GE577 NB539_577 NB577_539 NB552_577 NB577_552 NB561_577 NB577_561; clear hb hbox hg; have hnb68 := NB577_539.out; have hnc68 := NB539_577.out; have hnb69 := NB577_552.out; have hnc69 := NB552_577.out; have hnb70 := NB577_561.out; have hnc70 := NB561_577.out; obtain ⟨hcz71_0, hcz71_1, hcz71_2, hfz71_0, hfz71_1, hfz71_2⟩ := cf3 (w := w67) BK577; obtain ⟨Ao72, co72, eo72⟩ := Kd.R_slice HO573.out; subst eo72; obtain ⟨Ao73, co73, eo73⟩ := Kd.R_slice HO576.out; subst eo73) | ((with_reducible refine gate_callee (f := 49) rfl ?_); refine gL (some 111) Try.func49 #[.agg #[.int .i64 t570, .slice Ao72 t571.length co72, .slice Ao73 t574.length co73]] ?_; (with_reducible refine (impl_CuckooUnstash.calls kj45 t570 _ _ t571 _ _ t574 t578 t579 t582 t585 _ ?side1 ?side2 ?side3 ?side4 A63.out).mono ?_); (case side1 => refine (Kd.R_reads' (e := 9) (base := w.heap.size) (ok := fun k_ => ((((((some k_ ≠ (.slice Ao73 t574.length co73 : Value).ownBlock ∧ some k_ ≠ (.slice Ao14 t532.length co14 : Value).ownBlock) ∧ some k_ ≠ (.slice Ao15 t535.length co15 : Value).ownBlock) ∧ some k_ ≠ (.slice Ao24 t545.length co24 : Value).ownBlock) ∧ some k_ ≠ (.slice Ao25 t548.length co25 : Value).ownBlock) ∧ some k_ ≠ (.slice Ao32 t554.length co32 : Value).ownBlock) ∧ some k_ ≠ (.slice Ao33 t557.length co33 : Value).ownBlock)) (n := t571.length) (c := co72) ?_).2.2; exact (Rz (Kd.R_mono (Kd.R_far (p := ⟨gb577, 2, none⟩) (Kd.R_far (p := ⟨gb577, 1, none⟩) (Kd.R_far (p := ⟨gb577, 0, none⟩) (Kd.R_types HO573.out BK577.out (by decide)) (fun _ hk => hk.2) (.int .i64 t570)) (fun _ hk => hk.2) (.slice Ao72 t571.length co72)) (fun _ hk => hk.2) (.slice Ao73 t574.length co73)) (fun _ h_ => h_.1)))); (case side2 => exact (Kd.R_reads' HO573.out).2.1); (case side3 => refine (Kd.R_reads' (e := 9) (base := w.heap.size) (ok := fun k_ => ((((((some k_ ≠ (.slice Ao72 t571.length co72 : Value).ownBlock ∧ some k_ ≠ (.slice Ao14 t532.length co14 : Value).ownBlock) ∧ some k_ ≠ (.slice Ao15 t535.length co15 : Value).ownBlock) ∧ some k_ ≠ (.slice Ao24 t545.length co24 : Value).ownBlock) ∧ some k_ ≠ (.slice Ao25 t548.length co25 : Value).ownBlock) ∧ some k_ ≠ (.slice Ao32 t554.length co32 : Value).ownBlock) ∧ some k_ ≠ (.slice Ao33 t557.length co33 : Value).ownBlock)) (n := t574.length) (c := co73) ?_).2.2; exact (Rz (Kd.R_mono (Kd.R_far (p := ⟨gb577, 2, none⟩) (Kd.R_far (p := ⟨gb577, 1, none⟩) (Kd.R_far (p := ⟨gb577, 0, none⟩) (Kd.R_types HO576.out BK577.out (by decide)) (fun _ hk => hk.2) (.int .i64 t570)) (fun _ hk => hk.2) (.slice Ao72 t571.length co72)) (fun _ hk => hk.2) (.slice Ao73 t574.length co73)) (fun _ h_ => h_.1)))); (case side4 => exact (Kd.R_reads' HO576.out).2.1); rintro e w74 ⟨v580, v583, rfl, ho0, ho1, hb⟩; refine ⟨_, rfl, ?_⟩; have n0_ := am (Kd.R_mono (Kd.R_told (Kd.R_told (Kd.R_old (Rz (Kd.R_mono (Kd.R_far (p := ⟨gb577, 2, none⟩) (Kd.R_far (p := ⟨gb577, 1, none⟩) (Kd.R_far (p := ⟨gb577, 0, none⟩) (Kd.R_types HO_540001.out BK577.out (by decide)) (fun _ hk => hk.2) (.int .i64 t570)) (fun _ hk => hk.2) (.slice Ao72 t571.length co72)) (fun _ hk => hk.2) (.slice Ao73 t574.length co73)) (fun _ h_ => h_.1))) hb) (Kd.R_base ho0)) (Kd.R_base ho1)) (fun _ h_ => h_.1)); have n1_ := am (Kd.R_mono (Kd.R_told (Kd.R_told (Kd.R_old (Rz (Kd.R_mono (Kd.R_far (p := ⟨gb577, 2, none⟩) (Kd.R_far (p := ⟨gb577, 1, none⟩) (Kd.R_far (p := ⟨gb577, 0, none⟩) (Kd.R_types HO_540002.out BK577.out (by decide)) (fun _ hk => hk.2) (.int .i64 t570)) (fun _ hk => hk.2) (.slice Ao72 t571.length co72)) (fun _ hk => hk.2) (.slice Ao73 t574.length co73)) (fun _ h_ => h_.1))) hb) (Kd.R_base ho0)) (Kd.R_base ho1)) (fun _ h_ => h_.1)); have n2_ := am (Kd.R_mono (Kd.R_told (Kd.R_told (Kd.R_old (Rz (Kd.R_mono (Kd.R_far (p := ⟨gb577, 2, none⟩) (Kd.R_far (p := ⟨gb577, 1, none⟩) (Kd.R_far (p := ⟨gb577, 0, none⟩) (Kd.R_types HO_553001.out BK577.out (by decide)) (fun _ hk => hk.2) (.int .i64 t570)) (fun _ hk => hk.2) (.slice Ao72 t571.length co72)) (fun _ hk => hk.2) (.slice Ao73 t574.length co73)) (fun _ h_ => h_.1))) hb) (Kd.R_base ho0)) (Kd.R_base ho1)) (fun _ h_ => h_.1)); have n3_ := am (Kd.R_mono (Kd.R_told (Kd.R_told (Kd.R_old (Rz (Kd.R_mono (Kd.R_far (p := ⟨gb577, 2, none⟩) (Kd.R_far (p := ⟨gb577, 1, none⟩) (Kd.R_far (p := ⟨gb577, 0, none⟩) (Kd.R_types HO_553002.out BK577.out (by decide)) (fun _ hk => hk.2) (.int .i64 t570)) (fun _ hk => hk.2) (.slice Ao72 t571.length co72)) (fun _ hk => hk.2) (.slice Ao73 t574.length co73)) (fun _ h_ => h_.1))) hb) (Kd.R_base ho0)) (Kd.R_base ho1)) (fun _ h_ => h_.1)); have n4_ := am (Kd.R_mono (Kd.R_told (Kd.R_told (Kd.R_old (Rz (Kd.R_mono (Kd.R_far (p := ⟨gb577, 2, none⟩) (Kd.R_far (p := ⟨gb577, 1, none⟩) (Kd.R_far (p := ⟨gb577, 0, none⟩) (Kd.R_types HO_562001.out BK577.out (by decide)) (fun _ hk => hk.2) (.int .i64 t570)) (fun _ hk => hk.2) (.slice Ao72 t571.length co72)) (fun _ hk => hk.2) (.slice Ao73 t574.length co73)) (fun _ h_ => h_.1))) hb) (Kd.R_base ho0)) (Kd.R_base ho1)) (fun _ h_ => h_.1)); have n5_ := am (Kd.R_mono (Kd.R_told (Kd.R_told (Kd.R_old (Rz (Kd.R_mono (Kd.R_far (p := ⟨gb577, 2, none⟩) (Kd.R_far (p := ⟨gb577, 1, none⟩) (Kd.R_far (p := ⟨gb577, 0, none⟩) (Kd.R_types HO_562002.out BK577.out (by decide)) (fun _ hk => hk.2) (.int .i64 t570)) (fun _ hk => hk.2) (.slice Ao72 t571.length co72)) (fun _ hk => hk.2) (.slice Ao73 t574.length co73)) (fun _ h_ => h_.1))) hb) (Kd.R_base ho0)) (Kd.R_base ho1)) (fun _ h_ => h_.1)); have n6_ := am (Kd.R_mono (Kd.R_told (Kd.R_told (Kd.R_old (Rz (Kd.R_mono (Kd.R_far (p := ⟨gb577, 2, none⟩) (Kd.R_far (p := ⟨gb577, 1, none⟩) (Kd.R_far (p := ⟨gb577, 0, none⟩) (Kd.R_types HO573.out BK577.out (by decide)) (fun _ hk => hk.2) (.int .i64 t570)) (fun _ hk => hk.2) (.slice Ao72 t571.length co72)) (fun _ hk => hk.2) (.slice Ao73 t574.length co73)) (fun _ h_ => h_.1))) hb) (Kd.R_base ho0)) (Kd.R_base ho1)) (fun _ h_ => h_.1)); have n7_ := am (Kd.R_mono (Kd.R_told (Kd.R_told (Kd.R_old (Rz (Kd.R_mono (Kd.R_far (p := ⟨gb577, 2, none⟩) (Kd.R_far (p := ⟨gb577, 1, none⟩) (Kd.R_far (p := ⟨gb577, 0, none⟩) (Kd.R_types HO576.out BK577.out (by decide)) (fun _ hk => hk.2) (.int .i64 t570)) (fun _ hk => hk.2) (.slice Ao72 t571.length co72)) (fun _ hk => hk.2) (.slice Ao73 t574.length co73)) (fun _ h_ => h_.1))) hb) (Kd.R_base ho0)) (Kd.R_base ho1)) (fun _ h_ => h_.1)); have n8_ := am (Kd.R_lower (Kd.R_new' (Kd.R_new' (Kd.R_new' (Kd.R_new' (Kd.R_new' (Kd.R_new' (Kd.R_new' (Kd.R_new' ho0 (Kd.R_lt (Rz (Kd.R_mono (Kd.R_far (p := ⟨gb577, 2, none⟩) (Kd.R_far (p := ⟨gb577, 1, none⟩) (Kd.R_far (p := ⟨gb577, 0, none⟩) (Kd.R_types HO_540001.out BK577.out (by decide)) (fun _ hk => hk.2) (.int .i64 t570)) (fun _ hk => hk.2) (.slice Ao72 t571.length co72)) (fun _ hk => hk.2) (.slice Ao73 t574.length co73)) (fun _ h_ => h_.1))))) (Kd.R_lt (Rz (Kd.R_mono (Kd.R_far (p := ⟨gb577, 2, none⟩) (Kd.R_far (p := ⟨gb577, 1, none⟩) (Kd.R_far (p := ⟨gb577, 0, none⟩) (Kd.R_types HO_540002.out BK577.out (by decide)) (fun _ hk => hk.2) (.int .i64 t570)) (fun _ hk => hk.2) (.slice Ao72 t571.length co72)) (fun _ hk => hk.2) (.slice Ao73 t574.length co73)) (fun _ h_ => h_.1))))) (Kd.R_lt (Rz (Kd.R_mono (Kd.R_far (p := ⟨gb577, 2, none⟩) (Kd.R_far (p := ⟨gb577, 1, none⟩) (Kd.R_far (p := ⟨gb577, 0, none⟩) (Kd.R_types HO_553001.out BK577.out (by decide)) (fun _ hk => hk.2) (.int .i64 t570)) (fun _ hk => hk.2) (.slice Ao72 t571.length co72)) (fun _ hk => hk.2) (.slice Ao73 t574.length co73)) (fun _ h_ => h_.1))))) (Kd.R_lt (Rz (Kd.R_mono (Kd.R_far (p := ⟨gb577, 2, none⟩) (Kd.R_far (p := ⟨gb577, 1, none⟩) (Kd.R_far (p := ⟨gb577, 0, none⟩) (Kd.R_types HO_553002.out BK577.out (by decide)) (fun _ hk => hk.2) (.int .i64 t570)) (fun _ hk => hk.2) (.slice Ao72 t571.length co72)) (fun _ hk => hk.2) (.slice Ao73 t574.length co73)) (fun _ h_ => h_.1))))) (Kd.R_lt (Rz (Kd.R_mono (Kd.R_far (p := ⟨gb577, 2, none⟩) (Kd.R_far (p := ⟨gb577, 1, none⟩) (Kd.R_far (p := ⟨gb577, 0, none⟩) (Kd.R_types HO_562001.out BK577.out (by decide)) (fun _ hk => hk.2) (.int .i64 t570)) (fun _ hk => hk.2) (.slice Ao72 t571.length co72)) (fun _ hk => hk.2) (.slice Ao73 t574.length co73)) (fun _ h_ => h_.1))))) (Kd.R_lt (Rz (Kd.R_mono (Kd.R_far (p := ⟨gb577, 2, none⟩) (Kd.R_far (p := ⟨gb577, 1, none⟩) (Kd.R_far (p := ⟨gb577, 0, none⟩) (Kd.R_types HO_562002.out BK577.out (by decide)) (fun _ hk => hk.2) (.int .i64 t570)) (fun _ hk => hk.2) (.slice Ao72 t571.length co72)) (fun _ hk => hk.2) (.slice Ao73 t574.length co73)) (fun _ h_ => h_.1))))) (Kd.R_lt (Rz (Kd.R_mono (Kd.R_far (p := ⟨gb577, 2, none⟩) (Kd.R_far (p := ⟨gb577, 1, none⟩) (Kd.R_far (p := ⟨gb577, 0, none⟩) (Kd.R_types HO573.out BK577.out (by decide)) (fun _ hk => hk.2) (.int .i64 t570)) (fun _ hk => hk.2) (.slice Ao72 t571.length co72)) (fun _ hk => hk.2) (.slice Ao73 t574.length co73)) (fun _ h_ => h_.1))))) (Kd.R_lt (Rz (Kd.R_mono (Kd.R_far (p := ⟨gb577, 2, none⟩) (Kd.R_far (p := ⟨gb577, 1, none⟩) (Kd.R_far (p := ⟨gb577, 0, none⟩) (Kd.R_types HO576.out BK577.out (by decide)) (fun _ hk => hk.2) (.int .i64 t570)) (fun _ hk => hk.2) (.slice Ao72 t571.length co72)) (fun _ hk => hk.2) (.slice Ao73 t574.length co73)) (fun _ h_ => h_.1))))) (below_size (w := w) (Bq))); have n9_ := am (Kd.R_lower (Kd.R_new' (Kd.R_new' (Kd.R_new' (Kd.R_new' (Kd.R_new' (Kd.R_new' (Kd.R_new' (Kd.R_new' ho1 (Kd.R_lt (Rz (Kd.R_mono (Kd.R_far (p := ⟨gb577, 2, none⟩) (Kd.R_far (p := ⟨gb577, 1, none⟩) (Kd.R_far (p := ⟨gb577, 0, none⟩) (Kd.R_types HO_540001.out BK577.out (by decide)) (fun _ hk => hk.2) (.int .i64 t570)) (fun _ hk => hk.2) (.slice Ao72 t571.length co72)) (fun _ hk => hk.2) (.slice Ao73 t574.length co73)) (fun _ h_ => h_.1))))) (Kd.R_lt (Rz (Kd.R_mono (Kd.R_far (p := ⟨gb577, 2, none⟩) (Kd.R_far (p := ⟨gb577, 1, none⟩) (Kd.R_far (p := ⟨gb577, 0, none⟩) (Kd.R_types HO_540002.out BK577.out (by decide)) (fun _ hk => hk.2) (.int .i64 t570)) (fun _ hk => hk.2) (.slice Ao72 t571.length co72)) (fun _ hk => hk.2) (.slice Ao73 t574.length co73)) (fun _ h_ => h_.1))))) (Kd.R_lt (Rz (Kd.R_mono (Kd.R_far (p := ⟨gb577, 2, none⟩) (Kd.R_far (p := ⟨gb577, 1, none⟩) (Kd.R_far (p := ⟨gb577, 0, none⟩) (Kd.R_types HO_553001.out BK577.out (by decide)) (fun _ hk => hk.2) (.int .i64 t570)) (fun _ hk => hk.2) (.slice Ao72 t571.length co72)) (fun _ hk => hk.2) (.slice Ao73 t574.length co73)) (fun _ h_ => h_.1))))) (Kd.R_lt (Rz (Kd.R_mono (Kd.R_far (p := ⟨gb577, 2, none⟩) (Kd.R_far (p := ⟨gb577, 1, none⟩) (Kd.R_far (p := ⟨gb577, 0, none⟩) (Kd.R_types HO_553002.out BK577.out (by decide)) (fun _ hk => hk.2) (.int .i64 t570)) (fun _ hk => hk.2) (.slice Ao72 t571.length co72)) (fun _ hk => hk.2) (.slice Ao73 t574.length co73)) (fun _ h_ => h_.1))))) (Kd.R_lt (Rz (Kd.R_mono (Kd.R_far (p := ⟨gb577, 2, none⟩) (Kd.R_far (p := ⟨gb577, 1, none⟩) (Kd.R_far (p := ⟨gb577, 0, none⟩) (Kd.R_types HO_562001.out BK577.out (by decide)) (fun _ hk => hk.2) (.int .i64 t570)) (fun _ hk => hk.2) (.slice Ao72 t571.length co72)) (fun _ hk => hk.2) (.slice Ao73 t574.length co73)) (fun _ h_ => h_.1))))) (Kd.R_lt (Rz (Kd.R_mono (Kd.R_far (p := ⟨gb577, 2, none⟩) (Kd.R_far (p := ⟨gb577, 1, none⟩) (Kd.R_far (p := ⟨gb577, 0, none⟩) (Kd.R_types HO_562002.out BK577.out (by decide)) (fun _ hk => hk.2) (.int .i64 t570)) (fun _ hk => hk.2) (.slice Ao72 t571.length co72)) (fun _ hk => hk.2) (.slice Ao73 t574.length co73)) (fun _ h_ => h_.1))))) (Kd.R_lt (Rz (Kd.R_mono (Kd.R_far (p := ⟨gb577, 2, none⟩) (Kd.R_far (p := ⟨gb577, 1, none⟩) (Kd.R_far (p := ⟨gb577, 0, none⟩) (Kd.R_types HO573.out BK577.out (by decide)) (fun _ hk => hk.2) (.int .i64 t570)) (fun _ hk => hk.2) (.slice Ao72 t571.length co72)) (fun _ hk => hk.2) (.slice Ao73 t574.length co73)) (fun _ h_ => h_.1))))) (Kd.R_lt (Rz (Kd.R_mono (Kd.R_far (p := ⟨gb577, 2, none⟩) (Kd.R_far (p := ⟨gb577, 1, none⟩) (Kd.R_far (p := ⟨gb577, 0, none⟩) (Kd.R_types HO576.out BK577.out (by decide)) (fun _ hk => hk.2) (.int .i64 t570)) (fun _ hk => hk.2) (.slice Ao72 t571.length co72)) (fun _ hk => hk.2) (.slice Ao73 t574.length co73)) (fun _ h_ => h_.1))))) (below_size (w := w) (Bq))); have n10_ := am (blk_below (g := gb539) (o := .cells #[.int .i64 t531, .slice Ao14 t532.length co14, .slice Ao15 t535.length co15] 51 (0, 0)) (by (with_reducible repeat (first | refine blk_drewN ?_ _ | refine blk_drew ?_ | refine blk_alloc ?_ _)); refine blk_far ?_ NB539_577.out _; (with_reducible repeat (first | refine blk_drewN ?_ _ | refine blk_drew ?_ | refine blk_alloc ?_ _)); refine blk_far ?_ NB539_577.out _; (with_reducible repeat (first | refine blk_drewN ?_ _ | refine blk_drew ?_ | refine blk_alloc ?_ _)); refine blk_far ?_ NB539_577.out _; exact Kz BK539.out) hb); have n11_ := am (blk_below (g := gb552) (o := .cells #[.int .i64 t544, .slice Ao24 t545.length co24, .slice Ao25 t548.length co25] 51 (0, 0)) (by (with_reducible repeat (first | refine blk_drewN ?_ _ | refine blk_drew ?_ | refine blk_alloc ?_ _)); refine blk_far ?_ NB552_577.out _; (with_reducible repeat (first | refine blk_drewN ?_ _ | refine blk_drew ?_ | refine blk_alloc ?_ _)); refine blk_far ?_ NB552_577.out _; (with_reducible repeat (first | refine blk_drewN ?_ _ | refine blk_drew ?_ | refine blk_alloc ?_ _)); refine blk_far ?_ NB552_577.out _; exact Kz BK552.out) hb); have n12_ := am (blk_below (g := gb561) (o := .cells #[.int .i64 t553, .slice Ao32 t554.length co32, .slice Ao33 t557.length co33] 51 (0, 0)) (by (with_reducible repeat (first | refine blk_drewN ?_ _ | refine blk_drew ?_ | refine blk_alloc ?_ _)); refine blk_far ?_ NB561_577.out _; (with_reducible repeat (first | refine blk_drewN ?_ _ | refine blk_drew ?_ | refine blk_alloc ?_ _)); refine blk_far ?_ NB561_577.out _; (with_reducible repeat (first | refine blk_drewN ?_ _ | refine blk_drew ?_ | refine blk_alloc ?_ _)); refine blk_far ?_ NB561_577.out _; exact Kz BK561.out) hb); have n13_ := am (blk_below (g := gb577) (o := .cells #[.int .i64 t570, .slice Ao72 t571.length co72, .slice Ao73 t574.length co73] 51 (0, 0)) (by (with_reducible repeat (first | refine blk_drewN ?_ _ | refine blk_drew ?_ | refine blk_alloc ?_ _)); refine blk_put (cs := #[.int .i64 t570, .slice Ao72 t571.length co72, .slice none 0 0]) ?_ 2 _ rfl; (with_reducible repeat (first | refine blk_drewN ?_ _ | refine blk_drew ?_ | refine blk_alloc ?_ _)); refine blk_put (cs := #[.int .i64 t570, .slice none 0 0, .slice none 0 0]) ?_ 1 _ rfl; (with_reducible repeat (first | refine blk_drewN ?_ _ | refine blk_drew ?_ | refine blk_alloc ?_ _)); refine blk_put (cs := #[.int .i64 0, .slice none 0 0, .slice none 0 0]) ?_ 0 _ rfl; exact Kz BK577.out) hb); have n14_ := Bc HB hb; clear HO_540001 HO_540002 HO_553001 HO_553002 HO_562001 HO_562002 HO573 HO576 BK539 BK552 BK561 BK577 HB; revert n0_ n1_ n2_ n3_ n4_ n5_ n6_ n7_ n8_ n9_ n10_ n11_ n12_ n13_ n14_; intro HO_540001 HO_540002 HO_553001 HO_553002 HO_562001 HO_562002 HO573 HO576 HO581 HO584 BK539 BK552 BK561 BK577 HB; (try clear hb); (try clear hb2); (try clear hk); (try clear hi); (try clear ho0); (try clear ho1)) | ((with_reducible refine gate_dst (N := 20) rfl ?_); (try (refine gate_guard (by rfl) ?_; dsimp only)); refine bE 20 #[.int .i64 0, .slice none 0 0, .slice none 0 0] 51 ?_; intro gb586 hg w75 hbox hb; have n0_ := Rb HO_540001 hb; have n1_ := Rb HO_540002 hb; have n2_ := Rb HO_553001 hb; have n3_ := Rb HO_553002 hb; have n4_ := Rb HO_562001 hb; have n5_ := Rb HO_562002 hb; have n6_ := Rb HO573 hb; have n7_ := Rb HO576 hb; have n8_ := Rb HO581 hb; have n9_ := Rb HO584 hb; have n10_ := Kb BK539 hb; have n11_ := Kb BK552 hb; have n12_ := Kb BK561 hb; have n13_ := Kb BK577 hb; have n14_ := Bc HB hb; have n15_ := am (hbox); have n16_ := Gm HB hg; have n17_ := Gm HB hg; have n18_ := Nl BK539 hg; have n19_ := Ng BK539 hg; have n20_ := Nl BK552 hg; have n21_ := Ng BK552 hg; have n22_ := Nl BK561 hg; have n23_ := Ng BK561 hg; have n24_ := Nl BK577 hg; have n25_ := Ng BK577 hg; clear HO_540001 HO_540002 HO_553001 HO_553002 HO_562001 HO_562002 HO573 HO576 HO581 HO584 BK539 BK552 BK561 BK577 HB; revert n0_ n1_ n2_ n3_ n4_ n5_ n6_ n7_ n8_ n9_ n10_ n11_ n12_ n13_ n14_ n15_ n16_ n17_ n18_ n19_ n20_ n21_ n22_ n23_ n24_ n25_; intro HO_540001 HO_540002 HO_553001 HO_553002 HO_562001 HO_562002 HO573 HO576 HO581 HO584 BK539 BK552 BK561 BK577 HB BK586 GW586 GE586 NB539_586 NB586_539 NB552_586 NB586_552 NB561_586 NB586_561 NB577_586 NB586_577; clear hb hbox hg; have hnb76 := NB586_539.out; have hnc76 := NB539_586.out; have hnb77 := NB586_552.out; have hnc77 := NB552_586.out; have hnb78 := NB586_561.out; have hnc78 := NB561_586.out; have hnb79 := NB586_577.out; have hnc79 := NB577_586.out; obtain ⟨hcz80_0, hcz80_1, hcz80_2, hfz80_0, hfz80_1, hfz80_2⟩ := cf3 (w := w75) BK586; obtain ⟨Ao81, co81, eo81⟩ := Kd.R_slice HO581.out; subst eo81; obtain ⟨Ao82, co82, eo82⟩ := Kd.R_slice HO584.out; subst eo82; obtain ⟨hcz83_0, hcz83_1, hcz83_2, hfz83_0, hfz83_1, hfz83_2⟩ := cf3 (w := w75) BK577) | ((with_reducible refine gate_callee (f := 50) rfl ?_); refine gL (some 116) Try.func50 #[.agg #[.int .i64 t570, .slice Ao72 t571.length co72, .slice Ao73 t574.length co73]] ?_; (with_reducible refine (spec_CuckooUnstash.calls kj45 t570 _ _ t571 _ _ t574 t587 t588 t591 t594 _ ?side1 ?side2 ?side3 ?side4 A64.out).mono ?_); (case side1 => refine (Kd.R_reads' (e := 9) (base := w.heap.size) (ok := fun k_ => ((((((((some k_ ≠ (.slice Ao73 t574.length co73 : Value).ownBlock ∧ some k_ ≠ (.slice Ao14 t532.length co14 : Value).ownBlock) ∧ some k_ ≠ (.slice Ao15 t535.length co15 : Value).ownBlock) ∧ some k_ ≠ (.slice Ao24 t545.length co24 : Value).ownBlock) ∧ some k_ ≠ (.slice Ao25 t548.length co25 : Value).ownBlock) ∧ some k_ ≠ (.slice Ao32 t554.length co32 : Value).ownBlock) ∧ some k_ ≠ (.slice Ao33 t557.length co33 : Value).ownBlock) ∧ some k_ ≠ (.slice Ao81 t579.length co81 : Value).ownBlock) ∧ some k_ ≠ (.slice Ao82 t582.length co82 : Value).ownBlock)) (n := t571.length) (c := co72) ?_).2.2; exact (Rz (Kd.R_mono (Kd.R_far (p := ⟨gb586, 2, none⟩) (Kd.R_far (p := ⟨gb586, 1, none⟩) (Kd.R_far (p := ⟨gb586, 0, none⟩) (Kd.R_types HO573.out BK586.out (by decide)) (fun _ hk => hk.2) (.int .i64 t578)) (fun _ hk => hk.2) (.slice Ao81 t579.length co81)) (fun _ hk => hk.2) (.slice Ao82 t582.length co82)) (fun _ h_ => h_.1)))); (case side2 => exact (Kd.R_reads' HO573.out).2.1); (case side3 => refine (Kd.R_reads' (e := 9) (base := w.heap.size) (ok := fun k_ => ((((((((some k_ ≠ (.slice Ao72 t571.length co72 : Value).ownBlock ∧ some k_ ≠ (.slice Ao14 t532.length co14 : Value).ownBlock) ∧ some k_ ≠ (.slice Ao15 t535.length co15 : Value).ownBlock) ∧ some k_ ≠ (.slice Ao24 t545.length co24 : Value).ownBlock) ∧ some k_ ≠ (.slice Ao25 t548.length co25 : Value).ownBlock) ∧ some k_ ≠ (.slice Ao32 t554.length co32 : Value).ownBlock) ∧ some k_ ≠ (.slice Ao33 t557.length co33 : Value).ownBlock) ∧ some k_ ≠ (.slice Ao81 t579.length co81 : Value).ownBlock) ∧ some k_ ≠ (.slice Ao82 t582.length co82 : Value).ownBlock)) (n := t574.length) (c := co73) ?_).2.2; exact (Rz (Kd.R_mono (Kd.R_far (p := ⟨gb586, 2, none⟩) (Kd.R_far (p := ⟨gb586, 1, none⟩) (Kd.R_far (p := ⟨gb586, 0, none⟩) (Kd.R_types HO576.out BK586.out (by decide)) (fun _ hk => hk.2) (.int .i64 t578)) (fun _ hk => hk.2) (.slice Ao81 t579.length co81)) (fun _ hk => hk.2) (.slice Ao82 t582.length co82)) (fun _ h_ => h_.1)))); (case side4 => exact (Kd.R_reads' HO576.out).2.1); rintro e w84 ⟨v589, v592, rfl, ho0, ho1, hb⟩; refine ⟨_, rfl, ?_⟩; have n0_ := am (Kd.R_mono (Kd.R_told (Kd.R_told (Kd.R_old (Rz (Kd.R_mono (Kd.R_far (p := ⟨gb586, 2, none⟩) (Kd.R_far (p := ⟨gb586, 1, none⟩) (Kd.R_far (p := ⟨gb586, 0, none⟩) (Kd.R_types HO_540001.out BK586.out (by decide)) (fun _ hk => hk.2) (.int .i64 t578)) (fun _ hk => hk.2) (.slice Ao81 t579.length co81)) (fun _ hk => hk.2) (.slice Ao82 t582.length co82)) (fun _ h_ => h_.1))) hb) (Kd.R_base ho0)) (Kd.R_base ho1)) (fun _ h_ => h_.1)); have n1_ := am (Kd.R_mono (Kd.R_told (Kd.R_told (Kd.R_old (Rz (Kd.R_mono (Kd.R_far (p := ⟨gb586, 2, none⟩) (Kd.R_far (p := ⟨gb586, 1, none⟩) (Kd.R_far (p := ⟨gb586, 0, none⟩) (Kd.R_types HO_540002.out BK586.out (by decide)) (fun _ hk => hk.2) (.int .i64 t578)) (fun _ hk => hk.2) (.slice Ao81 t579.length co81)) (fun _ hk => hk.2) (.slice Ao82 t582.length co82)) (fun _ h_ => h_.1))) hb) (Kd.R_base ho0)) (Kd.R_base ho1)) (fun _ h_ => h_.1)); have n2_ := am (Kd.R_mono (Kd.R_told (Kd.R_told (Kd.R_old (Rz (Kd.R_mono (Kd.R_far (p := ⟨gb586, 2, none⟩) (Kd.R_far (p := ⟨gb586, 1, none⟩) (Kd.R_far (p := ⟨gb586, 0, none⟩) (Kd.R_types HO_553001.out BK586.out (by decide)) (fun _ hk => hk.2) (.int .i64 t578)) (fun _ hk => hk.2) (.slice Ao81 t579.length co81)) (fun _ hk => hk.2) (.slice Ao82 t582.length co82)) (fun _ h_ => h_.1))) hb) (Kd.R_base ho0)) (Kd.R_base ho1)) (fun _ h_ => h_.1)); have n3_ := am (Kd.R_mono (Kd.R_told (Kd.R_told (Kd.R_old (Rz (Kd.R_mono (Kd.R_far (p := ⟨gb586, 2, none⟩) (Kd.R_far (p := ⟨gb586, 1, none⟩) (Kd.R_far (p := ⟨gb586, 0, none⟩) (Kd.R_types HO_553002.out BK586.out (by decide)) (fun _ hk => hk.2) (.int .i64 t578)) (fun _ hk => hk.2) (.slice Ao81 t579.length co81)) (fun _ hk => hk.2) (.slice Ao82 t582.length co82)) (fun _ h_ => h_.1))) hb) (Kd.R_base ho0)) (Kd.R_base ho1)) (fun _ h_ => h_.1)); have n4_ := am (Kd.R_mono (Kd.R_told (Kd.R_told (Kd.R_old (Rz (Kd.R_mono (Kd.R_far (p := ⟨gb586, 2, none⟩) (Kd.R_far (p := ⟨gb586, 1, none⟩) (Kd.R_far (p := ⟨gb586, 0, none⟩) (Kd.R_types HO_562001.out BK586.out (by decide)) (fun _ hk => hk.2) (.int .i64 t578)) (fun _ hk => hk.2) (.slice Ao81 t579.length co81)) (fun _ hk => hk.2) (.slice Ao82 t582.length co82)) (fun _ h_ => h_.1))) hb) (Kd.R_base ho0)) (Kd.R_base ho1)) (fun _ h_ => h_.1)); have n5_ := am (Kd.R_mono (Kd.R_told (Kd.R_told (Kd.R_old (Rz (Kd.R_mono (Kd.R_far (p := ⟨gb586, 2, none⟩) (Kd.R_far (p := ⟨gb586, 1, none⟩) (Kd.R_far (p := ⟨gb586, 0, none⟩) (Kd.R_types HO_562002.out BK586.out (by decide)) (fun _ hk => hk.2) (.int .i64 t578)) (fun _ hk => hk.2) (.slice Ao81 t579.length co81)) (fun _ hk => hk.2) (.slice Ao82 t582.length co82)) (fun _ h_ => h_.1))) hb) (Kd.R_base ho0)) (Kd.R_base ho1)) (fun _ h_ => h_.1)); have n6_ := am (Kd.R_mono (Kd.R_told (Kd.R_told (Kd.R_old (Rz (Kd.R_mono (Kd.R_far (p := ⟨gb586, 2, none⟩) (Kd.R_far (p := ⟨gb586, 1, none⟩) (Kd.R_far (p := ⟨gb586, 0, none⟩) (Kd.R_types HO573.out BK586.out (by decide)) (fun _ hk => hk.2) (.int .i64 t578)) (fun _ hk => hk.2) (.slice Ao81 t579.length co81)) (fun _ hk => hk.2) (.slice Ao82 t582.length co82)) (fun _ h_ => h_.1))) hb) (Kd.R_base ho0)) (Kd.R_base ho1)) (fun _ h_ => h_.1)); have n7_ := am (Kd.R_mono (Kd.R_told (Kd.R_told (Kd.R_old (Rz (Kd.R_mono (Kd.R_far (p := ⟨gb586, 2, none⟩) (Kd.R_far (p := ⟨gb586, 1, none⟩) (Kd.R_far (p := ⟨gb586, 0, none⟩) (Kd.R_types HO576.out BK586.out (by decide)) (fun _ hk => hk.2) (.int .i64 t578)) (fun _ hk => hk.2) (.slice Ao81 t579.length co81)) (fun _ hk => hk.2) (.slice Ao82 t582.length co82)) (fun _ h_ => h_.1))) hb) (Kd.R_base ho0)) (Kd.R_base ho1)) (fun _ h_ => h_.1)); have n8_ := am (Kd.R_mono (Kd.R_told (Kd.R_told (Kd.R_old (Rz (Kd.R_mono (Kd.R_far (p := ⟨gb586, 2, none⟩) (Kd.R_far (p := ⟨gb586, 1, none⟩) (Kd.R_far (p := ⟨gb586, 0, none⟩) (Kd.R_types HO581.out BK586.out (by decide)) (fun _ hk => hk.2) (.int .i64 t578)) (fun _ hk => hk.2) (.slice Ao81 t579.length co81)) (fun _ hk => hk.2) (.slice Ao82 t582.length co82)) (fun _ h_ => h_.1))) hb) (Kd.R_base ho0)) (Kd.R_base ho1)) (fun _ h_ => h_.1)); have n9_ := am (Kd.R_mono (Kd.R_told (Kd.R_told (Kd.R_old (Rz (Kd.R_mono (Kd.R_far (p := ⟨gb586, 2, none⟩) (Kd.R_far (p := ⟨gb586, 1, none⟩) (Kd.R_far (p := ⟨gb586, 0, none⟩) (Kd.R_types HO584.out BK586.out (by decide)) (fun _ hk => hk.2) (.int .i64 t578)) (fun _ hk => hk.2) (.slice Ao81 t579.length co81)) (fun _ hk => hk.2) (.slice Ao82 t582.length co82)) (fun _ h_ => h_.1))) hb) (Kd.R_base ho0)) (Kd.R_base ho1)) (fun _ h_ => h_.1)); have n10_ := am (Kd.R_lower (Kd.R_new' (Kd.R_new' (Kd.R_new' (Kd.R_new' (Kd.R_new' (Kd.R_new' (Kd.R_new' (Kd.R_new' (Kd.R_new' (Kd.R_new' ho0 (Kd.R_lt (Rz (Kd.R_mono (Kd.R_far (p := ⟨gb586, 2, none⟩) (Kd.R_far (p := ⟨gb586, 1, none⟩) (Kd.R_far (p := ⟨gb586, 0, none⟩) (Kd.R_types HO_540001.out BK586.out (by decide)) (fun _ hk => hk.2) (.int .i64 t578)) (fun _ hk => hk.2) (.slice Ao81 t579.length co81)) (fun _ hk => hk.2) (.slice Ao82 t582.length co82)) (fun _ h_ => h_.1))))) (Kd.R_lt (Rz (Kd.R_mono (Kd.R_far (p := ⟨gb586, 2, none⟩) (Kd.R_far (p := ⟨gb586, 1, none⟩) (Kd.R_far (p := ⟨gb586, 0, none⟩) (Kd.R_types HO_540002.out BK586.out (by decide)) (fun _ hk => hk.2) (.int .i64 t578)) (fun _ hk => hk.2) (.slice Ao81 t579.length co81)) (fun _ hk => hk.2) (.slice Ao82 t582.length co82)) (fun _ h_ => h_.1))))) (Kd.R_lt (Rz (Kd.R_mono (Kd.R_far (p := ⟨gb586, 2, none⟩) (Kd.R_far (p := ⟨gb586, 1, none⟩) (Kd.R_far (p := ⟨gb586, 0, none⟩) (Kd.R_types HO_553001.out BK586.out (by decide)) (fun _ hk => hk.2) (.int .i64 t578)) (fun _ hk => hk.2) (.slice Ao81 t579.length co81)) (fun _ hk => hk.2) (.slice Ao82 t582.length co82)) (fun _ h_ => h_.1))))) (Kd.R_lt (Rz (Kd.R_mono (Kd.R_far (p := ⟨gb586, 2, none⟩) (Kd.R_far (p := ⟨gb586, 1, none⟩) (Kd.R_far (p := ⟨gb586, 0, none⟩) (Kd.R_types HO_553002.out BK586.out (by decide)) (fun _ hk => hk.2) (.int .i64 t578)) (fun _ hk => hk.2) (.slice Ao81 t579.length co81)) (fun _ hk => hk.2) (.slice Ao82 t582.length co82)) (fun _ h_ => h_.1))))) (Kd.R_lt (Rz (Kd.R_mono (Kd.R_far (p := ⟨gb586, 2, none⟩) (Kd.R_far (p := ⟨gb586, 1, none⟩) (Kd.R_far (p := ⟨gb586, 0, none⟩) (Kd.R_types HO_562001.out BK586.out (by decide)) (fun _ hk => hk.2) (.int .i64 t578)) (fun _ hk => hk.2) (.slice Ao81 t579.length co81)) (fun _ hk => hk.2) (.slice Ao82 t582.length co82)) (fun _ h_ => h_.1))))) (Kd.R_lt (Rz (Kd.R_mono (Kd.R_far (p := ⟨gb586, 2, none⟩) (Kd.R_far (p := ⟨gb586, 1, none⟩) (Kd.R_far (p := ⟨gb586, 0, none⟩) (Kd.R_types HO_562002.out BK586.out (by decide)) (fun _ hk => hk.2) (.int .i64 t578)) (fun _ hk => hk.2) (.slice Ao81 t579.length co81)) (fun _ hk => hk.2) (.slice Ao82 t582.length co82)) (fun _ h_ => h_.1))))) (Kd.R_lt (Rz (Kd.R_mono (Kd.R_far (p := ⟨gb586, 2, none⟩) (Kd.R_far (p := ⟨gb586, 1, none⟩) (Kd.R_far (p := ⟨gb586, 0, none⟩) (Kd.R_types HO573.out BK586.out (by decide)) (fun _ hk => hk.2) (.int .i64 t578)) (fun _ hk => hk.2) (.slice Ao81 t579.length co81)) (fun _ hk => hk.2) (.slice Ao82 t582.length co82)) (fun _ h_ => h_.1))))) (Kd.R_lt (Rz (Kd.R_mono (Kd.R_far (p := ⟨gb586, 2, none⟩) (Kd.R_far (p := ⟨gb586, 1, none⟩) (Kd.R_far (p := ⟨gb586, 0, none⟩) (Kd.R_types HO576.out BK586.out (by decide)) (fun _ hk => hk.2) (.int .i64 t578)) (fun _ hk => hk.2) (.slice Ao81 t579.length co81)) (fun _ hk => hk.2) (.slice Ao82 t582.length co82)) (fun _ h_ => h_.1))))) (Kd.R_lt (Rz (Kd.R_mono (Kd.R_far (p := ⟨gb586, 2, none⟩) (Kd.R_far (p := ⟨gb586, 1, none⟩) (Kd.R_far (p := ⟨gb586, 0, none⟩) (Kd.R_types HO581.out BK586.out (by decide)) (fun _ hk => hk.2) (.int .i64 t578)) (fun _ hk => hk.2) (.slice Ao81 t579.length co81)) (fun _ hk => hk.2) (.slice Ao82 t582.length co82)) (fun _ h_ => h_.1))))) (Kd.R_lt (Rz (Kd.R_mono (Kd.R_far (p := ⟨gb586, 2, none⟩) (Kd.R_far (p := ⟨gb586, 1, none⟩) (Kd.R_far (p := ⟨gb586, 0, none⟩) (Kd.R_types HO584.out BK586.out (by decide)) (fun _ hk => hk.2) (.int .i64 t578)) (fun _ hk => hk.2) (.slice Ao81 t579.length co81)) (fun _ hk => hk.2) (.slice Ao82 t582.length co82)) (fun _ h_ => h_.1))))) (below_size (w := w) (Bq))); have n11_ := am (Kd.R_lower (Kd.R_new' (Kd.R_new' (Kd.R_new' (Kd.R_new' (Kd.R_new' (Kd.R_new' (Kd.R_new' (Kd.R_new' (Kd.R_new' (Kd.R_new' ho1 (Kd.R_lt (Rz (Kd.R_mono (Kd.R_far (p := ⟨gb586, 2, none⟩) (Kd.R_far (p := ⟨gb586, 1, none⟩) (Kd.R_far (p := ⟨gb586, 0, none⟩) (Kd.R_types HO_540001.out BK586.out (by decide)) (fun _ hk => hk.2) (.int .i64 t578)) (fun _ hk => hk.2) (.slice Ao81 t579.length co81)) (fun _ hk => hk.2) (.slice Ao82 t582.length co82)) (fun _ h_ => h_.1))))) (Kd.R_lt (Rz (Kd.R_mono (Kd.R_far (p := ⟨gb586, 2, none⟩) (Kd.R_far (p := ⟨gb586, 1, none⟩) (Kd.R_far (p := ⟨gb586, 0, none⟩) (Kd.R_types HO_540002.out BK586.out (by decide)) (fun _ hk => hk.2) (.int .i64 t578)) (fun _ hk => hk.2) (.slice Ao81 t579.length co81)) (fun _ hk => hk.2) (.slice Ao82 t582.length co82)) (fun _ h_ => h_.1))))) (Kd.R_lt (Rz (Kd.R_mono (Kd.R_far (p := ⟨gb586, 2, none⟩) (Kd.R_far (p := ⟨gb586, 1, none⟩) (Kd.R_far (p := ⟨gb586, 0, none⟩) (Kd.R_types HO_553001.out BK586.out (by decide)) (fun _ hk => hk.2) (.int .i64 t578)) (fun _ hk => hk.2) (.slice Ao81 t579.length co81)) (fun _ hk => hk.2) (.slice Ao82 t582.length co82)) (fun _ h_ => h_.1))))) (Kd.R_lt (Rz (Kd.R_mono (Kd.R_far (p := ⟨gb586, 2, none⟩) (Kd.R_far (p := ⟨gb586, 1, none⟩) (Kd.R_far (p := ⟨gb586, 0, none⟩) (Kd.R_types HO_553002.out BK586.out (by decide)) (fun _ hk => hk.2) (.int .i64 t578)) (fun _ hk => hk.2) (.slice Ao81 t579.length co81)) (fun _ hk => hk.2) (.slice Ao82 t582.length co82)) (fun _ h_ => h_.1))))) (Kd.R_lt (Rz (Kd.R_mono (Kd.R_far (p := ⟨gb586, 2, none⟩) (Kd.R_far (p := ⟨gb586, 1, none⟩) (Kd.R_far (p := ⟨gb586, 0, none⟩) (Kd.R_types HO_562001.out BK586.out (by decide)) (fun _ hk => hk.2) (.int .i64 t578)) (fun _ hk => hk.2) (.slice Ao81 t579.length co81)) (fun _ hk => hk.2) (.slice Ao82 t582.length co82)) (fun _ h_ => h_.1))))) (Kd.R_lt (Rz (Kd.R_mono (Kd.R_far (p := ⟨gb586, 2, none⟩) (Kd.R_far (p := ⟨gb586, 1, none⟩) (Kd.R_far (p := ⟨gb586, 0, none⟩) (Kd.R_types HO_562002.out BK586.out (by decide)) (fun _ hk => hk.2) (.int .i64 t578)) (fun _ hk => hk.2) (.slice Ao81 t579.length co81)) (fun _ hk => hk.2) (.slice Ao82 t582.length co82)) (fun _ h_ => h_.1))))) (Kd.R_lt (Rz (Kd.R_mono (Kd.R_far (p := ⟨gb586, 2, none⟩) (Kd.R_far (p := ⟨gb586, 1, none⟩) (Kd.R_far (p := ⟨gb586, 0, none⟩) (Kd.R_types HO573.out BK586.out (by decide)) (fun _ hk => hk.2) (.int .i64 t578)) (fun _ hk => hk.2) (.slice Ao81 t579.length co81)) (fun _ hk => hk.2) (.slice Ao82 t582.length co82)) (fun _ h_ => h_.1))))) (Kd.R_lt (Rz (Kd.R_mono (Kd.R_far (p := ⟨gb586, 2, none⟩) (Kd.R_far (p := ⟨gb586, 1, none⟩) (Kd.R_far (p := ⟨gb586, 0, none⟩) (Kd.R_types HO576.out BK586.out (by decide)) (fun _ hk => hk.2) (.int .i64 t578)) (fun _ hk => hk.2) (.slice Ao81 t579.length co81)) (fun _ hk => hk.2) (.slice Ao82 t582.length co82)) (fun _ h_ => h_.1))))) (Kd.R_lt (Rz (Kd.R_mono (Kd.R_far (p := ⟨gb586, 2, none⟩) (Kd.R_far (p := ⟨gb586, 1, none⟩) (Kd.R_far (p := ⟨gb586, 0, none⟩) (Kd.R_types HO581.out BK586.out (by decide)) (fun _ hk => hk.2) (.int .i64 t578)) (fun _ hk => hk.2) (.slice Ao81 t579.length co81)) (fun _ hk => hk.2) (.slice Ao82 t582.length co82)) (fun _ h_ => h_.1))))) (Kd.R_lt (Rz (Kd.R_mono (Kd.R_far (p := ⟨gb586, 2, none⟩) (Kd.R_far (p := ⟨gb586, 1, none⟩) (Kd.R_far (p := ⟨gb586, 0, none⟩) (Kd.R_types HO584.out BK586.out (by decide)) (fun _ hk => hk.2) (.int .i64 t578)) (fun _ hk => hk.2) (.slice Ao81 t579.length co81)) (fun _ hk => hk.2) (.slice Ao82 t582.length co82)) (fun _ h_ => h_.1))))) (below_size (w := w) (Bq))); have n12_ := am (blk_below (g := gb539) (o := .cells #[.int .i64 t531, .slice Ao14 t532.length co14, .slice Ao15 t535.length co15] 51 (0, 0)) (by (with_reducible repeat (first | refine blk_drewN ?_ _ | refine blk_drew ?_ | refine blk_alloc ?_ _)); refine blk_far ?_ NB539_586.out _; (with_reducible repeat (first | refine blk_drewN ?_ _ | refine blk_drew ?_ | refine blk_alloc ?_ _)); refine blk_far ?_ NB539_586.out _; (with_reducible repeat (first | refine blk_drewN ?_ _ | refine blk_drew ?_ | refine blk_alloc ?_ _)); refine blk_far ?_ NB539_586.out _; exact Kz BK539.out) hb); have n13_ := am (blk_below (g := gb552) (o := .cells #[.int .i64 t544, .slice Ao24 t545.length co24, .slice Ao25 t548.length co25] 51 (0, 0)) (by (with_reducible repeat (first | refine blk_drewN ?_ _ | refine blk_drew ?_ | refine blk_alloc ?_ _)); refine blk_far ?_ NB552_586.out _; (with_reducible repeat (first | refine blk_drewN ?_ _ | refine blk_drew ?_ | refine blk_alloc ?_ _)); refine blk_far ?_ NB552_586.out _; (with_reducible repeat (first | refine blk_drewN ?_ _ | refine blk_drew ?_ | refine blk_alloc ?_ _)); refine blk_far ?_ NB552_586.out _; exact Kz BK552.out) hb); have n14_ := am (blk_below (g := gb561) (o := .cells #[.int .i64 t553, .slice Ao32 t554.length co32, .slice Ao33 t557.length co33] 51 (0, 0)) (by (with_reducible repeat (first | refine blk_drewN ?_ _ | refine blk_drew ?_ | refine blk_alloc ?_ _)); refine blk_far ?_ NB561_586.out _; (with_reducible repeat (first | refine blk_drewN ?_ _ | refine blk_drew ?_ | refine blk_alloc ?_ _)); refine blk_far ?_ NB561_586.out _; (with_reducible repeat (first | refine blk_drewN ?_ _ | refine blk_drew ?_ | refine blk_alloc ?_ _)); refine blk_far ?_ NB561_586.out _; exact Kz BK561.out) hb); have n15_ := am (blk_below (g := gb577) (o := .cells #[.int .i64 t570, .slice Ao72 t571.length co72, .slice Ao73 t574.length co73] 51 (0, 0)) (by (with_reducible repeat (first | refine blk_drewN ?_ _ | refine blk_drew ?_ | refine blk_alloc ?_ _)); refine blk_far ?_ NB577_586.out _; (with_reducible repeat (first | refine blk_drewN ?_ _ | refine blk_drew ?_ | refine blk_alloc ?_ _)); refine blk_far ?_ NB577_586.out _; (with_reducible repeat (first | refine blk_drewN ?_ _ | refine blk_drew ?_ | refine blk_alloc ?_ _)); refine blk_far ?_ NB577_586.out _; exact Kz BK577.out) hb); have n16_ := am (blk_below (g := gb586) (o := .cells #[.int .i64 t578, .slice Ao81 t579.length co81, .slice Ao82 t582.length co82] 51 (0, 0)) (by (with_reducible repeat (first | refine blk_drewN ?_ _ | refine blk_drew ?_ | refine blk_alloc ?_ _)); refine blk_put (cs := #[.int .i64 t578, .slice Ao81 t579.length co81, .slice none 0 0]) ?_ 2 _ rfl; (with_reducible repeat (first | refine blk_drewN ?_ _ | refine blk_drew ?_ | refine blk_alloc ?_ _)); refine blk_put (cs := #[.int .i64 t578, .slice none 0 0, .slice none 0 0]) ?_ 1 _ rfl; (with_reducible repeat (first | refine blk_drewN ?_ _ | refine blk_drew ?_ | refine blk_alloc ?_ _)); refine blk_put (cs := #[.int .i64 0, .slice none 0 0, .slice none 0 0]) ?_ 0 _ rfl; exact Kz BK586.out) hb); have n17_ := Bc HB hb; clear HO_540001 HO_540002 HO_553001 HO_553002 HO_562001 HO_562002 HO573 HO576 HO581 HO584 BK539 BK552 BK561 BK577 BK586 HB; revert n0_ n1_ n2_ n3_ n4_ n5_ n6_ n7_ n8_ n9_ n10_ n11_ n12_ n13_ n14_ n15_ n16_ n17_; intro HO_540001 HO_540002 HO_553001 HO_553002 HO_562001 HO_562002 HO573 HO576 HO581 HO584 HO590 HO593 BK539 BK552 BK561 BK577 BK586 HB; (try clear hb); (try clear hb2); (try clear hk); (try clear hi); (try clear ho0); (try clear ho1)) | ((with_reducible refine gate_dst (N := 22) rfl ?_); (try (refine gate_guard (by rfl) ?_; dsimp only)); refine bE 22 #[.int .i64 0, .slice none 0 0, .slice none 0 0] 51 ?_; intro gb595 hg w85 hbox hb; have n0_ := Rb HO_540001 hb; have n1_ := Rb HO_540002 hb; have n2_ := Rb HO_553001 hb; have n3_ := Rb HO_553002 hb; have n4_ := Rb HO_562001 hb; have n5_ := Rb HO_562002 hb; have n6_ := Rb HO573 hb; have n7_ := Rb HO576 hb; have n8_ := Rb HO581 hb; have n9_ := Rb HO584 hb; have n10_ := Rb HO590 hb; have n11_ := Rb HO593 hb; have n12_ := Kb BK539 hb; have n13_ := Kb BK552 hb; have n14_ := Kb BK561 hb; have n15_ := Kb BK577 hb; have n16_ := Kb BK586 hb; have n17_ := Bc HB hb; have n18_ := am (hbox); have n19_ := Gm HB hg; have n20_ := Gm HB hg; have n21_ := Nl BK539 hg; have n22_ := Ng BK539 hg; have n23_ := Nl BK552 hg; have n24_ := Ng BK552 hg; have n25_ := Nl BK561 hg; have n26_ := Ng BK561 hg; have n27_ := Nl BK577 hg; have n28_ := Ng BK577 hg; have n29_ := Nl BK586 hg; have n30_ := Ng BK586 hg; clear HO_540001 HO_540002 HO_553001 HO_553002 HO_562001 HO_562002 HO573 HO576 HO581 HO584 HO590 HO593 BK539 BK552 BK561 BK577 BK586 HB; revert n0_ n1_ n2_ n3_ n4_ n5_ n6_ n7_ n8_ n9_ n10_ n11_ n12_ n13_ n14_ n15_ n16_ n17_ n18_ n19_ n20_ n21_ n22_ n23_ n24_ n25_ n26_ n27_ n28_ n29_ n30_; intro HO_540001 HO_540002 HO_553001 HO_553002 HO_562001 HO_562002 HO573 HO576 HO581 HO584 HO590 HO593 BK539 BK552 BK561 BK577 BK586 HB BK595 GW595 GE595 NB539_595 NB595_539 NB552_595 NB595_552 NB561_595 NB595_561 NB577_595 NB595_577 NB586_595 NB595_586; clear hb hbox hg; have hnb86 := NB595_539.out; have hnc86 := NB539_595.out; have hnb87 := NB595_552.out; have hnc87 := NB552_595.out; have hnb88 := NB595_561.out; have hnc88 := NB561_595.out; have hnb89 := NB595_577.out; have hnc89 := NB577_595.out; have hnb90 := NB595_586.out; have hnc90 := NB586_595.out; obtain ⟨hcz91_0, hcz91_1, hcz91_2, hfz91_0, hfz91_1, hfz91_2⟩ := cf3 (w := w85) BK595; obtain ⟨Ao92, co92, eo92⟩ := Kd.R_slice HO590.out; subst eo92; obtain ⟨Ao93, co93, eo93⟩ := Kd.R_slice HO593.out; subst eo93))
         (try simp only [aP])
         go_cut [127] (fun v127 wc => ∃ (kq : Nat) (x127_64 : Bool), v127 = .bool x127_64 ∧ Aside0 (laws_FnCuckooFinds.j2 kq t585 x127_64 t570 t571 t574 t578 t579 t582 = some r) ∧ Aside0 (kq ≤ kj45) ∧ Aside0 (Kd.R Kd.string 9 wc w.heap.size (fun k_ => some k_ ≠ ((.slice Ao15 t535.length co15) : Value).ownBlock ∧ some k_ ≠ ((.slice Ao24 t545.length co24) : Value).ownBlock ∧ some k_ ≠ ((.slice Ao25 t548.length co25) : Value).ownBlock ∧ some k_ ≠ ((.slice Ao32 t554.length co32) : Value).ownBlock ∧ some k_ ≠ ((.slice Ao33 t557.length co33) : Value).ownBlock ∧ some k_ ≠ ((.slice Ao72 t571.length co72) : Value).ownBlock ∧ some k_ ≠ ((.slice Ao73 t574.length co73) : Value).ownBlock ∧ some k_ ≠ ((.slice Ao81 t579.length co81) : Value).ownBlock ∧ some k_ ≠ ((.slice Ao82 t582.length co82) : Value).ownBlock ∧ some k_ ≠ ((.slice Ao92 t588.length co92) : Value).ownBlock ∧ some k_ ≠ ((.slice Ao93 t591.length co93) : Value).ownBlock) (.slice Ao14 t532.length co14) t532) ∧ Aside0 (Kd.R Kd.string 9 wc w.heap.size (fun k_ => some k_ ≠ ((.slice Ao14 t532.length co14) : Value).ownBlock ∧ some k_ ≠ ((.slice Ao24 t545.length co24) : Value).ownBlock ∧ some k_ ≠ ((.slice Ao25 t548.length co25) : Value).ownBlock ∧ some k_ ≠ ((.slice Ao32 t554.length co32) : Value).ownBlock ∧ some k_ ≠ ((.slice Ao33 t557.length co33) : Value).ownBlock ∧ some k_ ≠ ((.slice Ao72 t571.length co72) : Value).ownBlock ∧ some k_ ≠ ((.slice Ao73 t574.length co73) : Value).ownBlock ∧ some k_ ≠ ((.slice Ao81 t579.length co81) : Value).ownBlock ∧ some k_ ≠ ((.slice Ao82 t582.length co82) : Value).ownBlock ∧ some k_ ≠ ((.slice Ao92 t588.length co92) : Value).ownBlock ∧ some k_ ≠ ((.slice Ao93 t591.length co93) : Value).ownBlock) (.slice Ao15 t535.length co15) t535) ∧ Aside0 (Kd.R Kd.string 9 wc w.heap.size (fun k_ => some k_ ≠ ((.slice Ao14 t532.length co14) : Value).ownBlock ∧ some k_ ≠ ((.slice Ao15 t535.length co15) : Value).ownBlock ∧ some k_ ≠ ((.slice Ao25 t548.length co25) : Value).ownBlock ∧ some k_ ≠ ((.slice Ao32 t554.length co32) : Value).ownBlock ∧ some k_ ≠ ((.slice Ao33 t557.length co33) : Value).ownBlock ∧ some k_ ≠ ((.slice Ao72 t571.length co72) : Value).ownBlock ∧ some k_ ≠ ((.slice Ao73 t574.length co73) : Value).ownBlock ∧ some k_ ≠ ((.slice Ao81 t579.length co81) : Value).ownBlock ∧ some k_ ≠ ((.slice Ao82 t582.length co82) : Value).ownBlock ∧ some k_ ≠ ((.slice Ao92 t588.length co92) : Value).ownBlock ∧ some k_ ≠ ((.slice Ao93 t591.length co93) : Value).ownBlock) (.slice Ao24 t545.length co24) t545) ∧ Aside0 (Kd.R Kd.string 9 wc w.heap.size (fun k_ => some k_ ≠ ((.slice Ao14 t532.length co14) : Value).ownBlock ∧ some k_ ≠ ((.slice Ao15 t535.length co15) : Value).ownBlock ∧ some k_ ≠ ((.slice Ao24 t545.length co24) : Value).ownBlock ∧ some k_ ≠ ((.slice Ao32 t554.length co32) : Value).ownBlock ∧ some k_ ≠ ((.slice Ao33 t557.length co33) : Value).ownBlock ∧ some k_ ≠ ((.slice Ao72 t571.length co72) : Value).ownBlock ∧ some k_ ≠ ((.slice Ao73 t574.length co73) : Value).ownBlock ∧ some k_ ≠ ((.slice Ao81 t579.length co81) : Value).ownBlock ∧ some k_ ≠ ((.slice Ao82 t582.length co82) : Value).ownBlock ∧ some k_ ≠ ((.slice Ao92 t588.length co92) : Value).ownBlock ∧ some k_ ≠ ((.slice Ao93 t591.length co93) : Value).ownBlock) (.slice Ao25 t548.length co25) t548) ∧ Aside0 (Kd.R Kd.string 9 wc w.heap.size (fun k_ => some k_ ≠ ((.slice Ao14 t532.length co14) : Value).ownBlock ∧ some k_ ≠ ((.slice Ao15 t535.length co15) : Value).ownBlock ∧ some k_ ≠ ((.slice Ao24 t545.length co24) : Value).ownBlock ∧ some k_ ≠ ((.slice Ao25 t548.length co25) : Value).ownBlock ∧ some k_ ≠ ((.slice Ao33 t557.length co33) : Value).ownBlock ∧ some k_ ≠ ((.slice Ao72 t571.length co72) : Value).ownBlock ∧ some k_ ≠ ((.slice Ao73 t574.length co73) : Value).ownBlock ∧ some k_ ≠ ((.slice Ao81 t579.length co81) : Value).ownBlock ∧ some k_ ≠ ((.slice Ao82 t582.length co82) : Value).ownBlock ∧ some k_ ≠ ((.slice Ao92 t588.length co92) : Value).ownBlock ∧ some k_ ≠ ((.slice Ao93 t591.length co93) : Value).ownBlock) (.slice Ao32 t554.length co32) t554) ∧ Aside0 (Kd.R Kd.string 9 wc w.heap.size (fun k_ => some k_ ≠ ((.slice Ao14 t532.length co14) : Value).ownBlock ∧ some k_ ≠ ((.slice Ao15 t535.length co15) : Value).ownBlock ∧ some k_ ≠ ((.slice Ao24 t545.length co24) : Value).ownBlock ∧ some k_ ≠ ((.slice Ao25 t548.length co25) : Value).ownBlock ∧ some k_ ≠ ((.slice Ao32 t554.length co32) : Value).ownBlock ∧ some k_ ≠ ((.slice Ao72 t571.length co72) : Value).ownBlock ∧ some k_ ≠ ((.slice Ao73 t574.length co73) : Value).ownBlock ∧ some k_ ≠ ((.slice Ao81 t579.length co81) : Value).ownBlock ∧ some k_ ≠ ((.slice Ao82 t582.length co82) : Value).ownBlock ∧ some k_ ≠ ((.slice Ao92 t588.length co92) : Value).ownBlock ∧ some k_ ≠ ((.slice Ao93 t591.length co93) : Value).ownBlock) (.slice Ao33 t557.length co33) t557) ∧ Aside0 (Kd.R Kd.string 9 wc w.heap.size (fun k_ => some k_ ≠ ((.slice Ao14 t532.length co14) : Value).ownBlock ∧ some k_ ≠ ((.slice Ao15 t535.length co15) : Value).ownBlock ∧ some k_ ≠ ((.slice Ao24 t545.length co24) : Value).ownBlock ∧ some k_ ≠ ((.slice Ao25 t548.length co25) : Value).ownBlock ∧ some k_ ≠ ((.slice Ao32 t554.length co32) : Value).ownBlock ∧ some k_ ≠ ((.slice Ao33 t557.length co33) : Value).ownBlock ∧ some k_ ≠ ((.slice Ao73 t574.length co73) : Value).ownBlock ∧ some k_ ≠ ((.slice Ao81 t579.length co81) : Value).ownBlock ∧ some k_ ≠ ((.slice Ao82 t582.length co82) : Value).ownBlock ∧ some k_ ≠ ((.slice Ao92 t588.length co92) : Value).ownBlock ∧ some k_ ≠ ((.slice Ao93 t591.length co93) : Value).ownBlock) (.slice Ao72 t571.length co72) t571) ∧ Aside0 (Kd.R Kd.string 9 wc w.heap.size (fun k_ => some k_ ≠ ((.slice Ao14 t532.length co14) : Value).ownBlock ∧ some k_ ≠ ((.slice Ao15 t535.length co15) : Value).ownBlock ∧ some k_ ≠ ((.slice Ao24 t545.length co24) : Value).ownBlock ∧ some k_ ≠ ((.slice Ao25 t548.length co25) : Value).ownBlock ∧ some k_ ≠ ((.slice Ao32 t554.length co32) : Value).ownBlock ∧ some k_ ≠ ((.slice Ao33 t557.length co33) : Value).ownBlock ∧ some k_ ≠ ((.slice Ao72 t571.length co72) : Value).ownBlock ∧ some k_ ≠ ((.slice Ao81 t579.length co81) : Value).ownBlock ∧ some k_ ≠ ((.slice Ao82 t582.length co82) : Value).ownBlock ∧ some k_ ≠ ((.slice Ao92 t588.length co92) : Value).ownBlock ∧ some k_ ≠ ((.slice Ao93 t591.length co93) : Value).ownBlock) (.slice Ao73 t574.length co73) t574) ∧ Aside0 (Kd.R Kd.string 9 wc w.heap.size (fun k_ => some k_ ≠ ((.slice Ao14 t532.length co14) : Value).ownBlock ∧ some k_ ≠ ((.slice Ao15 t535.length co15) : Value).ownBlock ∧ some k_ ≠ ((.slice Ao24 t545.length co24) : Value).ownBlock ∧ some k_ ≠ ((.slice Ao25 t548.length co25) : Value).ownBlock ∧ some k_ ≠ ((.slice Ao32 t554.length co32) : Value).ownBlock ∧ some k_ ≠ ((.slice Ao33 t557.length co33) : Value).ownBlock ∧ some k_ ≠ ((.slice Ao72 t571.length co72) : Value).ownBlock ∧ some k_ ≠ ((.slice Ao73 t574.length co73) : Value).ownBlock ∧ some k_ ≠ ((.slice Ao82 t582.length co82) : Value).ownBlock ∧ some k_ ≠ ((.slice Ao92 t588.length co92) : Value).ownBlock ∧ some k_ ≠ ((.slice Ao93 t591.length co93) : Value).ownBlock) (.slice Ao81 t579.length co81) t579) ∧ Aside0 (Kd.R Kd.string 9 wc w.heap.size (fun k_ => some k_ ≠ ((.slice Ao14 t532.length co14) : Value).ownBlock ∧ some k_ ≠ ((.slice Ao15 t535.length co15) : Value).ownBlock ∧ some k_ ≠ ((.slice Ao24 t545.length co24) : Value).ownBlock ∧ some k_ ≠ ((.slice Ao25 t548.length co25) : Value).ownBlock ∧ some k_ ≠ ((.slice Ao32 t554.length co32) : Value).ownBlock ∧ some k_ ≠ ((.slice Ao33 t557.length co33) : Value).ownBlock ∧ some k_ ≠ ((.slice Ao72 t571.length co72) : Value).ownBlock ∧ some k_ ≠ ((.slice Ao73 t574.length co73) : Value).ownBlock ∧ some k_ ≠ ((.slice Ao81 t579.length co81) : Value).ownBlock ∧ some k_ ≠ ((.slice Ao92 t588.length co92) : Value).ownBlock ∧ some k_ ≠ ((.slice Ao93 t591.length co93) : Value).ownBlock) (.slice Ao82 t582.length co82) t582) ∧ Aside0 (Kd.R Kd.string 9 wc w.heap.size (fun k_ => some k_ ≠ ((.slice Ao14 t532.length co14) : Value).ownBlock ∧ some k_ ≠ ((.slice Ao15 t535.length co15) : Value).ownBlock ∧ some k_ ≠ ((.slice Ao24 t545.length co24) : Value).ownBlock ∧ some k_ ≠ ((.slice Ao25 t548.length co25) : Value).ownBlock ∧ some k_ ≠ ((.slice Ao32 t554.length co32) : Value).ownBlock ∧ some k_ ≠ ((.slice Ao33 t557.length co33) : Value).ownBlock ∧ some k_ ≠ ((.slice Ao72 t571.length co72) : Value).ownBlock ∧ some k_ ≠ ((.slice Ao73 t574.length co73) : Value).ownBlock ∧ some k_ ≠ ((.slice Ao81 t579.length co81) : Value).ownBlock ∧ some k_ ≠ ((.slice Ao82 t582.length co82) : Value).ownBlock ∧ some k_ ≠ ((.slice Ao93 t591.length co93) : Value).ownBlock) (.slice Ao92 t588.length co92) t588) ∧ Aside0 (Kd.R Kd.string 9 wc w.heap.size (fun k_ => some k_ ≠ ((.slice Ao14 t532.length co14) : Value).ownBlock ∧ some k_ ≠ ((.slice Ao15 t535.length co15) : Value).ownBlock ∧ some k_ ≠ ((.slice Ao24 t545.length co24) : Value).ownBlock ∧ some k_ ≠ ((.slice Ao25 t548.length co25) : Value).ownBlock ∧ some k_ ≠ ((.slice Ao32 t554.length co32) : Value).ownBlock ∧ some k_ ≠ ((.slice Ao33 t557.length co33) : Value).ownBlock ∧ some k_ ≠ ((.slice Ao72 t571.length co72) : Value).ownBlock ∧ some k_ ≠ ((.slice Ao73 t574.length co73) : Value).ownBlock ∧ some k_ ≠ ((.slice Ao81 t579.length co81) : Value).ownBlock ∧ some k_ ≠ ((.slice Ao82 t582.length co82) : Value).ownBlock ∧ some k_ ≠ ((.slice Ao92 t588.length co92) : Value).ownBlock) (.slice Ao93 t591.length co93) t591) ∧ Aside0 (wc.heap[gb539]? = some (.cells #[.int .i64 t531, (.slice Ao14 t532.length co14), (.slice Ao15 t535.length co15)] 51 (0, 0))) ∧ Aside0 (wc.heap[gb552]? = some (.cells #[.int .i64 t544, (.slice Ao24 t545.length co24), (.slice Ao25 t548.length co25)] 51 (0, 0))) ∧ Aside0 (wc.heap[gb561]? = some (.cells #[.int .i64 t553, (.slice Ao32 t554.length co32), (.slice Ao33 t557.length co33)] 51 (0, 0))) ∧ Aside0 (wc.heap[gb577]? = some (.cells #[.int .i64 t570, (.slice Ao72 t571.length co72), (.slice Ao73 t574.length co73)] 51 (0, 0))) ∧ Aside0 (wc.heap[gb586]? = some (.cells #[.int .i64 t578, (.slice Ao81 t579.length co81), (.slice Ao82 t582.length co82)] 51 (0, 0))) ∧ Aside0 (wc.heap[gb595]? = some (.cells #[.int .i64 t587, (.slice Ao92 t588.length co92), (.slice Ao93 t591.length co93)] 51 (0, 0))) ∧ Aside0 (Below w.heap.size w wc))
         case first =>
          have H := HC65.out; clear HC65
          by_cases c94 : (t585 != t594) = true
          ·rw [if_pos c94] at H
           have c94b0 : (t585 != t594) = true := c94
           (try (have c94b1 : decide (t585 = t594) = false := by simpa using c94))
           (try (have c94b2 : (t585 == t594) = false := by simpa using c94))
           (try (have c94b3 : ¬ (t585 = t594) := by simpa using c94))
           (try (have c94b4 : (!(t585 == t594)) = true := c94b0))
           clear c94
           (first | rw [c94b0] | (simp only [i64_w, i32_w]; rw [c94b0]) | skip)
           exact absurd (H.trans (congrArg some HQT_.out)) (laws_FnCuckooFinds.j2.dead _ _ _ _ _ _ _ _)
          ·rw [if_neg c94] at H
           have c94b0 : (t585 != t594) = false := by simpa using c94
           (try (have c94b1 : decide (t585 = t594) = true := by simpa using c94))
           (try (have c94b2 : (t585 == t594) = true := by simpa using c94))
           (try (have c94b3 : (!(t585 == t594)) = false := c94b0))
           clear c94
           (first | rw [c94b0] | (simp only [i64_w, i32_w]; rw [c94b0]) | skip)
           replace H := Option.bind_eq_some_iff.mp H; obtain ⟨t596, A950, H⟩ := H; (try dsimp -simprocs only at H); have A95 := am A950; clear A950; have H' := am H; clear H; have hnb96 := NB586_539.out; have hnc96 := NB539_586.out; have hnb97 := NB586_552.out; have hnc97 := NB552_586.out; have hnb98 := NB586_561.out; have hnc98 := NB561_586.out; have hnb99 := NB586_577.out; have hnc99 := NB577_586.out; have hnb100 := NB586_595.out; have hnc100 := NB595_586.out; obtain ⟨hcz101_0, hcz101_1, hcz101_2, hfz101_0, hfz101_1, hfz101_2⟩ := cf3 (w := w85) BK586; have hnb102 := NB595_539.out; have hnc102 := NB539_595.out; have hnb103 := NB595_552.out; have hnc103 := NB552_595.out; have hnb104 := NB595_561.out; have hnc104 := NB561_595.out; have hnb105 := NB595_577.out; have hnc105 := NB577_595.out; obtain ⟨hcz106_0, hcz106_1, hcz106_2, hfz106_0, hfz106_1, hfz106_2⟩ := cf3 (w := w85) BK595
           go_wp2_with (first | (go_at_call 45; (with_reducible refine (laws_rSameCuckoo.calls kj45 t578 _ _ t579 _ _ t582 t587 _ _ t588 _ _ t591 t596 _ ?side1 ?side2 ?side3 ?side4 ?side5 ?side6 ?side7 ?side8 A95.out).mono ?_); (case side1 => refine (Kd.R_reads' (e := 9) (base := w.heap.size) (ok := fun k_ => ((((((((((some k_ ≠ (.slice Ao82 t582.length co82 : Value).ownBlock ∧ some k_ ≠ (.slice Ao14 t532.length co14 : Value).ownBlock) ∧ some k_ ≠ (.slice Ao15 t535.length co15 : Value).ownBlock) ∧ some k_ ≠ (.slice Ao24 t545.length co24 : Value).ownBlock) ∧ some k_ ≠ (.slice Ao25 t548.length co25 : Value).ownBlock) ∧ some k_ ≠ (.slice Ao32 t554.length co32 : Value).ownBlock) ∧ some k_ ≠ (.slice Ao33 t557.length co33 : Value).ownBlock) ∧ some k_ ≠ (.slice Ao72 t571.length co72 : Value).ownBlock) ∧ some k_ ≠ (.slice Ao73 t574.length co73 : Value).ownBlock) ∧ some k_ ≠ (.slice Ao92 t588.length co92 : Value).ownBlock) ∧ some k_ ≠ (.slice Ao93 t591.length co93 : Value).ownBlock)) (n := t579.length) (c := co81) ?_).2.2; exact (Rz (Kd.R_mono (Kd.R_far (p := ⟨gb595, 2, none⟩) (Kd.R_far (p := ⟨gb595, 1, none⟩) (Kd.R_far (p := ⟨gb595, 0, none⟩) (Kd.R_types HO581.out BK595.out (by decide)) (fun _ hk => hk.2) (.int .i64 t587)) (fun _ hk => hk.2) (.slice Ao92 t588.length co92)) (fun _ hk => hk.2) (.slice Ao93 t591.length co93)) (fun _ h_ => h_.1)))); (case side2 => exact (Kd.R_reads' HO581.out).2.1); (case side3 => refine (Kd.R_reads' (e := 9) (base := w.heap.size) (ok := fun k_ => ((((((((((some k_ ≠ (.slice Ao81 t579.length co81 : Value).ownBlock ∧ some k_ ≠ (.slice Ao14 t532.length co14 : Value).ownBlock) ∧ some k_ ≠ (.slice Ao15 t535.length co15 : Value).ownBlock) ∧ some k_ ≠ (.slice Ao24 t545.length co24 : Value).ownBlock) ∧ some k_ ≠ (.slice Ao25 t548.length co25 : Value).ownBlock) ∧ some k_ ≠ (.slice Ao32 t554.length co32 : Value).ownBlock) ∧ some k_ ≠ (.slice Ao33 t557.length co33 : Value).ownBlock) ∧ some k_ ≠ (.slice Ao72 t571.length co72 : Value).ownBlock) ∧ some k_ ≠ (.slice Ao73 t574.length co73 : Value).ownBlock) ∧ some k_ ≠ (.slice Ao92 t588.length co92 : Value).ownBlock) ∧ some k_ ≠ (.slice Ao93 t591.length co93 : Value).ownBlock)) (n := t582.length) (c := co82) ?_).2.2; exact (Rz (Kd.R_mono (Kd.R_far (p := ⟨gb595, 2, none⟩) (Kd.R_far (p := ⟨gb595, 1, none⟩) (Kd.R_far (p := ⟨gb595, 0, none⟩) (Kd.R_types HO584.out BK595.out (by decide)) (fun _ hk => hk.2) (.int .i64 t587)) (fun _ hk => hk.2) (.slice Ao92 t588.length co92)) (fun _ hk => hk.2) (.slice Ao93 t591.length co93)) (fun _ h_ => h_.1)))); (case side4 => exact (Kd.R_reads' HO584.out).2.1); (case side5 => refine (Kd.R_reads' (e := 9) (base := w.heap.size) (ok := fun k_ => ((((((((((some k_ ≠ (.slice Ao93 t591.length co93 : Value).ownBlock ∧ some k_ ≠ (.slice Ao14 t532.length co14 : Value).ownBlock) ∧ some k_ ≠ (.slice Ao15 t535.length co15 : Value).ownBlock) ∧ some k_ ≠ (.slice Ao24 t545.length co24 : Value).ownBlock) ∧ some k_ ≠ (.slice Ao25 t548.length co25 : Value).ownBlock) ∧ some k_ ≠ (.slice Ao32 t554.length co32 : Value).ownBlock) ∧ some k_ ≠ (.slice Ao33 t557.length co33 : Value).ownBlock) ∧ some k_ ≠ (.slice Ao72 t571.length co72 : Value).ownBlock) ∧ some k_ ≠ (.slice Ao73 t574.length co73 : Value).ownBlock) ∧ some k_ ≠ (.slice Ao81 t579.length co81 : Value).ownBlock) ∧ some k_ ≠ (.slice Ao82 t582.length co82 : Value).ownBlock)) (n := t588.length) (c := co92) ?_).2.2; exact (Rz (Kd.R_mono (Kd.R_far (p := ⟨gb595, 2, none⟩) (Kd.R_far (p := ⟨gb595, 1, none⟩) (Kd.R_far (p := ⟨gb595, 0, none⟩) (Kd.R_types HO590.out BK595.out (by decide)) (fun _ hk => hk.2) (.int .i64 t587)) (fun _ hk => hk.2) (.slice Ao92 t588.length co92)) (fun _ hk => hk.2) (.slice Ao93 t591.length co93)) (fun _ h_ => h_.1)))); (case side6 => exact (Kd.R_reads' HO590.out).2.1); (case side7 => refine (Kd.R_reads' (e := 9) (base := w.heap.size) (ok := fun k_ => ((((((((((some k_ ≠ (.slice Ao92 t588.length co92 : Value).ownBlock ∧ some k_ ≠ (.slice Ao14 t532.length co14 : Value).ownBlock) ∧ some k_ ≠ (.slice Ao15 t535.length co15 : Value).ownBlock) ∧ some k_ ≠ (.slice Ao24 t545.length co24 : Value).ownBlock) ∧ some k_ ≠ (.slice Ao25 t548.length co25 : Value).ownBlock) ∧ some k_ ≠ (.slice Ao32 t554.length co32 : Value).ownBlock) ∧ some k_ ≠ (.slice Ao33 t557.length co33 : Value).ownBlock) ∧ some k_ ≠ (.slice Ao72 t571.length co72 : Value).ownBlock) ∧ some k_ ≠ (.slice Ao73 t574.length co73 : Value).ownBlock) ∧ some k_ ≠ (.slice Ao81 t579.length co81 : Value).ownBlock) ∧ some k_ ≠ (.slice Ao82 t582.length co82 : Value).ownBlock)) (n := t591.length) (c := co93) ?_).2.2; exact (Rz (Kd.R_mono (Kd.R_far (p := ⟨gb595, 2, none⟩) (Kd.R_far (p := ⟨gb595, 1, none⟩) (Kd.R_far (p := ⟨gb595, 0, none⟩) (Kd.R_types HO593.out BK595.out (by decide)) (fun _ hk => hk.2) (.int .i64 t587)) (fun _ hk => hk.2) (.slice Ao92 t588.length co92)) (fun _ hk => hk.2) (.slice Ao93 t591.length co93)) (fun _ h_ => h_.1)))); (case side8 => exact (Kd.R_reads' HO593.out).2.1); rintro e w107 ⟨rfl, hb⟩; have n0_ := am (Kd.R_below (Rz (Kd.R_mono (Kd.R_far (p := ⟨gb595, 2, none⟩) (Kd.R_far (p := ⟨gb595, 1, none⟩) (Kd.R_far (p := ⟨gb595, 0, none⟩) (Kd.R_types HO_540001.out BK595.out (by decide)) (fun _ hk => hk.2) (.int .i64 t587)) (fun _ hk => hk.2) (.slice Ao92 t588.length co92)) (fun _ hk => hk.2) (.slice Ao93 t591.length co93)) (fun _ h_ => h_.1))) hb); have n1_ := am (Kd.R_below (Rz (Kd.R_mono (Kd.R_far (p := ⟨gb595, 2, none⟩) (Kd.R_far (p := ⟨gb595, 1, none⟩) (Kd.R_far (p := ⟨gb595, 0, none⟩) (Kd.R_types HO_540002.out BK595.out (by decide)) (fun _ hk => hk.2) (.int .i64 t587)) (fun _ hk => hk.2) (.slice Ao92 t588.length co92)) (fun _ hk => hk.2) (.slice Ao93 t591.length co93)) (fun _ h_ => h_.1))) hb); have n2_ := am (Kd.R_below (Rz (Kd.R_mono (Kd.R_far (p := ⟨gb595, 2, none⟩) (Kd.R_far (p := ⟨gb595, 1, none⟩) (Kd.R_far (p := ⟨gb595, 0, none⟩) (Kd.R_types HO_553001.out BK595.out (by decide)) (fun _ hk => hk.2) (.int .i64 t587)) (fun _ hk => hk.2) (.slice Ao92 t588.length co92)) (fun _ hk => hk.2) (.slice Ao93 t591.length co93)) (fun _ h_ => h_.1))) hb); have n3_ := am (Kd.R_below (Rz (Kd.R_mono (Kd.R_far (p := ⟨gb595, 2, none⟩) (Kd.R_far (p := ⟨gb595, 1, none⟩) (Kd.R_far (p := ⟨gb595, 0, none⟩) (Kd.R_types HO_553002.out BK595.out (by decide)) (fun _ hk => hk.2) (.int .i64 t587)) (fun _ hk => hk.2) (.slice Ao92 t588.length co92)) (fun _ hk => hk.2) (.slice Ao93 t591.length co93)) (fun _ h_ => h_.1))) hb); have n4_ := am (Kd.R_below (Rz (Kd.R_mono (Kd.R_far (p := ⟨gb595, 2, none⟩) (Kd.R_far (p := ⟨gb595, 1, none⟩) (Kd.R_far (p := ⟨gb595, 0, none⟩) (Kd.R_types HO_562001.out BK595.out (by decide)) (fun _ hk => hk.2) (.int .i64 t587)) (fun _ hk => hk.2) (.slice Ao92 t588.length co92)) (fun _ hk => hk.2) (.slice Ao93 t591.length co93)) (fun _ h_ => h_.1))) hb); have n5_ := am (Kd.R_below (Rz (Kd.R_mono (Kd.R_far (p := ⟨gb595, 2, none⟩) (Kd.R_far (p := ⟨gb595, 1, none⟩) (Kd.R_far (p := ⟨gb595, 0, none⟩) (Kd.R_types HO_562002.out BK595.out (by decide)) (fun _ hk => hk.2) (.int .i64 t587)) (fun _ hk => hk.2) (.slice Ao92 t588.length co92)) (fun _ hk => hk.2) (.slice Ao93 t591.length co93)) (fun _ h_ => h_.1))) hb); have n6_ := am (Kd.R_below (Rz (Kd.R_mono (Kd.R_far (p := ⟨gb595, 2, none⟩) (Kd.R_far (p := ⟨gb595, 1, none⟩) (Kd.R_far (p := ⟨gb595, 0, none⟩) (Kd.R_types HO573.out BK595.out (by decide)) (fun _ hk => hk.2) (.int .i64 t587)) (fun _ hk => hk.2) (.slice Ao92 t588.length co92)) (fun _ hk => hk.2) (.slice Ao93 t591.length co93)) (fun _ h_ => h_.1))) hb); have n7_ := am (Kd.R_below (Rz (Kd.R_mono (Kd.R_far (p := ⟨gb595, 2, none⟩) (Kd.R_far (p := ⟨gb595, 1, none⟩) (Kd.R_far (p := ⟨gb595, 0, none⟩) (Kd.R_types HO576.out BK595.out (by decide)) (fun _ hk => hk.2) (.int .i64 t587)) (fun _ hk => hk.2) (.slice Ao92 t588.length co92)) (fun _ hk => hk.2) (.slice Ao93 t591.length co93)) (fun _ h_ => h_.1))) hb); have n8_ := am (Kd.R_below (Rz (Kd.R_mono (Kd.R_far (p := ⟨gb595, 2, none⟩) (Kd.R_far (p := ⟨gb595, 1, none⟩) (Kd.R_far (p := ⟨gb595, 0, none⟩) (Kd.R_types HO581.out BK595.out (by decide)) (fun _ hk => hk.2) (.int .i64 t587)) (fun _ hk => hk.2) (.slice Ao92 t588.length co92)) (fun _ hk => hk.2) (.slice Ao93 t591.length co93)) (fun _ h_ => h_.1))) hb); have n9_ := am (Kd.R_below (Rz (Kd.R_mono (Kd.R_far (p := ⟨gb595, 2, none⟩) (Kd.R_far (p := ⟨gb595, 1, none⟩) (Kd.R_far (p := ⟨gb595, 0, none⟩) (Kd.R_types HO584.out BK595.out (by decide)) (fun _ hk => hk.2) (.int .i64 t587)) (fun _ hk => hk.2) (.slice Ao92 t588.length co92)) (fun _ hk => hk.2) (.slice Ao93 t591.length co93)) (fun _ h_ => h_.1))) hb); have n10_ := am (Kd.R_below (Rz (Kd.R_mono (Kd.R_far (p := ⟨gb595, 2, none⟩) (Kd.R_far (p := ⟨gb595, 1, none⟩) (Kd.R_far (p := ⟨gb595, 0, none⟩) (Kd.R_types HO590.out BK595.out (by decide)) (fun _ hk => hk.2) (.int .i64 t587)) (fun _ hk => hk.2) (.slice Ao92 t588.length co92)) (fun _ hk => hk.2) (.slice Ao93 t591.length co93)) (fun _ h_ => h_.1))) hb); have n11_ := am (Kd.R_below (Rz (Kd.R_mono (Kd.R_far (p := ⟨gb595, 2, none⟩) (Kd.R_far (p := ⟨gb595, 1, none⟩) (Kd.R_far (p := ⟨gb595, 0, none⟩) (Kd.R_types HO593.out BK595.out (by decide)) (fun _ hk => hk.2) (.int .i64 t587)) (fun _ hk => hk.2) (.slice Ao92 t588.length co92)) (fun _ hk => hk.2) (.slice Ao93 t591.length co93)) (fun _ h_ => h_.1))) hb); have n12_ := am (blk_below (g := gb539) (o := .cells #[.int .i64 t531, .slice Ao14 t532.length co14, .slice Ao15 t535.length co15] 51 (0, 0)) (by (with_reducible repeat (first | refine blk_drewN ?_ _ | refine blk_drew ?_ | refine blk_alloc ?_ _)); refine blk_far ?_ NB539_595.out _; (with_reducible repeat (first | refine blk_drewN ?_ _ | refine blk_drew ?_ | refine blk_alloc ?_ _)); refine blk_far ?_ NB539_595.out _; (with_reducible repeat (first | refine blk_drewN ?_ _ | refine blk_drew ?_ | refine blk_alloc ?_ _)); refine blk_far ?_ NB539_595.out _; exact Kz BK539.out) hb); have n13_ := am (blk_below (g := gb552) (o := .cells #[.int .i64 t544, .slice Ao24 t545.length co24, .slice Ao25 t548.length co25] 51 (0, 0)) (by (with_reducible repeat (first | refine blk_drewN ?_ _ | refine blk_drew ?_ | refine blk_alloc ?_ _)); refine blk_far ?_ NB552_595.out _; (with_reducible repeat (first | refine blk_drewN ?_ _ | refine blk_drew ?_ | refine blk_alloc ?_ _)); refine blk_far ?_ NB552_595.out _; (with_reducible repeat (first | refine blk_drewN ?_ _ | refine blk_drew ?_ | refine blk_alloc ?_ _)); refine blk_far ?_ NB552_595.out _; exact Kz BK552.out) hb); have n14_ := am (blk_below (g := gb561) (o := .cells #[.int .i64 t553, .slice Ao32 t554.length co32, .slice Ao33 t557.length co33] 51 (0, 0)) (by (with_reducible repeat (first | refine blk_drewN ?_ _ | refine blk_drew ?_ | refine blk_alloc ?_ _)); refine blk_far ?_ NB561_595.out _; (with_reducible repeat (first | refine blk_drewN ?_ _ | refine blk_drew ?_ | refine blk_alloc ?_ _)); refine blk_far ?_ NB561_595.out _; (with_reducible repeat (first | refine blk_drewN ?_ _ | refine blk_drew ?_ | refine blk_alloc ?_ _)); refine blk_far ?_ NB561_595.out _; exact Kz BK561.out) hb); have n15_ := am (blk_below (g := gb577) (o := .cells #[.int .i64 t570, .slice Ao72 t571.length co72, .slice Ao73 t574.length co73] 51 (0, 0)) (by (with_reducible repeat (first | refine blk_drewN ?_ _ | refine blk_drew ?_ | refine blk_alloc ?_ _)); refine blk_far ?_ NB577_595.out _; (with_reducible repeat (first | refine blk_drewN ?_ _ | refine blk_drew ?_ | refine blk_alloc ?_ _)); refine blk_far ?_ NB577_595.out _; (with_reducible repeat (first | refine blk_drewN ?_ _ | refine blk_drew ?_ | refine blk_alloc ?_ _)); refine blk_far ?_ NB577_595.out _; exact Kz BK577.out) hb); have n16_ := am (blk_below (g := gb586) (o := .cells #[.int .i64 t578, .slice Ao81 t579.length co81, .slice Ao82 t582.length co82] 51 (0, 0)) (by (with_reducible repeat (first | refine blk_drewN ?_ _ | refine blk_drew ?_ | refine blk_alloc ?_ _)); refine blk_far ?_ NB586_595.out _; (with_reducible repeat (first | refine blk_drewN ?_ _ | refine blk_drew ?_ | refine blk_alloc ?_ _)); refine blk_far ?_ NB586_595.out _; (with_reducible repeat (first | refine blk_drewN ?_ _ | refine blk_drew ?_ | refine blk_alloc ?_ _)); refine blk_far ?_ NB586_595.out _; exact Kz BK586.out) hb); have n17_ := am (blk_below (g := gb595) (o := .cells #[.int .i64 t587, .slice Ao92 t588.length co92, .slice Ao93 t591.length co93] 51 (0, 0)) (by (with_reducible repeat (first | refine blk_drewN ?_ _ | refine blk_drew ?_ | refine blk_alloc ?_ _)); refine blk_put (cs := #[.int .i64 t587, .slice Ao92 t588.length co92, .slice none 0 0]) ?_ 2 _ rfl; (with_reducible repeat (first | refine blk_drewN ?_ _ | refine blk_drew ?_ | refine blk_alloc ?_ _)); refine blk_put (cs := #[.int .i64 t587, .slice none 0 0, .slice none 0 0]) ?_ 1 _ rfl; (with_reducible repeat (first | refine blk_drewN ?_ _ | refine blk_drew ?_ | refine blk_alloc ?_ _)); refine blk_put (cs := #[.int .i64 0, .slice none 0 0, .slice none 0 0]) ?_ 0 _ rfl; exact Kz BK595.out) hb); have n18_ := Bc HB hb; clear HO_540001 HO_540002 HO_553001 HO_553002 HO_562001 HO_562002 HO573 HO576 HO581 HO584 HO590 HO593 BK539 BK552 BK561 BK577 BK586 BK595 HB; revert n0_ n1_ n2_ n3_ n4_ n5_ n6_ n7_ n8_ n9_ n10_ n11_ n12_ n13_ n14_ n15_ n16_ n17_ n18_; intro HO_540001 HO_540002 HO_553001 HO_553002 HO_562001 HO_562002 HO573 HO576 HO581 HO584 HO590 HO593 BK539 BK552 BK561 BK577 BK586 BK595 HB; (try clear hb); (try clear hb2); (try clear hk); (try clear hi)))
           go_meet
           case rel => exact ⟨_, (!t596), wZ, H', ⟨by have := HJ9.out; have := HJ45.out; first | omega | exact Nat.le_refl _⟩, ⟨Rz (Kd.R_mono HO_540001.out (fun _ hk => ⟨hk.1.1.1.1.1.1.1, ⟨hk.1.1.1.1.1.1.2.1, ⟨hk.1.1.1.1.1.1.2.2.1, ⟨hk.1.1.1.1.1.1.2.2.2.1, ⟨hk.1.1.1.1.1.1.2.2.2.2, ⟨hk.1.1.1.1.1.2, ⟨hk.1.1.1.1.2, ⟨hk.1.1.1.2, ⟨hk.1.1.2, ⟨hk.1.2, hk.2⟩⟩⟩⟩⟩⟩⟩⟩⟩⟩))⟩, ⟨Rz (Kd.R_mono HO_540002.out (fun _ hk => ⟨hk.1.1.1.1.1.1.1, ⟨hk.1.1.1.1.1.1.2.1, ⟨hk.1.1.1.1.1.1.2.2.1, ⟨hk.1.1.1.1.1.1.2.2.2.1, ⟨hk.1.1.1.1.1.1.2.2.2.2, ⟨hk.1.1.1.1.1.2, ⟨hk.1.1.1.1.2, ⟨hk.1.1.1.2, ⟨hk.1.1.2, ⟨hk.1.2, hk.2⟩⟩⟩⟩⟩⟩⟩⟩⟩⟩))⟩, ⟨Rz (Kd.R_mono HO_553001.out (fun _ hk => ⟨hk.1.1.1.1.1.1.1, ⟨hk.1.1.1.1.1.1.2.1, ⟨hk.1.1.1.1.1.1.2.2.1, ⟨hk.1.1.1.1.1.1.2.2.2.1, ⟨hk.1.1.1.1.1.1.2.2.2.2, ⟨hk.1.1.1.1.1.2, ⟨hk.1.1.1.1.2, ⟨hk.1.1.1.2, ⟨hk.1.1.2, ⟨hk.1.2, hk.2⟩⟩⟩⟩⟩⟩⟩⟩⟩⟩))⟩, ⟨Rz (Kd.R_mono HO_553002.out (fun _ hk => ⟨hk.1.1.1.1.1.1.1, ⟨hk.1.1.1.1.1.1.2.1, ⟨hk.1.1.1.1.1.1.2.2.1, ⟨hk.1.1.1.1.1.1.2.2.2.1, ⟨hk.1.1.1.1.1.1.2.2.2.2, ⟨hk.1.1.1.1.1.2, ⟨hk.1.1.1.1.2, ⟨hk.1.1.1.2, ⟨hk.1.1.2, ⟨hk.1.2, hk.2⟩⟩⟩⟩⟩⟩⟩⟩⟩⟩))⟩, ⟨Rz (Kd.R_mono HO_562001.out (fun _ hk => ⟨hk.1.1.1.1.1.1.1, ⟨hk.1.1.1.1.1.1.2.1, ⟨hk.1.1.1.1.1.1.2.2.1, ⟨hk.1.1.1.1.1.1.2.2.2.1, ⟨hk.1.1.1.1.1.1.2.2.2.2, ⟨hk.1.1.1.1.1.2, ⟨hk.1.1.1.1.2, ⟨hk.1.1.1.2, ⟨hk.1.1.2, ⟨hk.1.2, hk.2⟩⟩⟩⟩⟩⟩⟩⟩⟩⟩))⟩, ⟨Rz (Kd.R_mono HO_562002.out (fun _ hk => ⟨hk.1.1.1.1.1.1.1, ⟨hk.1.1.1.1.1.1.2.1, ⟨hk.1.1.1.1.1.1.2.2.1, ⟨hk.1.1.1.1.1.1.2.2.2.1, ⟨hk.1.1.1.1.1.1.2.2.2.2, ⟨hk.1.1.1.1.1.2, ⟨hk.1.1.1.1.2, ⟨hk.1.1.1.2, ⟨hk.1.1.2, ⟨hk.1.2, hk.2⟩⟩⟩⟩⟩⟩⟩⟩⟩⟩))⟩, ⟨Rz (Kd.R_mono HO573.out (fun _ hk => ⟨hk.1.1.1.1.1.1.1.1.1.2, ⟨hk.1.1.1.1.1.1.1.1.2, ⟨hk.1.1.1.1.1.1.1.2, ⟨hk.1.1.1.1.1.1.2, ⟨hk.1.1.1.1.1.2, ⟨hk.1.1.1.1.2, ⟨hk.1.1.1.1.1.1.1.1.1.1, ⟨hk.1.1.1.2, ⟨hk.1.1.2, ⟨hk.1.2, hk.2⟩⟩⟩⟩⟩⟩⟩⟩⟩⟩))⟩, ⟨Rz (Kd.R_mono HO576.out (fun _ hk => ⟨hk.1.1.1.1.1.1.1.1.1.2, ⟨hk.1.1.1.1.1.1.1.1.2, ⟨hk.1.1.1.1.1.1.1.2, ⟨hk.1.1.1.1.1.1.2, ⟨hk.1.1.1.1.1.2, ⟨hk.1.1.1.1.2, ⟨hk.1.1.1.1.1.1.1.1.1.1, ⟨hk.1.1.1.2, ⟨hk.1.1.2, ⟨hk.1.2, hk.2⟩⟩⟩⟩⟩⟩⟩⟩⟩⟩))⟩, ⟨Rz (Kd.R_mono HO581.out (fun _ hk => ⟨hk.1.1.1.1.1.1.1.1.1.2, ⟨hk.1.1.1.1.1.1.1.1.2, ⟨hk.1.1.1.1.1.1.1.2, ⟨hk.1.1.1.1.1.1.2, ⟨hk.1.1.1.1.1.2, ⟨hk.1.1.1.1.2, ⟨hk.1.1.1.2, ⟨hk.1.1.2, ⟨hk.1.1.1.1.1.1.1.1.1.1, ⟨hk.1.2, hk.2⟩⟩⟩⟩⟩⟩⟩⟩⟩⟩))⟩, ⟨Rz (Kd.R_mono HO584.out (fun _ hk => ⟨hk.1.1.1.1.1.1.1.1.1.2, ⟨hk.1.1.1.1.1.1.1.1.2, ⟨hk.1.1.1.1.1.1.1.2, ⟨hk.1.1.1.1.1.1.2, ⟨hk.1.1.1.1.1.2, ⟨hk.1.1.1.1.2, ⟨hk.1.1.1.2, ⟨hk.1.1.2, ⟨hk.1.1.1.1.1.1.1.1.1.1, ⟨hk.1.2, hk.2⟩⟩⟩⟩⟩⟩⟩⟩⟩⟩))⟩, ⟨Rz (Kd.R_mono HO590.out (fun _ hk => ⟨hk.1.1.1.1.1.1.1.1.1.2, ⟨hk.1.1.1.1.1.1.1.1.2, ⟨hk.1.1.1.1.1.1.1.2, ⟨hk.1.1.1.1.1.1.2, ⟨hk.1.1.1.1.1.2, ⟨hk.1.1.1.1.2, ⟨hk.1.1.1.2, ⟨hk.1.1.2, ⟨hk.1.2, ⟨hk.2, hk.1.1.1.1.1.1.1.1.1.1⟩⟩⟩⟩⟩⟩⟩⟩⟩⟩))⟩, ⟨Rz (Kd.R_mono HO593.out (fun _ hk => ⟨hk.1.1.1.1.1.1.1.1.1.2, ⟨hk.1.1.1.1.1.1.1.1.2, ⟨hk.1.1.1.1.1.1.1.2, ⟨hk.1.1.1.1.1.1.2, ⟨hk.1.1.1.1.1.2, ⟨hk.1.1.1.1.2, ⟨hk.1.1.1.2, ⟨hk.1.1.2, ⟨hk.1.2, ⟨hk.2, hk.1.1.1.1.1.1.1.1.1.1⟩⟩⟩⟩⟩⟩⟩⟩⟩⟩))⟩, ⟨Kz BK539.out⟩, ⟨Kz BK552.out⟩, ⟨Kz BK561.out⟩, ⟨Kz BK577.out⟩, ⟨Kz BK586.out⟩, ⟨Kz BK595.out⟩, ⟨Bq⟩⟩
         case rest =>
          refine Nonempty.elim ?_ id
          refine (letI hh_ : Nonempty (_ : Prop) := ?apart3; (?close3 : type_of% hh_))
          case apart3 =>
           refine Nonempty.intro ?_
           clear HC65
           try clear c1
           try clear c2
           try clear p2
           try clear c3
           try clear c4
           try clear c5
           try clear c6
           try clear c7
           try clear c8
           try clear c9
           try clear c10
           try clear c11
           try clear c22
           try clear c29
           try clear c30
           try clear c34
           try clear c34b0
           try clear c34b1
           try clear c34b2
           try clear c35
           try clear c35b0
           try clear c35b1
           try clear c36
           try clear c36b0
           try clear c36b1
           try clear c36b2
           try clear c38
           try clear c39
           try clear c40
           try clear c41
           try clear c42
           try clear c43
           try clear c44
           try clear c45
           try clear c46
           try clear c47
           try clear c48
           try clear c49
           try clear c50
           try clear c51
           try clear c53
           try clear c54
           try clear c55
           try clear c58
           try clear c68
           try clear c69
           try clear c70
           try clear c76
           try clear c77
           try clear c78
           try clear c79
           try clear c86
           try clear c87
           try clear c88
           try clear c89
           try clear c90
           try clear c94
           try clear c94b0
           try clear c94b1
           try clear c94b2
           try clear c96
           try clear c97
           try clear c98
           try clear c99
           try clear c100
           try clear c102
           try clear c103
           try clear c104
           try clear c105
           try clear hcz101_0
           try clear hcz101_1
           try clear hcz101_2
           try clear hcz106_0
           try clear hcz106_1
           try clear hcz106_2
           try clear hcz13_0
           try clear hcz13_1
           try clear hcz13_2
           try clear hcz17_0
           try clear hcz17_1
           try clear hcz17_2
           try clear hcz19_0
           try clear hcz19_1
           try clear hcz19_2
           try clear hcz23_0
           try clear hcz23_1
           try clear hcz23_2
           try clear hcz26_0
           try clear hcz26_1
           try clear hcz26_2
           try clear hcz31_0
           try clear hcz31_1
           try clear hcz31_2
           try clear hcz41_0
           try clear hcz41_1
           try clear hcz41_2
           try clear hcz43_0
           try clear hcz43_1
           try clear hcz43_2
           try clear hcz56_0
           try clear hcz56_1
           try clear hcz56_2
           try clear hcz59_0
           try clear hcz59_1
           try clear hcz59_2
           try clear hcz71_0
           try clear hcz71_1
           try clear hcz71_2
           try clear hcz80_0
           try clear hcz80_1
           try clear hcz80_2
           try clear hcz83_0
           try clear hcz83_1
           try clear hcz83_2
           try clear hcz91_0
           try clear hcz91_1
           try clear hcz91_2
           try clear hfz101_0
           try clear hfz101_1
           try clear hfz101_2
           try clear hfz106_0
           try clear hfz106_1
           try clear hfz106_2
           try clear hfz13_0
           try clear hfz13_1
           try clear hfz13_2
           try clear hfz17_0
           try clear hfz17_1
           try clear hfz17_2
           try clear hfz19_0
           try clear hfz19_1
           try clear hfz19_2
           try clear hfz23_0
           try clear hfz23_1
           try clear hfz23_2
           try clear hfz26_0
           try clear hfz26_1
           try clear hfz26_2
           try clear hfz31_0
           try clear hfz31_1
           try clear hfz31_2
           try clear hfz41_0
           try clear hfz41_1
           try clear hfz41_2
           try clear hfz43_0
           try clear hfz43_1
           try clear hfz43_2
           try clear hfz56_0
           try clear hfz56_1
           try clear hfz56_2
           try clear hfz59_0
           try clear hfz59_1
           try clear hfz59_2
           try clear hfz71_0
           try clear hfz71_1
           try clear hfz71_2
           try clear hfz80_0
           try clear hfz80_1
           try clear hfz80_2
           try clear hfz83_0
           try clear hfz83_1
           try clear hfz83_2
           try clear hfz91_0
           try clear hfz91_1
           try clear hfz91_2
           try clear p2
           obtain ⟨kq, x127_64, rfl, HA, HJ64, HO_540001, HO_540002, HO_553001, HO_553002, HO_562001, HO_562002, HO_578001, HO_578002, HO_587001, HO_587002, HO_596001, HO_596002, BK539, BK552, BK561, BK577, BK586, BK595, HB⟩ := hcut; cases kq with
           | zero => exact absurd HA.out (by simp [laws_FnCuckooFinds.j2])
           | succ kj64 =>
            have H := HA.out; clear HA
            simp only [laws_FnCuckooFinds.j2] at H
            by_cases c108 : x127_64 = true
            ·subst c108
             rw [if_pos rfl] at H; exact absurd (Option.some.inj H) (by rw [HQT_.out]; decide)
            ·replace c108 := Bool.eq_false_iff.mpr c108
             subst c108
             rw [if_neg (show ¬ (false = true) by decide)] at H
             by_cases c109 : t585 = true
             ·subst c109
              rw [if_pos rfl] at H; replace H := Option.bind_eq_some_iff.mp H; obtain ⟨⟨t597, t600⟩, A1100, H⟩ := H; (try dsimp -simprocs only at H); have A110 := am A1100; clear A1100; replace H := Option.bind_eq_some_iff.mp H; obtain ⟨⟨t601, t604⟩, A1110, H⟩ := H; (try dsimp -simprocs only at H); have A111 := am A1110; clear A1110
              by_cases c112 : t600 = true
              ·subst c112
               rw [if_pos rfl] at H
               by_cases c113 : t604 = true
               ·subst c113
                rw [if_pos rfl] at H; replace H := Option.bind_eq_some_iff.mp H; obtain ⟨t605, A1140, H⟩ := H; (try dsimp -simprocs only at H); have A114 := am A1140; clear A1140
                by_cases c115 : t605 = true
                ·subst c115
                 rw [if_pos rfl] at H
                 by_cases c116 : (t582.length : Int) ≤ (t574.length : Int)
                 ·rw [if_pos c116] at H
                  have c116b0 : decide ((t582.length : Int) ≤ (t574.length : Int)) = true := decide_eq_true c116; have c116b1 : decide (t582.length ≤ t574.length) = true := decide_eq_true (Int.ofNat_le.mp c116); clear c116; replace H := Option.bind_eq_some_iff.mp H; obtain ⟨t606, A1170, H⟩ := H; (try dsimp -simprocs only at H); have A117 := am A1170; clear A1170; obtain rfl := Option.some.inj H; have hnb118 := NB577_539.out; have hnc118 := NB539_577.out; have hnb119 := NB577_552.out; have hnc119 := NB552_577.out; have hnb120 := NB577_561.out; have hnc120 := NB561_577.out; have hnb121 := NB577_586.out; have hnc121 := NB586_577.out; have hnb122 := NB577_595.out; have hnc122 := NB595_577.out; obtain ⟨hcz123_0, hcz123_1, hcz123_2, hfz123_0, hfz123_1, hfz123_2⟩ := cf3 (w := wc) BK577
                  go_wp2_with (first | ((with_reducible refine gate_callee (f := 46) rfl ?_); refine gL (some 131) Try.func46 #[.agg #[.int .i64 t570, .slice Ao72 t571.length co72, .slice Ao73 t574.length co73]] ?_; (with_reducible refine (impl_CuckooKeys.calls kj64 t570 _ _ t571 _ _ t574 t597 true _ ?side1 ?side2 ?side3 ?side4 A110.out).mono ?_); (case side1 => exact Cz ((Kd.R_reads' HO_578001.out).2.2)); (case side2 => exact (Kd.R_reads' HO_578001.out).2.1); (case side3 => exact Cz ((Kd.R_reads' HO_578002.out).2.2)); (case side4 => exact (Kd.R_reads' HO_578002.out).2.1); rintro e w124 ⟨v598, rfl, ho0, hb⟩; refine ⟨_, rfl, ?_⟩; have n0_ := Re HO_540001 (Kd.R_base ho0) hb; have n1_ := Re HO_540002 (Kd.R_base ho0) hb; have n2_ := Re HO_553001 (Kd.R_base ho0) hb; have n3_ := Re HO_553002 (Kd.R_base ho0) hb; have n4_ := Re HO_562001 (Kd.R_base ho0) hb; have n5_ := Re HO_562002 (Kd.R_base ho0) hb; have n6_ := Re HO_578001 (Kd.R_base ho0) hb; have n7_ := Re HO_578002 (Kd.R_base ho0) hb; have n8_ := Re HO_587001 (Kd.R_base ho0) hb; have n9_ := Re HO_587002 (Kd.R_base ho0) hb; have n10_ := Re HO_596001 (Kd.R_base ho0) hb; have n11_ := Re HO_596002 (Kd.R_base ho0) hb; have n12_ := am (Kd.R_lower (Kd.R_new' (Kd.R_new' (Kd.R_new' (Kd.R_new' (Kd.R_new' (Kd.R_new' (Kd.R_new' (Kd.R_new' (Kd.R_new' (Kd.R_new' (Kd.R_new' (Kd.R_new' ho0 (Kd.R_lt (Rz HO_540001.out))) (Kd.R_lt (Rz HO_540002.out))) (Kd.R_lt (Rz HO_553001.out))) (Kd.R_lt (Rz HO_553002.out))) (Kd.R_lt (Rz HO_562001.out))) (Kd.R_lt (Rz HO_562002.out))) (Kd.R_lt (Rz HO_578001.out))) (Kd.R_lt (Rz HO_578002.out))) (Kd.R_lt (Rz HO_587001.out))) (Kd.R_lt (Rz HO_587002.out))) (Kd.R_lt (Rz HO_596001.out))) (Kd.R_lt (Rz HO_596002.out))) (below_size (w := w) (Bq))); have n13_ := Kb BK539 hb; have n14_ := Kb BK552 hb; have n15_ := Kb BK561 hb; have n16_ := Kb BK577 hb; have n17_ := Kb BK586 hb; have n18_ := Kb BK595 hb; have n19_ := Bc HB hb; clear HO_540001 HO_540002 HO_553001 HO_553002 HO_562001 HO_562002 HO_578001 HO_578002 HO_587001 HO_587002 HO_596001 HO_596002 BK539 BK552 BK561 BK577 BK586 BK595 HB; revert n0_ n1_ n2_ n3_ n4_ n5_ n6_ n7_ n8_ n9_ n10_ n11_ n12_ n13_ n14_ n15_ n16_ n17_ n18_ n19_; intro HO_540001 HO_540002 HO_553001 HO_553002 HO_562001 HO_562002 HO_578001 HO_578002 HO_587001 HO_587002 HO_596001 HO_596002 HO599 BK539 BK552 BK561 BK577 BK586 BK595 HB; (try clear hb); (try clear hb2); (try clear hk); (try clear hi); (try clear ho0); have hnb125 := NB586_539.out; have hnc125 := NB539_586.out; have hnb126 := NB586_552.out; have hnc126 := NB552_586.out; have hnb127 := NB586_561.out; have hnc127 := NB561_586.out; have hnb128 := NB586_595.out; have hnc128 := NB595_586.out; obtain ⟨hcz129_0, hcz129_1, hcz129_2, hfz129_0, hfz129_1, hfz129_2⟩ := cf3 (w := w124) BK586) | ((with_reducible refine gate_callee (f := 46) rfl ?_); refine gL (some 136) Try.func46 #[.agg #[.int .i64 t578, .slice Ao81 t579.length co81, .slice Ao82 t582.length co82]] ?_; (with_reducible refine (impl_CuckooKeys.calls kj64 t578 _ _ t579 _ _ t582 t601 true _ ?side1 ?side2 ?side3 ?side4 A111.out).mono ?_); (case side1 => exact Cz ((Kd.R_reads' HO_587001.out).2.2)); (case side2 => exact (Kd.R_reads' HO_587001.out).2.1); (case side3 => exact Cz ((Kd.R_reads' HO_587002.out).2.2)); (case side4 => exact (Kd.R_reads' HO_587002.out).2.1); rintro e w130 ⟨v602, rfl, ho0, hb⟩; refine ⟨_, rfl, ?_⟩; have n0_ := Re HO_540001 (Kd.R_base ho0) hb; have n1_ := Re HO_540002 (Kd.R_base ho0) hb; have n2_ := Re HO_553001 (Kd.R_base ho0) hb; have n3_ := Re HO_553002 (Kd.R_base ho0) hb; have n4_ := Re HO_562001 (Kd.R_base ho0) hb; have n5_ := Re HO_562002 (Kd.R_base ho0) hb; have n6_ := Re HO_578001 (Kd.R_base ho0) hb; have n7_ := Re HO_578002 (Kd.R_base ho0) hb; have n8_ := Re HO_587001 (Kd.R_base ho0) hb; have n9_ := Re HO_587002 (Kd.R_base ho0) hb; have n10_ := Re HO_596001 (Kd.R_base ho0) hb; have n11_ := Re HO_596002 (Kd.R_base ho0) hb; have n12_ := Re HO599 (Kd.R_base ho0) hb; have n13_ := am (Kd.R_lower (Kd.R_new' (Kd.R_new' (Kd.R_new' (Kd.R_new' (Kd.R_new' (Kd.R_new' (Kd.R_new' (Kd.R_new' (Kd.R_new' (Kd.R_new' (Kd.R_new' (Kd.R_new' (Kd.R_new' ho0 (Kd.R_lt (Rz HO_540001.out))) (Kd.R_lt (Rz HO_540002.out))) (Kd.R_lt (Rz HO_553001.out))) (Kd.R_lt (Rz HO_553002.out))) (Kd.R_lt (Rz HO_562001.out))) (Kd.R_lt (Rz HO_562002.out))) (Kd.R_lt (Rz HO_578001.out))) (Kd.R_lt (Rz HO_578002.out))) (Kd.R_lt (Rz HO_587001.out))) (Kd.R_lt (Rz HO_587002.out))) (Kd.R_lt (Rz HO_596001.out))) (Kd.R_lt (Rz HO_596002.out))) (Kd.R_lt (Rz HO599.out))) (below_size (w := w) (Bq))); have n14_ := Kb BK539 hb; have n15_ := Kb BK552 hb; have n16_ := Kb BK561 hb; have n17_ := Kb BK577 hb; have n18_ := Kb BK586 hb; have n19_ := Kb BK595 hb; have n20_ := Bc HB hb; clear HO_540001 HO_540002 HO_553001 HO_553002 HO_562001 HO_562002 HO_578001 HO_578002 HO_587001 HO_587002 HO_596001 HO_596002 HO599 BK539 BK552 BK561 BK577 BK586 BK595 HB; revert n0_ n1_ n2_ n3_ n4_ n5_ n6_ n7_ n8_ n9_ n10_ n11_ n12_ n13_ n14_ n15_ n16_ n17_ n18_ n19_ n20_; intro HO_540001 HO_540002 HO_553001 HO_553002 HO_562001 HO_562002 HO_578001 HO_578002 HO_587001 HO_587002 HO_596001 HO_596002 HO599 HO603 BK539 BK552 BK561 BK577 BK586 BK595 HB; (try clear hb); (try clear hb2); (try clear hk); (try clear hi); (try clear ho0); obtain ⟨Ao131, co131, eo131⟩ := Kd.R_slice HO599.out; subst eo131; obtain ⟨Ao132, co132, eo132⟩ := Kd.R_slice HO603.out; subst eo132) | (go_at_call 51; (with_reducible refine (laws_pSameTexts.calls kj64 _ _ t597 _ _ t601 true _ ?side1 ?side2 ?side3 ?side4 A114.out).mono ?_); (case side1 => exact Cz ((Kd.R_reads' HO599.out).2.2)); (case side2 => exact (Kd.R_reads' HO599.out).2.1); (case side3 => exact Cz ((Kd.R_reads' HO603.out).2.2)); (case side4 => exact (Kd.R_reads' HO603.out).2.1); rintro e w' ⟨rfl, ⟨nd, rfl⟩⟩; obtain ⟨hcz133_0, hcz133_1, hcz133_2, hfz133_0, hfz133_1, hfz133_2⟩ := cf3 (w := w130) BK586; obtain ⟨hcz134_0, hcz134_1, hcz134_2, hfz134_0, hfz134_1, hfz134_2⟩ := cf3 (w := w130) BK577) | (go_at_call 52; (with_reducible refine (impl_IsCuckoo.calls kj64 t578 _ _ t579 _ _ t582 t606 _ ?side1 ?side2 ?side3 ?side4 A117.out).mono ?_); (case side1 => exact Cz ((Kd.R_reads' HO_587001.out).2.2)); (case side2 => exact (Kd.R_reads' HO_587001.out).2.1); (case side3 => exact Cz ((Kd.R_reads' HO_587002.out).2.2)); (case side4 => exact (Kd.R_reads' HO_587002.out).2.1); rintro e w135 ⟨rfl, hb⟩; have n0_ := Rb HO_540001 hb; have n1_ := Rb HO_540002 hb; have n2_ := Rb HO_553001 hb; have n3_ := Rb HO_553002 hb; have n4_ := Rb HO_562001 hb; have n5_ := Rb HO_562002 hb; have n6_ := Rb HO_578001 hb; have n7_ := Rb HO_578002 hb; have n8_ := Rb HO_587001 hb; have n9_ := Rb HO_587002 hb; have n10_ := Rb HO_596001 hb; have n11_ := Rb HO_596002 hb; have n12_ := Rb HO599 hb; have n13_ := Rb HO603 hb; have n14_ := Kb BK539 hb; have n15_ := Kb BK552 hb; have n16_ := Kb BK561 hb; have n17_ := Kb BK577 hb; have n18_ := Kb BK586 hb; have n19_ := Kb BK595 hb; have n20_ := Bc HB hb; clear HO_540001 HO_540002 HO_553001 HO_553002 HO_562001 HO_562002 HO_578001 HO_578002 HO_587001 HO_587002 HO_596001 HO_596002 HO599 HO603 BK539 BK552 BK561 BK577 BK586 BK595 HB; revert n0_ n1_ n2_ n3_ n4_ n5_ n6_ n7_ n8_ n9_ n10_ n11_ n12_ n13_ n14_ n15_ n16_ n17_ n18_ n19_ n20_; intro HO_540001 HO_540002 HO_553001 HO_553002 HO_562001 HO_562002 HO_578001 HO_578002 HO_587001 HO_587002 HO_596001 HO_596002 HO599 HO603 BK539 BK552 BK561 BK577 BK586 BK595 HB; (try clear hb); (try clear hb2); (try clear hk); (try clear hi)))
                  go_ret
                  exact ⟨eZ, Bq⟩
                 ·rw [if_neg c116] at H
                  have c116b0 : decide ((t582.length : Int) ≤ (t574.length : Int)) = false := decide_eq_false c116; have c116b1 : decide (t582.length ≤ t574.length) = false := decide_eq_false (fun h => c116 (Int.ofNat_le.mpr h)); clear c116; exact absurd (Option.some.inj H) (by rw [HQT_.out]; decide)
                ·replace c115 := Bool.eq_false_iff.mpr c115
                 subst c115
                 rw [if_neg (show ¬ (false = true) by decide)] at H; exact absurd (Option.some.inj H) (by rw [HQT_.out]; decide)
               ·replace c113 := Bool.eq_false_iff.mpr c113
                subst c113
                rw [if_neg (show ¬ (false = true) by decide)] at H; exact absurd (Option.some.inj H) (by rw [HQT_.out]; decide)
              ·replace c112 := Bool.eq_false_iff.mpr c112
               subst c112
               rw [if_neg (show ¬ (false = true) by decide)] at H; exact absurd (Option.some.inj H) (by rw [HQT_.out]; decide)
             ·replace c109 := Bool.eq_false_iff.mpr c109
              subst c109
              rw [if_neg (show ¬ (false = true) by decide)] at H; obtain rfl := Option.some.inj H
              go_wp2
              go_ret
              exact ⟨eZ, Bq⟩
          case close3 => exact inferInstanceAs _
       case close2 => exact inferInstanceAs _
   case close1 => exact inferInstanceAs _
def laws_FnCuckooFinds.Pure : Prop := ∀ (l0 : List Int) (l1 : List Int), l0.length ≤ maxLen → l0.length * 1 ≤ 140737488351232 → (∀ x ∈ l0, (Lit.int .u8 x).wf = true) → l1.length ≤ maxLen → l1.length * 1 ≤ 140737488351232 → (∀ x ∈ l1, (Lit.int .u8 x).wf = true) → ∃ k, laws_FnCuckooFinds.f k l0 l1 = some true
theorem laws_FnCuckooFinds.walk (P : laws_FnCuckooFinds.Pure) (a0 : Option Addr) (len0 cap0 : Nat) (z0 : List Int) (a1 : Option Addr) (len1 cap1 : Nat) (z1 : List Int) (w : World) (w0 : (a0 = none ∧ len0 = 0 ∧ cap0 = 0 ∧ z0 = []) ∨ ∃ x, a0 = some x ∧ len0 ≤ cap0 ∧ cap0 ≤ maxLen ∧ z0.length = cap0 ∧ (∀ i, i < z0.length → w.cell? (x.add i) = some (.int .u8 (z0.getD i 0))) ∧ ∀ n ∈ z0, (Lit.int .u8 n).wf = true) (y0 : len0 * 1 ≤ 140737488351232) (w1 : (a1 = none ∧ len1 = 0 ∧ cap1 = 0 ∧ z1 = []) ∨ ∃ x, a1 = some x ∧ len1 ≤ cap1 ∧ cap1 ≤ maxLen ∧ z1.length = cap1 ∧ (∀ i, i < z1.length → w.cell? (x.add i) = some (.int .u8 (z1.getD i 0))) ∧ ∀ n ∈ z1, (Lit.int .u8 n).wf = true) (y1 : len1 * 1 ≤ 140737488351232) :
  Calls Try.prog 8 #[.slice a0 len0 cap0, .slice a1 len1 cap1] w fun e w' => e = .returned (.bool true) ∧ Below w.heap.size w w' := by
 obtain ⟨l0, rfl, hr0, hm0, hw0, hc0⟩ := ReadsInt.ofRowC w0; obtain ⟨l1, rfl, hr1, hm1, hw1, hc1⟩ := ReadsInt.ofRowC w1; obtain ⟨k, h⟩ := P l0 l1 hm0 y0 hw0 hm1 y1 hw1; refine (laws_FnCuckooFinds.calls k _ _ l0 _ _ l1 true w (Kd.C_of_reads (d := (0 : Int)) (h1 := fun _ => rfl) hr0) hc0 (Kd.C_of_reads (d := (0 : Int)) (h1 := fun _ => rfl) hr1) hc1 h rfl).mono ?_; rintro e w' ⟨rfl, hd⟩; exact ⟨rfl, hd⟩

end Go.Proofs.Ytephjmmkggcmeaa.PG
-- printed by a program of this session (wip/gp) out of the translation; Lean checks it
namespace Go.Proofs.Ytephjmmkggcmeaa.PG
open Go.RowKit Go.Proofs.YtephjmmkggcmeaaW.PrintWords Go.Proofs.YtephjmmkggcmeaaW.PrintLast Go.Proofs.YtephjmmkggcmeaaW.PrintMore Go.Proofs.YtephjmmkggcmeaaSq
attribute [local go_sem] max2_int min2_int max_two min_two max_three min_three max_four min_four   -- for this text's walks alone
attribute [local go_sem] Go.Proofs.YtephjmmkggcmeaaGp.str_geq Go.Proofs.YtephjmmkggcmeaaGp.str_gtr Go.Proofs.YtephjmmkggcmeaaGp.str_leq
set_option linter.unusedVariables false
set_option linter.unusedSimpArgs false

set_option maxHeartbeats 8000000
set_option maxRecDepth 100000
-- NOT PRINTED: function 164 (slices_overlaps_string)

-- NOT PRINTED: function 173 (slices_rotateLeft_string)

-- NOT PRINTED: function 165 (slices_rotateRight_string)

-- NOT PRINTED: function 145 (slices_Insert_string_string)

open Go Go.Maps Go.Proofs.YtephjmmkggcmeaaGp
open Go Go.Maps Go.Proofs.YtephjmmkggcmeaaGp
end Go.Proofs.Ytephjmmkggcmeaa.PG
-- printed by a program of this session (wip/gp) out of the translation; Lean checks it
namespace Go.Proofs.Ytephjmmkggcmeaa.PG
open Go.RowKit Go.Proofs.YtephjmmkggcmeaaW.PrintWords Go.Proofs.YtephjmmkggcmeaaW.PrintLast Go.Proofs.YtephjmmkggcmeaaW.PrintMore Go.Proofs.YtephjmmkggcmeaaSq
attribute [local go_sem] max2_int min2_int max_two min_two max_three min_three max_four min_four   -- for this text's walks alone
attribute [local go_sem] Go.Proofs.YtephjmmkggcmeaaGp.str_geq Go.Proofs.YtephjmmkggcmeaaGp.str_gtr Go.Proofs.YtephjmmkggcmeaaGp.str_leq
set_option linter.unusedVariables false
set_option linter.unusedSimpArgs false

set_option maxHeartbeats 8000000
set_option maxRecDepth 100000
-- BY HAND: function 132 (impl_distinct)

end Go.Proofs.Ytephjmmkggcmeaa.PG
-- printed by a program of this session (wip/gp) out of the translation; Lean checks it
namespace Go.Proofs.Ytephjmmkggcmeaa.PG
open Go.RowKit Go.Proofs.YtephjmmkggcmeaaW.PrintWords Go.Proofs.YtephjmmkggcmeaaW.PrintLast Go.Proofs.YtephjmmkggcmeaaW.PrintMore Go.Proofs.YtephjmmkggcmeaaSq
attribute [local go_sem] max2_int min2_int max_two min_two max_three min_three max_four min_four   -- for this text's walks alone
attribute [local go_sem] Go.Proofs.YtephjmmkggcmeaaGp.str_geq Go.Proofs.YtephjmmkggcmeaaGp.str_gtr Go.Proofs.YtephjmmkggcmeaaGp.str_leq
set_option linter.unusedVariables false
set_option linter.unusedSimpArgs false

set_option maxHeartbeats 8000000
set_option maxRecDepth 100000
end Go.Proofs.Ytephjmmkggcmeaa.PG
namespace Go.Proofs.YtephjmmkggcmeaaQ
open Go Go.RowKit Go.Proofs.YtephjmmkggcmeaaW.PrintWords Go.Proofs.YtephjmmkggcmeaaGp

theorem ev_succ {α : Type} {g : Nat → Option α} {r : α} (h : Ev (fun k => g (k + 1)) r) : Ev g r := Ev.step (f := fun k => g (k + 1)) (fun _ => rfl) h
theorem ev_some {α : Type} {a r : α} (h : a = r) : Ev (fun _ => some a) r := h ▸ Ev.now a
theorem ev_pos {α : Type} {c : Prop} [Decidable c] {f g : Nat → Option α} {r : α} (h : c) (k : Ev f r) : Ev (fun n => if c then f n else g n) r := by simpa only [if_pos h] using k
theorem ev_neg {α : Type} {c : Prop} [Decidable c] {f g : Nat → Option α} {r : α} (h : ¬ c) (k : Ev g r) : Ev (fun n => if c then f n else g n) r := by simpa only [if_neg h] using k
theorem ev_bind {α β : Type} {g : Nat → Option α} {f : Nat → α → Option β} {r : β} (a : α) (h : Ev g a) (k : Ev (fun n => f n a) r) : Ev (fun n => (g n).bind (f n)) r := Ev.bind h k
theorem w64 {x : Int} (h0 : -9223372036854775808 ≤ x) (h1 : x ≤ 9223372036854775807) : wrap64 x = x := by unfold wrap64; omega
theorem winc {i : Nat} (h : (i : Int) < 9223372036854775807) : wrap64 ((i : Int) + 1) = ((i + 1 : Nat) : Int) := by unfold wrap64; omega
theorem wdec {i : Nat} (h : (i : Int) < 9223372036854775807) : wrap64 (((i + 1 : Nat) : Int) - 1) = (i : Int) := by unfold wrap64; omega
theorem maxLen_eq : maxLen = 9223372036854775807 := by unfold maxLen; rfl
section
variable {α : Type} {d : α} {pre t : List α} {s : α}
theorem rdOf_mid : rdOf d (pre ++ s :: t) ((pre.length : Nat) : Int) = s := by simp [rdOf]
theorem rdOf_last {p : α} : rdOf d ((pre ++ [p]) ++ s :: t) ((pre.length : Nat) : Int) = p := by simp [rdOf]
theorem rdOf_get {xs : List α} {i : Nat} (h : i < xs.length) : rdOf d xs (i : Int) = xs[i] := by simp [rdOf, h]
theorem lt_mid : ((pre.length : Nat) : Int) < ((pre ++ s :: t).length : Int) := by simp; omega
theorem not_lt_end : ¬ ((pre.length : Nat) : Int) < ((pre ++ ([] : List α)).length : Int) := by simp
theorem set_mid {x : α} : (pre ++ s :: t).set ((pre.length : Nat) : Int).toNat x = pre ++ x :: t := by simp
theorem len_one : ((pre ++ [s]).length : Int) = ((pre.length + 1 : Nat) : Int) := by simp
end
theorem tl (s : ByteArray) : s.toList = s.data.toList := Lib.toList_data s
theorem tl_inj {x y : ByteArray} : x.toList = y.toList ↔ x = y := by
  rw [tl, tl]
  exact ⟨fun h => ByteArray.ext (Array.toList_inj.1 h), fun h => h ▸ rfl⟩
theorem size_len (s : ByteArray) : s.size = s.data.toList.length := (data_length s).symm
theorem bt_mid {s : ByteArray} {pre t : List UInt8} {c : UInt8} (h : s.data.toList = pre ++ c :: t) : bt s ((pre.length : Nat) : Int) = (c.toNat : Int) := by
  have hs : pre.length < s.size := by rw [size_len, h]; simp
  have hg : s[pre.length]'hs = c := by
    have : s.data.toList[pre.length]'(by rw [h]; simp) = c := by simp [h]
    rw [← this]; rfl
  unfold bt
  rw [dif_pos (by simpa using hs)]
  simp only [Int.toNat_natCast, hg]
theorem lt_size {s : ByteArray} {pre t : List UInt8} {c : UInt8} (h : s.data.toList = pre ++ c :: t) : ((pre.length : Nat) : Int) < (s.size : Int) := by rw [size_len, h]; simp; omega
theorem not_lt_size {s : ByteArray} {pre : List UInt8} (h : s.data.toList = pre ++ []) : ¬ ((pre.length : Nat) : Int) < (s.size : Int) := by rw [size_len, h]; simp
def lessS (a b : ByteArray) : Bool := Op.bytesLess a.toList b.toList
theorem lessS_irrefl (a : ByteArray) : lessS a a = false := bl_irrefl _
theorem bl_trans : ∀ a b c : List UInt8, Op.bytesLess a b = true → Op.bytesLess b c = true → Op.bytesLess a c = true
  | [], _, [], _, h => by cases ‹List UInt8› <;> simp [Op.bytesLess] at h
  | [], _, _ :: _, _, _ => by simp [Op.bytesLess]
  | _ :: _, [], _, h, _ => by simp [Op.bytesLess] at h
  | _ :: _, _ :: _, [], _, h => by simp [Op.bytesLess] at h
  | a :: l, b :: m, c :: n, h1, h2 => by
    have ih := bl_trans l m n
    simp only [Op.bytesLess, Bool.or_eq_true, Bool.and_eq_true, decide_eq_true_eq, beq_iff_eq, UInt8.lt_iff_toNat_lt] at h1 h2 ⊢
    rcases h1 with h1 | ⟨rfl, h1⟩
    · rcases h2 with h2 | ⟨rfl, h2⟩
      · exact .inl (by omega)
      · exact .inl h1
    · rcases h2 with h2 | ⟨rfl, h2⟩
      · exact .inl h2
      · exact .inr ⟨rfl, ih h1 h2⟩
theorem lessS_trans {a b c : ByteArray} (h1 : lessS a b = true) (h2 : lessS b c = true) : lessS a c = true := bl_trans _ _ _ h1 h2
theorem lessS_total (a b : ByteArray) (h : lessS a b = false) : lessS b a = true ∨ a = b := by
  have t := bl_total a.toList b.toList
  unfold lessS at h ⊢
  rw [h] at t
  by_cases e : a = b
  · exact .inr e
  · left
    have : (a.toList == b.toList) = false := by simpa [tl_inj] using e
    rw [this] at t
    have t2 := bl_total b.toList a.toList
    cases hb : Op.bytesLess b.toList a.toList
    · rw [hb, h] at t2
      simp only [Bool.false_or, Bool.not_false] at t2
      exact absurd (tl_inj.1 (by simpa using t2)) (fun e' => e e'.symm)
    · rfl
end Go.Proofs.YtephjmmkggcmeaaQ
namespace Go.Proofs.YtephjmmkggcmeaaQ
open Go Go.RowKit Go.Proofs.YtephjmmkggcmeaaW.PrintWords Go.Proofs.YtephjmmkggcmeaaGp Go.Proofs.Ytephjmmkggcmeaa.PG

theorem spec_in (n a b : Int) : spec_l1In.f n a b = some (decide (a ≤ n ∧ n ≤ b)) := by
  unfold spec_l1In.f
  by_cases h : a ≤ n <;> by_cases h' : n ≤ b <;> simp [h, h']
theorem impl_in (n a b : Int) : impl_in.f n a b = some (decide (a ≤ n ∧ n ≤ b)) := by
  unfold impl_in.f
  by_cases h : a ≤ n <;> by_cases h' : n ≤ b <;> simp [h, h']

def byteOk (c : UInt8) : Bool := decide (33 ≤ (c.toNat : Int) ∧ (c.toNat : Int) ≤ 125)
def isKeyB (s : ByteArray) : Bool := s.data.toList.all byteOk && decide (1 ≤ (s.size : Int) ∧ (s.size : Int) ≤ 12)
theorem spec_IsKey_l0 (x0 : ByteArray) (hz : (x0.size : Int) ≤ 9223372036854775806) : ∀ (t pre : List UInt8), x0.data.toList = pre ++ t →
    Ev (fun k => spec_IsKey.l0 k x0 (pre.length : Int)) (t.all byteOk && decide (1 ≤ (x0.size : Int) ∧ (x0.size : Int) ≤ 12)) := by
  intro t
  induction t with
  | nil =>
    intro pre h
    refine ev_succ ?_
    simp only [spec_IsKey.l0, spec_in, Option.bind_some]
    exact ev_neg (not_lt_size h) (ev_some (by simp))
  | cons c t ih =>
    intro pre h
    have hm := lt_size h
    refine ev_succ ?_
    simp only [spec_IsKey.l0, bt_mid h]
    refine ev_pos hm (ev_pos (by omega) ?_)
    by_cases c1 : (c.toNat : Int) < 33
    · exact ev_pos c1 (ev_some (by simp [byteOk]; omega))
    · refine ev_neg c1 ?_
      by_cases c2 : (c.toNat : Int) > 125
      · exact ev_pos c2 (ev_some (by simp [byteOk]; omega))
      · refine ev_neg c2 ?_
        rw [winc (by omega)]
        have := ih (pre ++ [c]) (by rw [h]; simp)
        rw [len_one] at this
        have hb : byteOk c = true := by simp [byteOk]; omega
        simpa [hb] using this
theorem spec_IsKey_f (s : ByteArray) (hz : (s.size : Int) ≤ 9223372036854775806) : Ev (fun k => spec_IsKey.f k s) (isKeyB s) := by
  unfold spec_IsKey.f
  exact spec_IsKey_l0 s hz s.data.toList [] rfl
theorem impl_IsKey_l0 (x0 : ByteArray) (hz : (x0.size : Int) ≤ 9223372036854775806) : ∀ (t pre : List UInt8), x0.data.toList = pre ++ t →
    Ev (fun k => impl_IsKey.l0 k x0 (x0.size : Int) (pre.length : Int)) (t.all byteOk && decide (1 ≤ (x0.size : Int) ∧ (x0.size : Int) ≤ 12)) := by
  intro t
  induction t with
  | nil =>
    intro pre h
    refine ev_succ ?_
    simp only [impl_IsKey.l0, impl_in, Option.bind_some]
    exact ev_neg (not_lt_size h) (ev_some (by simp))
  | cons c t ih =>
    intro pre h
    have hm := lt_size h
    refine ev_succ ?_
    simp only [impl_IsKey.l0, bt_mid h]
    refine ev_pos hm (ev_pos (by omega) (ev_pos hm ?_))
    by_cases c1 : (c.toNat : Int) < 33
    · exact ev_pos c1 (ev_some (by simp [byteOk]; omega))
    · refine ev_neg c1 ?_
      by_cases c2 : (c.toNat : Int) > 125
      · exact ev_pos c2 (ev_some (by simp [byteOk]; omega))
      · refine ev_neg c2 ?_
        rw [winc (by omega)]
        have := ih (pre ++ [c]) (by rw [h]; simp)
        rw [len_one] at this
        have hb : byteOk c = true := by simp [byteOk]; omega
        simpa [hb] using this
theorem impl_IsKey_f (s : ByteArray) (hz : (s.size : Int) ≤ 9223372036854775806) : Ev (fun k => impl_IsKey.f k s) (isKeyB s) := by
  unfold impl_IsKey.f
  exact impl_IsKey_l0 s hz s.data.toList [] rfl
theorem isKeyB_size {s : ByteArray} (h : isKeyB s = true) : 1 ≤ s.size ∧ s.size ≤ 12 := by
  simp [isKeyB] at h
  omega

def keysFrom : Option ByteArray → List ByteArray → Bool
  | _, [] => true
  | p, s :: t => isKeyB s && (match p with | none => true | some q => lessS q s) && keysFrom (some s) t
def areKeysB (l : List ByteArray) : Bool := keysFrom none l && decide ((l.length : Int) ≤ 40)
def lastOf (pre : List ByteArray) : Option ByteArray := pre.getLast?
theorem lastOf_one (pre : List ByteArray) (s : ByteArray) : lastOf (pre ++ [s]) = some s := by simp [lastOf]
theorem lastOf_nil : lastOf [] = none := rfl
theorem last_split {pre : List ByteArray} (h : 0 < pre.length) : ∃ q p, pre = q ++ [p] := by
  obtain ⟨x, hx⟩ : ∃ x, pre.getLast? = some x := by
    cases hp : pre.getLast? with
    | none => rw [List.getLast?_eq_none_iff] at hp; subst hp; simp at h
    | some x => exact ⟨x, rfl⟩
  obtain ⟨q, hq⟩ := List.getLast?_eq_some_iff.1 hx
  exact ⟨q, x, hq⟩

theorem spec_biKeys_l0 (x0 : List ByteArray) (hl : (x0.length : Int) ≤ 9223372036854775806) : ∀ (t pre : List ByteArray), x0 = pre ++ t → (∀ s ∈ t, (s.size : Int) ≤ 9223372036854775806) →
    Ev (fun k => spec_biKeys.l0 k x0 x0 (x0.length : Int) (pre.length : Int)) (keysFrom (lastOf pre) t && decide ((x0.length : Int) ≤ 40)) := by
  intro t
  induction t with
  | nil =>
    intro pre h hs
    refine ev_succ ?_
    simp only [spec_biKeys.l0]
    exact ev_neg (by rw [h]; exact not_lt_end) (ev_some (by simp [keysFrom]))
  | cons s t ih =>
    intro pre h hs
    have hm : ((pre.length : Nat) : Int) < (x0.length : Int) := by rw [h]; exact lt_mid
    have hg : rdOf ByteArray.empty x0 (pre.length : Int) = s := by rw [h]; exact rdOf_mid
    have next := ih (pre ++ [s]) (by rw [h]; simp) (fun x hx => hs x (by simp [hx]))
    rw [len_one, lastOf_one] at next
    refine ev_succ ?_
    simp only [spec_biKeys.l0, hg]
    refine ev_pos hm (ev_pos (by omega) (ev_pos hm (ev_bind _ (spec_IsKey_f s (hs s (by simp))) ?_)))
    cases hk : isKeyB s with
    | false => exact ev_neg (by simp) (ev_some (by simp [keysFrom, hk]))
    | true =>
      refine ev_pos rfl ?_
      by_cases c : 0 < pre.length
      · obtain ⟨q, p, rfl⟩ := last_split c
        have hp : rdOf ByteArray.empty x0 ((q.length : Nat) : Int) = p := by rw [h]; exact rdOf_last
        have hw : wrap64 (((q ++ [p]).length : Int) - 1) = (q.length : Int) := by rw [len_one]; exact wdec (by simp at hm; omega)
        simp only [hw, hp, lastOf_one, keysFrom, hk, Bool.true_and]
        refine ev_pos (by omega) (ev_pos (by omega) (ev_pos (by simp at hm; omega) ?_))
        by_cases c2 : lessS p s = true
        · refine ev_pos c2 ?_
          rw [winc (by omega), c2, Bool.true_and]
          exact next
        · refine ev_neg c2 (ev_some ?_)
          simp only [Bool.not_eq_true] at c2
          simp [c2]
      · obtain rfl := List.length_eq_zero_iff.1 (show pre.length = 0 by omega)
        refine ev_neg (by simp) ?_
        rw [winc (by omega)]
        simp only [lastOf_nil, keysFrom, hk, Bool.true_and]
        exact next
theorem spec_biKeys_f (l : List ByteArray) (hl : (l.length : Int) ≤ 9223372036854775806) (hs : ∀ s ∈ l, (s.size : Int) ≤ 9223372036854775806) : Ev (fun k => spec_biKeys.f k l) (areKeysB l) := by
  unfold spec_biKeys.f
  exact spec_biKeys_l0 l hl l [] rfl hs
theorem impl_AreKeys_l0 (x0 : List ByteArray) (hl : (x0.length : Int) ≤ 9223372036854775806) : ∀ (t pre : List ByteArray), x0 = pre ++ t → (∀ s ∈ t, (s.size : Int) ≤ 9223372036854775806) →
    Ev (fun k => impl_AreKeys.l0 k x0 x0 (x0.length : Int) (pre.length : Int)) (keysFrom (lastOf pre) t && decide ((x0.length : Int) ≤ 40)) := by
  intro t
  induction t with
  | nil =>
    intro pre h hs
    refine ev_succ ?_
    simp only [impl_AreKeys.l0]
    exact ev_neg (by rw [h]; exact not_lt_end) (ev_some (by simp [keysFrom]))
  | cons s t ih =>
    intro pre h hs
    have hm : ((pre.length : Nat) : Int) < (x0.length : Int) := by rw [h]; exact lt_mid
    have hg : rdOf ByteArray.empty x0 (pre.length : Int) = s := by rw [h]; exact rdOf_mid
    have next := ih (pre ++ [s]) (by rw [h]; simp) (fun x hx => hs x (by simp [hx]))
    rw [len_one, lastOf_one] at next
    refine ev_succ ?_
    simp only [impl_AreKeys.l0, hg]
    refine ev_pos hm (ev_pos (by omega) (ev_pos hm (ev_bind _ (impl_IsKey_f s (hs s (by simp))) ?_)))
    cases hk : isKeyB s with
    | false => exact ev_neg (by simp) (ev_some (by simp [keysFrom, hk]))
    | true =>
      refine ev_pos rfl ?_
      by_cases c : 0 < pre.length
      · obtain ⟨q, p, rfl⟩ := last_split c
        have hp : rdOf ByteArray.empty x0 ((q.length : Nat) : Int) = p := by rw [h]; exact rdOf_last
        have hw : wrap64 (((q ++ [p]).length : Int) - 1) = (q.length : Int) := by rw [len_one]; exact wdec (by simp at hm; omega)
        simp only [hw, hp, lastOf_one, keysFrom, hk, Bool.true_and]
        refine ev_pos (by omega) (ev_pos (by omega) (ev_pos (by simp at hm; omega) ?_))
        by_cases c2 : lessS p s = true
        · refine ev_pos c2 ?_
          rw [winc (by omega), c2, Bool.true_and]
          exact next
        · refine ev_neg c2 (ev_some ?_)
          simp only [Bool.not_eq_true] at c2
          simp [c2]
      · obtain rfl := List.length_eq_zero_iff.1 (show pre.length = 0 by omega)
        refine ev_neg (by simp) ?_
        rw [winc (by omega)]
        simp only [lastOf_nil, keysFrom, hk, Bool.true_and]
        exact next
theorem impl_AreKeys_f (l : List ByteArray) (hl : (l.length : Int) ≤ 9223372036854775806) (hs : ∀ s ∈ l, (s.size : Int) ≤ 9223372036854775806) : Ev (fun k => impl_AreKeys.f k l) (areKeysB l) := by
  unfold impl_AreKeys.f
  exact impl_AreKeys_l0 l hl l [] rfl hs
theorem keysFrom_all : ∀ (p : Option ByteArray) (l : List ByteArray), keysFrom p l = true → ∀ s ∈ l, isKeyB s = true
  | _, [], _, s, h => by simp at h
  | p, x :: t, hk, s, h => by
    simp only [keysFrom, Bool.and_eq_true] at hk
    rcases List.mem_cons.1 h with rfl | h
    · exact hk.1.1
    · exact keysFrom_all _ t hk.2 s h
theorem areKeysB_all {l : List ByteArray} (h : areKeysB l = true) : ∀ s ∈ l, isKeyB s = true := by
  simp only [areKeysB, Bool.and_eq_true] at h
  exact keysFrom_all _ _ h.1
end Go.Proofs.YtephjmmkggcmeaaQ
namespace Go.Proofs.YtephjmmkggcmeaaQ
open Go Go.RowKit Go.Proofs.YtephjmmkggcmeaaW.PrintWords Go.Proofs.YtephjmmkggcmeaaGp Go.Proofs.Ytephjmmkggcmeaa.PG

def hasS (l : List ByteArray) (s : ByteArray) : Bool := l.any fun x => decide (x = s)
theorem hasS_iff {l : List ByteArray} {s : ByteArray} : hasS l s = true ↔ s ∈ l := by simp [hasS]
def idxS : List ByteArray → ByteArray → Nat → Int
  | [], _, _ => -1
  | x :: t, s, i => if x = s then (i : Int) else idxS t s (i + 1)
theorem idxS_mem : ∀ (l : List ByteArray) (s : ByteArray) (i : Nat), 0 ≤ idxS l s i ↔ s ∈ l
  | [], s, i => by simp [idxS]
  | x :: t, s, i => by
    simp only [idxS]
    split
    · rename_i c; simp [c]
    · rename_i c; rw [idxS_mem t s (i + 1)]; simp [Ne.symm c]
theorem slices_Index_string_string_l0 (x0 : List ByteArray) (s : ByteArray) (hl : (x0.length : Int) ≤ 9223372036854775806) : ∀ (t pre : List ByteArray), x0 = pre ++ t →
    Ev (fun k => slices_Index_string_string.l0 k x0 s (x0.length : Int) (pre.length : Int)) (idxS t s pre.length) := by
  intro t
  induction t with
  | nil =>
    intro pre h
    refine ev_succ ?_
    simp only [slices_Index_string_string.l0]
    exact ev_neg (by rw [h]; exact not_lt_end) (ev_some (by simp [idxS]))
  | cons x t ih =>
    intro pre h
    have hm : ((pre.length : Nat) : Int) < (x0.length : Int) := by rw [h]; exact lt_mid
    have hg : rdOf ByteArray.empty x0 (pre.length : Int) = x := by rw [h]; exact rdOf_mid
    refine ev_succ ?_
    simp only [slices_Index_string_string.l0, hg, tl_inj]
    refine ev_pos hm (ev_pos (by omega) (ev_pos hm ?_))
    by_cases c : s = x
    · exact ev_pos c (ev_some (by simp [idxS, c]))
    · refine ev_neg c ?_
      rw [winc (by omega)]
      have := ih (pre ++ [x]) (by rw [h]; simp)
      rw [len_one] at this
      have e : idxS (x :: t) s pre.length = idxS t s (pre ++ [x]).length := by simp [idxS, Ne.symm c]
      rw [e]
      exact this
theorem slices_Index_string_string_f (l : List ByteArray) (s : ByteArray) (hl : (l.length : Int) ≤ 9223372036854775806) : Ev (fun k => slices_Index_string_string.f k l s) (idxS l s 0) := by
  unfold slices_Index_string_string.f
  exact slices_Index_string_string_l0 l s hl l [] rfl
end Go.Proofs.YtephjmmkggcmeaaQ
namespace Go.Proofs.YtephjmmkggcmeaaQ
open Go Go.RowKit Go.Proofs.YtephjmmkggcmeaaW.PrintWords Go.Proofs.YtephjmmkggcmeaaGp Go.Proofs.Ytephjmmkggcmeaa.PG

def mm (x y : Int) : Int := Int.tmod (wrap64 (x * y)) 65521
theorem mul_range {x y : Int} (hx : 0 ≤ x) (hx1 : x ≤ 65520) (hy : 0 ≤ y) (hy1 : y ≤ 65520) : 0 ≤ x * y ∧ x * y ≤ 4292870400 :=
  ⟨Int.mul_nonneg hx hy, by have := Int.mul_le_mul hx1 hy1 hy (by omega); omega⟩
theorem emod_range (x : Int) : 0 ≤ x % 65521 ∧ x % 65521 ≤ 65520 := by omega
theorem mm_eq {x y : Int} (hx : 0 ≤ x) (hx1 : x ≤ 65520) (hy : 0 ≤ y) (hy1 : y ≤ 65520) : mm x y = x * y % 65521 := by
  obtain ⟨h0, h1⟩ := mul_range hx hx1 hy hy1
  unfold mm
  rw [w64 (by omega) (by omega)]
  exact Int.tmod_eq_emod_of_nonneg h0
theorem mm_mod (a b : Int) : mm (a % 65521) (b % 65521) = a * b % 65521 := by
  rw [mm_eq (emod_range a).1 (emod_range a).2 (emod_range b).1 (emod_range b).2]
  exact (Int.mul_emod a b 65521).symm
def pw (h : Int) : Nat → Int
  | 0 => 1
  | n + 1 => pw h n * h
theorem self_mod {h : Int} (h0 : 0 ≤ h) (h1 : h ≤ 65520) : h = h % 65521 := by omega
theorem mm11 {h : Int} (h0 : 0 ≤ h) (h1 : h ≤ 65520) : mm (mm (mm (mm (mm h h) (mm h h)) h) (mm (mm (mm h h) (mm h h)) h)) h = pw h 11 % 65521 := by
  have e := self_mod h0 h1
  have a2 : mm h h = h * h % 65521 := mm_eq h0 h1 h0 h1
  have a4 : mm (mm h h) (mm h h) = (h * h) * (h * h) % 65521 := by rw [a2, mm_mod]
  have a5 : mm (mm (mm h h) (mm h h)) h = (h * h) * (h * h) * h % 65521 := by
    rw [a4]; conv => lhs; arg 2; rw [e]
    rw [mm_mod]
  rw [a5, mm_mod]
  conv => lhs; arg 2; rw [e]
  rw [mm_mod]
  congr 1
  simp only [pw, Int.one_mul, Int.mul_assoc]
theorem mm_pw {h : Int} (h0 : 0 ≤ h) (h1 : h ≤ 65520) (n : Nat) : mm (pw h n % 65521) h = pw h (n + 1) % 65521 := by
  conv => lhs; arg 2; rw [self_mod h0 h1]
  rw [mm_mod]
  rfl

def hstep (h : Int) (c : UInt8) : Int := Int.tmod (wrap64 ((wrap64 (263 * h)) + (wrap64 (c.toNat : Int)))) 65521
def hfold (h : Int) (l : List UInt8) : Int := l.foldl hstep h
theorem hstep_range {h : Int} {c : UInt8} (h0 : 0 ≤ h) (h1 : h ≤ 65520) : 0 ≤ hstep h c ∧ hstep h c ≤ 65520 := by
  have hc : c.toNat < 256 := c.toNat_lt
  unfold hstep
  rw [w64 (x := 263 * h) (by omega) (by omega), w64 (x := (c.toNat : Int)) (by omega) (by omega), w64 (by omega) (by omega), Int.tmod_eq_emod_of_nonneg (by omega)]
  omega
def hstart (a0 a1 : Int) : Int := Int.tmod (wrap64 ((wrap64 ((wrap64 (31 * a0)) + (wrap64 (977 * a1)))) + 7)) 65521
theorem hstart_range {a0 a1 : Int} (h0 : 0 ≤ a0) (h0' : a0 ≤ 1000000) (h1 : 0 ≤ a1) (h1' : a1 ≤ 1000000) : 0 ≤ hstart a0 a1 ∧ hstart a0 a1 ≤ 65520 := by
  unfold hstart
  rw [w64 (x := 31 * a0) (by omega) (by omega), w64 (x := 977 * a1) (by omega) (by omega), w64 (x := 31 * a0 + 977 * a1) (by omega) (by omega), w64 (by omega) (by omega), Int.tmod_eq_emod_of_nonneg (by omega)]
  omega
def hashV (a0 a1 : Int) (s : ByteArray) : Int := pw (hfold (hstart a0 a1) s.data.toList) 11 % 65521
theorem hashV_range (a0 a1 : Int) (s : ByteArray) : 0 ≤ hashV a0 a1 s ∧ hashV a0 a1 s ≤ 65520 := emod_range _
theorem spec_biHash_l0 (x2 : ByteArray) (hz : (x2.size : Int) ≤ 9223372036854775806) : ∀ (t pre : List UInt8) (h : Int), x2.data.toList = pre ++ t → 0 ≤ h → h ≤ 65520 →
    Ev (fun k => spec_biHash.l0 k x2 h (pre.length : Int)) (pw (hfold h t) 11 % 65521) := by
  intro t
  induction t with
  | nil =>
    intro pre h e h0 h1
    refine ev_succ ?_
    simp only [spec_biHash.l0]
    refine ev_neg (not_lt_size e) (ev_some ?_)
    exact mm11 h0 h1
  | cons c t ih =>
    intro pre h e h0 h1
    have hm := lt_size e
    refine ev_succ ?_
    simp only [spec_biHash.l0, bt_mid e]
    refine ev_pos hm (ev_pos (by omega) ?_)
    rw [winc (by omega)]
    have := ih (pre ++ [c]) (hstep h c) (by rw [e]; simp) (hstep_range h0 h1).1 (hstep_range h0 h1).2
    rw [len_one] at this
    exact this
theorem spec_biHash_f (a0 a1 : Int) (s : ByteArray) (hz : (s.size : Int) ≤ 9223372036854775806) (h0 : 0 ≤ a0) (h0' : a0 ≤ 1000000) (h1 : 0 ≤ a1) (h1' : a1 ≤ 1000000) :
    Ev (fun k => spec_biHash.f k a0 a1 s) (hashV a0 a1 s) := by
  unfold spec_biHash.f
  exact spec_biHash_l0 s hz s.data.toList [] _ rfl (hstart_range h0 h0' h1 h1').1 (hstart_range h0 h0' h1 h1').2
theorem impl_hash_l1 {h : Int} (h0 : 0 ≤ h) (h1 : h ≤ 65520) : ∀ (m i : Nat), i + m = 11 → Ev (fun k => impl_hash.l1 k h (pw h i % 65521) (i : Int)) (pw h 11 % 65521) := by
  intro m
  induction m with
  | zero =>
    intro i e
    obtain rfl : i = 11 := by omega
    refine ev_succ ?_
    simp only [impl_hash.l1]
    exact ev_neg (by omega) (ev_some rfl)
  | succ m ih =>
    intro i e
    refine ev_succ ?_
    simp only [impl_hash.l1]
    refine ev_pos (by omega) ?_
    rw [winc (by omega)]
    have := ih (i + 1) (by omega)
    rw [← mm_pw h0 h1 i] at this
    exact this
theorem impl_hash_l0 (x2 : ByteArray) (hz : (x2.size : Int) ≤ 9223372036854775806) : ∀ (t pre : List UInt8) (h : Int), x2.data.toList = pre ++ t → 0 ≤ h → h ≤ 65520 →
    Ev (fun k => impl_hash.l0 k x2 h (x2.size : Int) (pre.length : Int)) (pw (hfold h t) 11 % 65521) := by
  intro t
  induction t with
  | nil =>
    intro pre h e h0 h1
    refine ev_succ ?_
    simp only [impl_hash.l0]
    exact ev_neg (not_lt_size e) (impl_hash_l1 h0 h1 11 0 rfl)
  | cons c t ih =>
    intro pre h e h0 h1
    have hm := lt_size e
    refine ev_succ ?_
    simp only [impl_hash.l0, bt_mid e]
    refine ev_pos hm (ev_pos (by omega) (ev_pos hm ?_))
    rw [winc (by omega)]
    have := ih (pre ++ [c]) (hstep h c) (by rw [e]; simp) (hstep_range h0 h1).1 (hstep_range h0 h1).2
    rw [len_one] at this
    exact this
theorem impl_hash_f (a0 a1 : Int) (s : ByteArray) (hz : (s.size : Int) ≤ 9223372036854775806) (h0 : 0 ≤ a0) (h0' : a0 ≤ 1000000) (h1 : 0 ≤ a1) (h1' : a1 ≤ 1000000) :
    Ev (fun k => impl_hash.f k a0 a1 s) (hashV a0 a1 s) := by
  unfold impl_hash.f
  exact impl_hash_l0 s hz s.data.toList [] _ rfl (hstart_range h0 h0' h1 h1').1 (hstart_range h0 h0' h1 h1').2

def placeV (a0 a1 : Int) (s : ByteArray) (n : Int) : Int := wrap64 (Int.tdiv (wrap64 (hashV a0 a1 s * n)) 65521)
theorem placeV_range (a0 a1 : Int) (s : ByteArray) {n : Int} (h0 : 1 ≤ n) (h1 : n ≤ 1000000) : 0 ≤ placeV a0 a1 s n ∧ placeV a0 a1 s n < n := by
  obtain ⟨a, b⟩ := hashV_range a0 a1 s
  have c := Int.mul_nonneg a (show (0 : Int) ≤ n by omega)
  have d := Int.mul_le_mul_of_nonneg_right b (show (0 : Int) ≤ n by omega)
  unfold placeV
  generalize hashV a0 a1 s * n = y at *
  rw [w64 (x := y) (by omega) (by omega), Int.tdiv_eq_ediv_of_nonneg (by omega), w64 (by omega) (by omega)]
  omega
theorem spec_biPlace_f (a0 a1 : Int) (s : ByteArray) (n : Int) (hz : (s.size : Int) ≤ 9223372036854775806) (h0 : 0 ≤ a0) (h0' : a0 ≤ 1000000) (h1 : 0 ≤ a1) (h1' : a1 ≤ 1000000) :
    Ev (fun k => spec_biPlace.f k a0 a1 s n) (placeV a0 a1 s n) := by
  unfold spec_biPlace.f
  exact ev_bind _ (spec_biHash_f a0 a1 s hz h0 h0' h1 h1') (Ev.now _)
theorem impl_place_f (a0 a1 : Int) (s : ByteArray) (n : Int) (hz : (s.size : Int) ≤ 9223372036854775806) (h0 : 0 ≤ a0) (h0' : a0 ≤ 1000000) (h1 : 0 ≤ a1) (h1' : a1 ≤ 1000000) :
    Ev (fun k => impl_place.f k a0 a1 s n) (placeV a0 a1 s n) := by
  unfold impl_place.f
  exact ev_bind _ (impl_hash_f a0 a1 s hz h0 h0' h1 h1') (Ev.now _)
end Go.Proofs.YtephjmmkggcmeaaQ
namespace Go.Proofs.YtephjmmkggcmeaaQ
open Go Go.RowKit Go.Proofs.YtephjmmkggcmeaaW.PrintWords Go.Proofs.YtephjmmkggcmeaaGp Go.Proofs.Ytephjmmkggcmeaa.PG

structure Bys (s : List Int) : Prop where
  len : (s.length : Int) ≤ 1048576
  all : ∀ x ∈ s, 0 ≤ x ∧ x ≤ 255
theorem and255 (x : Int) : 0 ≤ Go.bits .and .u64 x 255 ∧ Go.bits .and .u64 x 255 ≤ 255 := by
  have e : Go.bits .and .u64 x 255 = IntKind.u64.wrap (((BitVec.ofInt 64 x &&& BitVec.ofInt 64 255 : BitVec 64)).toNat : Int) := by unfold Go.bits; rfl
  have h : ((BitVec.ofInt 64 x &&& BitVec.ofInt 64 255 : BitVec 64)).toNat ≤ 255 := by
    rw [BitVec.toNat_and]
    exact Nat.and_le_right
  rw [e]
  unfold IntKind.wrap
  simp only [IntKind.bits, IntKind.signed]
  generalize (BitVec.ofInt 64 x &&& BitVec.ofInt 64 255 : BitVec 64).toNat = m at h
  simp
  omega
theorem rd_by {s : List Int} (hs : Bys s) (i : Int) : 0 ≤ rd s i ∧ rd s i ≤ 255 := by
  unfold rd
  by_cases c : i.toNat < s.length
  · rw [List.getD_eq_getElem?_getD, List.getElem?_eq_getElem c]
    exact hs.all _ (List.getElem_mem c)
  · rw [List.getD_eq_getElem?_getD, List.getElem?_eq_none (by omega)]
    simp
theorem next_ok {s : List Int} (hs : Bys s) {p : Int} (sd : Int) (h0 : 0 ≤ p) (h1 : p ≤ 4000000000000000000) :
    ∃ v p' sd', spec_l1Cur_next.f s p sd = some (v, p', sd') ∧ (0 ≤ v ∧ v ≤ 255) ∧ 0 ≤ p' ∧ p' ≤ p + 1 := by
  have hb := rd_by hs p
  have w1 : wrap64 (p + 1) = p + 1 := w64 (by omega) (by omega)
  have w2 : wrap64 (rd s p) = rd s p := w64 (by omega) (by omega)
  unfold spec_l1Cur_next.f
  rw [w1, w2]
  by_cases c : p < (s.length : Int)
  · rw [if_pos c, if_pos h0]
    split
    · exact ⟨_, _, _, rfl, hb, by omega, by omega⟩
    · omega
  · rw [if_neg c, if_neg (by omega)]
    refine ⟨_, _, _, rfl, ?_, by omega, by omega⟩
    have := and255 ((IntKind.u64.wrap ((IntKind.u64.wrap (IntKind.u64.wrap (sd * 6364136223846793005))) + 1442695040888963407)) / 1099511627776)
    rw [w64 (by omega) (by omega)]
    exact this
theorem pick_ok {s : List Int} (hs : Bys s) {p : Int} (sd : Int) {n : Int} (h0 : 0 ≤ p) (h1 : p ≤ 3000000000000000000) :
    ∃ v p' sd', spec_l1Cur_pick.f s p sd n = some (v, p', sd') ∧ (0 ≤ v ∧ (v < n ∨ v = 0)) ∧ 0 ≤ p' ∧ p' ≤ p + 2 := by
  unfold spec_l1Cur_pick.f
  by_cases c : n ≤ 1
  · rw [if_pos c]; exact ⟨_, _, _, rfl, ⟨by omega, .inr rfl⟩, h0, by omega⟩
  obtain ⟨v, p', sd', e, hv, q0, q1⟩ := next_ok hs sd h0 (by omega)
  have hn : ¬ n = 0 := by omega
  rw [if_neg c, e]
  simp only [Option.bind_some, if_neg hn]
  by_cases d : n > 200
  · obtain ⟨u, p2, sd2, e2, hu, r0, r1⟩ := next_ok hs sd' q0 (by omega)
    rw [if_pos d, e2]
    simp only [Option.bind_some]
    refine ⟨_, _, _, rfl, ?_, r0, by omega⟩
    rw [w64 (x := v * 256) (by omega) (by omega), w64 (x := v * 256 + u) (by omega) (by omega), Int.tmod_eq_emod_of_nonneg (by omega)]
    exact ⟨Int.emod_nonneg _ hn, .inl (Int.emod_lt_of_pos _ (by omega))⟩
  · rw [if_neg d]
    refine ⟨_, _, _, rfl, ?_, q0, by omega⟩
    rw [Int.tmod_eq_emod_of_nonneg hv.1]
    exact ⟨Int.emod_nonneg _ hn, .inl (Int.emod_lt_of_pos _ (by omega))⟩
theorem one_ok {s : List Int} (hs : Bys s) {p : Int} (sd : Int) (n : Int) (h0 : 0 ≤ p) (h1 : p ≤ 3000000000000000000) :
    ∃ v p' sd', spec_l1Cur_one.f s p sd n = some (v, p', sd') ∧ 0 ≤ p' ∧ p' ≤ p + 2 := by
  obtain ⟨v, p', sd', e, _, q0, q1⟩ := pick_ok hs sd (n := n) h0 h1
  unfold spec_l1Cur_one.f
  rw [e]
  exact ⟨_, _, _, rfl, q0, q1⟩
theorem among_ok {s : List Int} (hs : Bys s) {p : Int} (sd : Int) {l : List Int} (hl : 0 < l.length) (h0 : 0 ≤ p) (h1 : p ≤ 3000000000000000000) :
    ∃ v p' sd', spec_l1Cur_among.f s p sd l = some (v, p', sd') ∧ v ∈ l ∧ 0 ≤ p' ∧ p' ≤ p + 2 := by
  obtain ⟨v, p', sd', e, hv, q0, q1⟩ := pick_ok hs sd (n := (l.length : Int)) h0 h1
  have hm : rd l v ∈ l := by
    unfold rd
    have : v.toNat < l.length := by omega
    rw [List.getD_eq_getElem?_getD, List.getElem?_eq_getElem this]
    exact List.getElem_mem this
  unfold spec_l1Cur_among.f
  rw [e]
  simp only [Option.bind_some]
  rw [if_pos (by omega), if_pos (by omega)]
  exact ⟨_, _, _, rfl, hm, q0, q1⟩
theorem strOf_size (l : List Int) : (strOfNums l).size = l.length := by simp [strOfNums, ByteArray.size]

def Dr {α : Type} (g : Nat → Option (α × Int × Int)) (p c : Int) (P : α → Prop) : Prop := ∃ v p' sd', Ev g (v, p', sd') ∧ P v ∧ 0 ≤ p' ∧ p' ≤ p + c
theorem key_l1 (s : List Int) (p sd : Int) : ∀ (d : Nat) (x : List Int), 12 - x.length ≤ d → x.length ≤ 12 →
    ∃ v, Ev (fun k => spec_l1Cur_key.l1 k x s p sd) (v, p, sd) ∧ v.size ≤ 12 := by
  intro d
  induction d with
  | zero =>
    intro x h1 h2
    refine ⟨strOfNums x, ev_succ ?_, by rw [strOf_size]; omega⟩
    simp only [spec_l1Cur_key.l1]
    exact ev_neg (by omega) (Ev.now _)
  | succ d ih =>
    intro x h1 h2
    by_cases c : (x.length : Int) < 12
    · obtain ⟨v, e, hv⟩ := ih (x ++ [97]) (by simp; omega) (by simp; omega)
      refine ⟨v, ev_succ ?_, hv⟩
      simp only [spec_l1Cur_key.l1]
      exact ev_pos c (ev_pos (by omega) e)
    · refine ⟨strOfNums x, ev_succ ?_, by rw [strOf_size]; omega⟩
      simp only [spec_l1Cur_key.l1]
      exact ev_neg c (Ev.now _)
theorem key_l0 {s : List Int} (hs : Bys s) : ∀ (n : Nat) (x : List Int) (p sd : Int), x.length + n ≤ 12 → 0 ≤ p → p + 2 * (n : Int) ≤ 2000000000000000000 →
    Dr (fun k => spec_l1Cur_key.l0 k x (n : Int) s p sd) p (2 * (n : Int) + 2) (fun v => v.size ≤ 12) := by
  intro n
  induction n with
  | zero =>
    intro x p sd hx h0 h1
    obtain ⟨v, p', sd', e, q0, q1⟩ := one_ok hs sd 12 h0 (by omega)
    by_cases c : v = true
    · obtain ⟨u, eu, hu⟩ := key_l1 s p' sd' 12 x (by omega) (by omega)
      refine ⟨u, p', sd', ev_succ ?_, hu, q0, by omega⟩
      simp only [spec_l1Cur_key.l0, e]
      exact ev_neg (by omega) (ev_bind _ (Ev.now _) (ev_pos c eu))
    · refine ⟨strOfNums x, p', sd', ev_succ ?_, (by rw [strOf_size]; omega : (strOfNums x).size ≤ 12), q0, by omega⟩
      simp only [spec_l1Cur_key.l0, e]
      exact ev_neg (by omega) (ev_bind _ (Ev.now _) (ev_neg c (Ev.now _)))
  | succ n ih =>
    intro x p sd hx h0 h1
    obtain ⟨v, p', sd', e, hv, q0, q1⟩ := pick_ok hs sd (n := 11) h0 (by omega)
    obtain ⟨u, p2, sd2, eu, hu, r0, r1⟩ := ih (x ++ [bt (⟨#[97, 97, 98, 98, 99, 120, 121, 122, 33, 125, 48]⟩ : ByteArray) v]) p' sd' (by simp; omega) q0 (by omega)
    refine ⟨u, p2, sd2, ev_succ ?_, hu, r0, by omega⟩
    simp only [spec_l1Cur_key.l0, e]
    refine ev_pos (by omega) (ev_bind _ (Ev.now _) (ev_pos hv.1 (ev_pos (by omega) (ev_pos (by omega) ?_))))
    rw [wdec (by omega)]
    exact eu
theorem key_ok {s : List Int} (hs : Bys s) {p : Int} (sd : Int) (h0 : 0 ≤ p) (h1 : p ≤ 1000000000000000000) : Dr (fun k => spec_l1Cur_key.f k s p sd) p 12 (fun v => v.size ≤ 12) := by
  obtain ⟨v, p', sd', e, hv, q0, q1⟩ := pick_ok hs sd (n := 4) h0 (by omega)
  obtain ⟨u, p2, sd2, eu, hu, r0, r1⟩ := key_l0 hs (v.toNat + 1) [] p' sd' (by simp; omega) q0 (by omega)
  refine ⟨u, p2, sd2, ?_, hu, r0, by omega⟩
  unfold spec_l1Cur_key.f
  rw [e]
  refine ev_bind _ (Ev.now _) ?_
  rw [w64 (by omega) (by omega), show 1 + v = ((v.toNat + 1 : Nat) : Int) from by omega]
  exact eu
def insK (s : ByteArray) : List ByteArray → List ByteArray
  | [] => [s]
  | q :: t => if lessS q s = true then q :: insK s t else if q = s then q :: t else s :: q :: t
theorem insK_len (s : ByteArray) : ∀ l, (insK s l).length ≤ l.length + 1
  | [] => by simp [insK]
  | q :: t => by
    have := insK_len s t
    unfold insK
    split
    · simp; omega
    · split <;> simp
theorem insK_mem (s : ByteArray) : ∀ l, ∀ x ∈ insK s l, x = s ∨ x ∈ l
  | [], x, h => by simp [insK] at h; exact .inl h
  | q :: t, x, h => by
    unfold insK at h
    split at h
    · rcases List.mem_cons.1 h with e | e
      · exact .inr (by simp [e])
      · rcases insK_mem s t x e with e | e
        · exact .inl e
        · exact .inr (by simp [e])
    · split at h
      · exact .inr h
      · rcases List.mem_cons.1 h with e | e
        · exact .inl e
        · exact .inr e
theorem putS_l0 (x0 : List ByteArray) (s : ByteArray) (hx : x0.length ≤ 1000000) : ∀ (t pre : List ByteArray), x0 = pre ++ t →
    Ev (fun k => spec_l1PutS.l0 k x0 s (pre.length : Int)) (pre ++ insK s t) := by
  intro t
  induction t with
  | nil =>
    intro pre h
    have hp : x0 = pre := by rw [h, List.append_nil]
    subst hp
    refine ev_succ ?_
    simp only [spec_l1PutS.l0]
    refine ev_neg (by omega) (ev_bind _ (Ev.now _) (ev_pos (by omega) (ev_pos (by omega) (ev_bind _ (Ev.now _) ?_))))
    rw [Int.toNat_natCast, List.take_length, List.nil_append]
    refine ev_pos (by simp; omega) (ev_bind _ (Ev.now _) (ev_pos (by omega) (ev_bind _ (Ev.now _) (ev_bind _ (Ev.now _) (ev_pos (by simp; omega) (ev_some ?_))))))
    simp [insK]
  | cons q t ih =>
    intro pre h
    have hm : ((pre.length : Nat) : Int) < (x0.length : Int) := by rw [h]; exact lt_mid
    have hg : rdOf ByteArray.empty x0 (pre.length : Int) = q := by rw [h]; exact rdOf_mid
    refine ev_succ ?_
    simp only [spec_l1PutS.l0, hg]
    refine ev_pos hm (ev_pos (by omega) ?_)
    unfold insK
    by_cases c : lessS q s = true
    · refine ev_pos c ?_
      rw [winc (by omega), if_pos c]
      have := ih (pre ++ [q]) (by rw [h]; simp)
      rw [len_one] at this
      simpa using this
    · refine ev_neg c ?_
      rw [if_neg c]
      by_cases d : q = s
      · refine ev_pos (tl_inj.2 d) (ev_some ?_)
        rw [if_pos d, h]
      · refine ev_neg (fun e => d (tl_inj.1 e)) (ev_bind _ (Ev.now _) (ev_pos (by omega) (ev_bind _ (Ev.now _) ?_)))
        have et : x0.take pre.length = pre := by rw [h]; simp
        have ed : x0.drop pre.length = q :: t := by rw [h]; simp
        have hl : x0.length = pre.length + (t.length + 1) := by rw [h]; simp
        rw [Int.toNat_natCast, et, ed, List.nil_append, if_neg d]
        refine ev_pos (by simp; omega) (ev_bind _ (Ev.now _) (ev_pos (by omega) (ev_bind _ (Ev.now _) (ev_bind _ (Ev.now _) (ev_pos (by simp; omega) (ev_some ?_))))))
        simp
theorem putS_f (l : List ByteArray) (s : ByteArray) (h : l.length ≤ 1000000) : Ev (fun k => spec_l1PutS.f k l s) (insK s l) := putS_l0 l s h l [] rfl
def Kys (m : Nat) (l : List ByteArray) : Prop := l.length ≤ m ∧ ∀ s ∈ l, s.size ≤ 13
theorem Kys.ins {m : Nat} {l : List ByteArray} (h : Kys m l) {s : ByteArray} (hs : s.size ≤ 13) : Kys (m + 1) (insK s l) :=
  ⟨by have := insK_len s l; have := h.1; omega, fun x hx => by exact (insK_mem s l x hx).elim (fun e => e ▸ hs) (h.2 x)⟩
theorem Kys.one {m : Nat} {l : List ByteArray} (h : Kys m l) {s : ByteArray} (hs : s.size ≤ 13) : Kys (m + 1) (l ++ [s]) :=
  ⟨by have := h.1; simp; omega, fun x hx => by exact (List.mem_append.1 hx).elim (h.2 x) (fun e => List.mem_singleton.1 e ▸ hs)⟩
theorem Kys.mono {m m' : Nat} {l : List ByteArray} (h : Kys m l) (hm : m ≤ m') : Kys m' l := ⟨Nat.le_trans h.1 hm, h.2⟩
theorem keys_l0 {s : List Int} (hs : Bys s) : ∀ (n m : Nat) (x : List ByteArray) (p sd : Int), Kys m x → m + n ≤ 1000 → 0 ≤ p → p + 12 * (n : Int) ≤ 500000000000000000 →
    Dr (fun k => spec_l1Cur_keys.l0 k x (n : Int) s p sd) p (12 * (n : Int)) (Kys (m + n)) := by
  intro n
  induction n with
  | zero =>
    intro m x p sd hx hm h0 h1
    refine ⟨x, p, sd, ev_succ ?_, hx, h0, by omega⟩
    simp only [spec_l1Cur_keys.l0]
    exact ev_neg (by omega) (Ev.now _)
  | succ n ih =>
    intro m x p sd hx hm h0 h1
    obtain ⟨v, p', sd', e, hv, q0, q1⟩ := key_ok hs sd h0 (by omega)
    have hl := hx.1
    obtain ⟨u, p2, sd2, eu, hu, r0, r1⟩ := ih (m + 1) (insK v x) p' sd' (hx.ins (by omega)) (by omega) q0 (by omega)
    refine ⟨u, p2, sd2, ev_succ ?_, hu.mono (by omega), r0, by omega⟩
    simp only [spec_l1Cur_keys.l0]
    refine ev_pos (by omega) (ev_bind _ e (ev_bind _ (putS_f x v (by omega)) ?_))
    rw [wdec (by omega)]
    exact eu
theorem keys_ok {s : List Int} (hs : Bys s) {p : Int} (sd : Int) {n : Nat} (hn : n ≤ 100) (h0 : 0 ≤ p) (h1 : p ≤ 400000000000000000) : Dr (fun k => spec_l1Cur_keys.f k s p sd (n : Int)) p (12 * (n : Int) + 2) (Kys n) := by
  obtain ⟨v, p', sd', e, hv, q0, q1⟩ := pick_ok hs sd (n := (n : Int) + 1) h0 (by omega)
  obtain ⟨u, p2, sd2, eu, hu, r0, r1⟩ := keys_l0 hs v.toNat 0 [] p' sd' ⟨by simp, by simp⟩ (by omega) q0 (by omega)
  refine ⟨u, p2, sd2, ?_, hu.mono (by omega), r0, by omega⟩
  unfold spec_l1Cur_keys.f
  rw [w64 (x := (n : Int) + 1) (by omega) (by omega), e]
  refine ev_bind _ (Ev.now _) ?_
  rw [show ((v.toNat : Nat) : Int) = v from by omega] at eu
  exact eu
end Go.Proofs.YtephjmmkggcmeaaQ
namespace Go.Proofs.YtephjmmkggcmeaaQ
open Go Go.RowKit Go.Proofs.YtephjmmkggcmeaaW.PrintWords Go.Proofs.YtephjmmkggcmeaaGp Go.Proofs.Ytephjmmkggcmeaa.PG

theorem Dr.mono {α : Type} {g : Nat → Option (α × Int × Int)} {p c c' : Int} {P P' : α → Prop} (h : Dr g p c P) (hc : c ≤ c') (hP : ∀ x, P x → P' x) : Dr g p c' P' := by
  obtain ⟨v, p', sd', e, hv, q0, q1⟩ := h
  exact ⟨v, p', sd', e, hP v hv, q0, by omega⟩
theorem seed9_ok {s : List Int} (hs : Bys s) {p : Int} (sd : Int) (h0 : 0 ≤ p) (h1 : p ≤ 1000000000000000000) :
    ∃ v p' sd', spec_l1Cur_seed9.f s p sd = some (v, p', sd') ∧ (-1 ≤ v ∧ v ≤ 10000) ∧ 0 ≤ p' ∧ p' ≤ p + 4 := by
  obtain ⟨v, p', sd', e, hv, q0, q1⟩ := pick_ok hs sd (n := 12) h0 (by omega)
  unfold spec_l1Cur_seed9.f
  rw [e]
  simp only [Option.bind_some]
  by_cases c : v = 0
  · obtain ⟨u, p2, sd2, eu, hu, r0, r1⟩ := among_ok hs sd' (l := [(-1), 9999, 10000]) (by simp) q0 (by omega)
    rw [if_pos c, eu]
    refine ⟨u, p2, sd2, rfl, ?_, r0, by omega⟩
    simp only [List.mem_cons, List.not_mem_nil, or_false] at hu
    omega
  · rw [if_neg c]
    by_cases d : v = 1
    · obtain ⟨u, p2, sd2, eu, hu, r0, r1⟩ := pick_ok hs sd' (n := 10000) q0 (by omega)
      rw [if_pos d, eu]
      exact ⟨u, p2, sd2, rfl, by omega, r0, by omega⟩
    · obtain ⟨u, p2, sd2, eu, hu, r0, r1⟩ := pick_ok hs sd' (n := 20) q0 (by omega)
      rw [if_neg d, eu]
      exact ⟨u, p2, sd2, rfl, by omega, r0, by omega⟩
theorem of_ok {s : List Int} (hs : Bys s) {p : Int} (sd : Int) {l : List ByteArray} (hl : 0 < l.length) (h0 : 0 ≤ p) (h1 : p ≤ 3000000000000000000) :
    ∃ v p' sd', spec_l1Cur_of.f s p sd l = some (v, p', sd') ∧ v ∈ l ∧ 0 ≤ p' ∧ p' ≤ p + 2 := by
  obtain ⟨v, p', sd', e, hv, q0, q1⟩ := pick_ok hs sd (n := (l.length : Int)) h0 h1
  have hm : rdOf ByteArray.empty l v ∈ l := by
    unfold rdOf
    have : v.toNat < l.length := by omega
    rw [List.getD_eq_getElem?_getD, List.getElem?_eq_getElem this]
    exact List.getElem_mem this
  unfold spec_l1Cur_of.f
  rw [e]
  simp only [Option.bind_some]
  rw [if_pos (by omega), if_pos (by omega)]
  exact ⟨_, _, _, rfl, hm, q0, q1⟩
theorem text_ok {s : List Int} (hs : Bys s) {p : Int} (sd : Int) (h0 : 0 ≤ p) (h1 : p ≤ 500000000000000000) : Dr (fun k => spec_l1Cur_text.f k s p sd) p 14 (fun v => v.size ≤ 13) := by
  obtain ⟨v, p', sd', e, hv, q0, q1⟩ := pick_ok hs sd (n := 16) h0 (by omega)
  obtain ⟨u, p2, sd2, eu, hu, r0, r1⟩ := key_ok hs sd' q0 (by omega)
  unfold spec_l1Cur_text.f
  rw [e]
  simp only [Option.bind_some]
  by_cases c0 : v = 0
  · exact ⟨_, p', sd', ev_pos c0 (Ev.now _), by decide, q0, by omega⟩
  · by_cases c1 : v = 1
    · have h1 : (⟨#[32]⟩ : ByteArray).size = 1 := rfl
      refine ⟨u ++ ⟨#[32]⟩, p2, sd2, ev_neg c0 (ev_pos c1 (ev_bind _ eu (ev_pos (by simp only []; omega) (Ev.now _)))), ?_, r0, by omega⟩
      show (u ++ ⟨#[32]⟩ : ByteArray).size ≤ 13
      rw [ByteArray.size_append]
      omega
    · by_cases c2 : v = 2
      · exact ⟨_, p', sd', ev_neg c0 (ev_neg c1 (ev_pos c2 (Ev.now _))), by decide, q0, by omega⟩
      · by_cases c3 : v = 3
        · obtain ⟨x, p3, sd3, ex, hx, t0, t1⟩ := of_ok hs sd' (l := [(⟨#[126]⟩ : ByteArray), (⟨#[125]⟩ : ByteArray), (⟨#[97, 126]⟩ : ByteArray), (⟨#[127]⟩ : ByteArray)]) (by simp) q0 (by omega)
          refine ⟨x, p3, sd3, ev_neg c0 (ev_neg c1 (ev_neg c2 (ev_pos c3 ?_))), ?_, t0, by omega⟩
          · rw [ex]; exact ev_bind _ (Ev.now _) (Ev.now _)
          · simp only [List.mem_cons, List.not_mem_nil, or_false] at hx
            rcases hx with rfl | rfl | rfl | rfl <;> decide
        · exact ⟨u, p2, sd2, ev_neg c0 (ev_neg c1 (ev_neg c2 (ev_neg c3 (ev_bind _ eu (Ev.now _))))), by omega, r0, by omega⟩
theorem big_f {l0 l1 : List Int} (h0 : l0.length ≤ maxLen) (h1 : l1.length ≤ maxLen) : ∃ b, laws_big.f l0 l1 = some b ∧ (b = false → (l0.length : Int) ≤ 1048576 ∧ (l1.length : Int) ≤ 1048576) := by
  rw [maxLen_eq] at h0 h1
  unfold laws_big.f
  by_cases c : (l0.length : Int) > 1048576
  · exact ⟨true, if_pos c, by simp⟩
  · refine ⟨_, if_neg c, fun h => ?_⟩
    rw [decide_eq_false_iff_not, w64 (by omega) (by omega)] at h
    omega
theorem bys {l : List Int} (h : (l.length : Int) ≤ 1048576) (hw : ∀ x ∈ l, (Lit.int .u8 x).wf = true) : Bys l := by
  refine ⟨h, fun x hx => ?_⟩
  have := hw x hx
  simp only [Lit.wf, Bool.and_eq_true, decide_eq_true_eq] at this
  exact this
end Go.Proofs.YtephjmmkggcmeaaQ
namespace Go.Proofs.YtephjmmkggcmeaaQ
open Go Go.RowKit Go.Proofs.YtephjmmkggcmeaaW.PrintWords Go.Proofs.YtephjmmkggcmeaaGp Go.Proofs.Ytephjmmkggcmeaa.PG

end Go.Proofs.YtephjmmkggcmeaaQ
namespace Go.Proofs.YtephjmmkggcmeaaQ.CK
open Classical

def el (ls : List (List Int)) (i : Nat) : List Int := ls.getD i []
def Adj (ls : List (List Int)) (i j : Nat) : Prop := ∃ x, x ∈ el ls i ∧ x ∈ el ls j
inductive Reach (ls : List (List Int)) : Nat → Nat → Prop
  | refl (i : Nat) : Reach ls i i
  | step {i j k : Nat} : Reach ls i j → k < ls.length → Adj ls j k → Reach ls i k
theorem Adj.symm {ls : List (List Int)} {i j : Nat} (h : Adj ls i j) : Adj ls j i := by
  obtain ⟨x, h1, h2⟩ := h
  exact ⟨x, h2, h1⟩
theorem Reach.trans {ls : List (List Int)} {i j k : Nat} (h : Reach ls i j) (h' : Reach ls j k) : Reach ls i k := by
  induction h' with
  | refl => exact h
  | step _ hk ha ih => exact .step ih hk ha
theorem Reach.lt {ls : List (List Int)} {i j : Nat} (h : Reach ls i j) (hi : i < ls.length) : j < ls.length := by
  cases h with
  | refl => exact hi
  | step _ hk _ => exact hk
theorem Reach.symm {ls : List (List Int)} {i j : Nat} (h : Reach ls i j) (hi : i < ls.length) : Reach ls j i := by
  induction h with
  | refl => exact .refl _
  | step h1 hk ha ih => exact (Reach.step (.refl _) (h1.lt hi) ha.symm).trans ih
def Own (ls : List (List Int)) (m : Nat) (f : Nat → Int) : Prop := (∀ i, i < m → f i ∈ el ls i) ∧ ∀ i j, i < m → j < m → f i = f j → i = j
noncomputable def cnt (n : Nat) (o : Nat → Int) (v : Int) : Nat := (List.range n).countP (fun i => decide (o i = v))
section
variable {ls : List (List Int)} {n : Nat}
def Path (ls : List (List Int)) (n : Nat) (o : Nat → Int) : Nat → Int → Int → Prop
  | 0, v, w => w = v
  | k + 1, v, w => ∃ d v', d < n ∧ o d = v ∧ v' ∈ el ls d ∧ Path ls n o k v' w
theorem Path.snoc {o : Nat → Int} : ∀ {k : Nat} {v w : Int}, Path ls n o k v w → ∀ {d : Nat} {x : Int}, d < n → o d = w → x ∈ el ls d → Path ls n o (k + 1) v x
  | 0, _, _, h, d, x, hd, ho, hx => ⟨d, x, hd, ho.trans h, hx, rfl⟩
  | _ + 1, _, _, ⟨e, v', he, ho', hv, hp⟩, _, _, hd, ho, hx => ⟨e, v', he, ho', hv, hp.snoc hd ho hx⟩
end

section
variable {ls : List (List Int)}
end
end Go.Proofs.YtephjmmkggcmeaaQ.CK
namespace Go.Proofs.YtephjmmkggcmeaaQ.CK
open Classical
section
variable {ls : List (List Int)}
noncomputable def heads (ls : List (List Int)) : List Nat := (List.range ls.length).filter (fun i => decide (∀ j, Reach ls i j → i ≤ j))
structure Found (ls : List (List Int)) (i : Nat) (F : Nat → Prop) (todo : List Nat) : Prop where
  here : F i
  sound : ∀ j, F j → Reach ls i j ∧ j < ls.length
  sub : ∀ j ∈ todo, F j
  shut : ∀ j k, F j → j ∉ todo → k < ls.length → Adj ls j k → F k
theorem Found.all {i : Nat} {F : Nat → Prop} (h : Found ls i F []) : ∀ j, F j ↔ Reach ls i j := by
  intro j
  refine ⟨fun hj => (h.sound j hj).1, fun hj => ?_⟩
  induction hj with
  | refl => exact h.here
  | step h1 hk ha ih => exact h.shut _ _ ih (by simp) hk ha
end
end Go.Proofs.YtephjmmkggcmeaaQ.CK
namespace Go.Proofs.YtephjmmkggcmeaaQ.CK
open Classical

section
variable {ls : List (List Int)}
structure Bfs (ls : List (List Int)) (k : Int) (i : Nat) (o0 o : List Int) (t : List Nat) : Prop where
  len : o.length = ls.length
  rest : ∀ q, o.getD q 0 ≠ k → o.getD q 0 = o0.getD q 0
  found : Found ls i (fun q => q < ls.length ∧ o.getD q 0 = k) t
  nodup : t.Nodup
structure Outer (ls : List (List Int)) (i : Nat) (o : List Int) (c : Nat) : Prop where
  len : o.length = ls.length
  cnt : c = ((heads ls).filter (fun h => decide (h < i))).length
  told : ∀ (a h : Nat), ((heads ls).filter (fun h => decide (h < i)))[a]? = some h → ∀ q, q < ls.length → (o.getD q 0 = (a : Int) ↔ Reach ls h q)
  free : ∀ q, q < ls.length → (∀ h, h ∈ heads ls → h < i → ¬ Reach ls h q) → o.getD q 0 < 0
end
end Go.Proofs.YtephjmmkggcmeaaQ.CK
namespace Go.Proofs.YtephjmmkggcmeaaQ
open Go Go.RowKit Go.Proofs.YtephjmmkggcmeaaW.PrintWords Go.Proofs.YtephjmmkggcmeaaW.PrintMore Go.Proofs.YtephjmmkggcmeaaGp Go.Proofs.Ytephjmmkggcmeaa.PG
open CK (el)

def zs (l : List Nat) : List Int := l.map fun (n : Nat) => (n : Int)
section
variable {a n : Int}
theorem spec_cuCells_f (ha : 0 ≤ a) (ha' : a ≤ 9999) (s : ByteArray) (hz : s.size ≤ 1000) : Ev (fun k => spec_cuCells.f k a s n) [placeV a 0 s n, placeV a 1 s n] := by
  unfold spec_cuCells.f
  exact ev_bind _ (spec_biPlace_f a 0 s n (by omega) ha (by omega) (by omega) (by omega)) (ev_bind _ (spec_biPlace_f a 1 s n (by omega) ha (by omega) (by omega) (by omega)) (Ev.now _))
theorem impl_cellsOf_f (ha : 0 ≤ a) (ha' : a ≤ 9999) (s : ByteArray) (hz : s.size ≤ 1000) : Ev (fun k => impl_cellsOf.f k a s n) (placeV a 0 s n, placeV a 1 s n) := by
  unfold impl_cellsOf.f
  exact ev_bind _ (impl_place_f a 0 s n (by omega) ha (by omega) (by omega) (by omega)) (ev_bind _ (impl_place_f a 1 s n (by omega) ha (by omega) (by omega) (by omega)) (Ev.now _))
end
end Go.Proofs.YtephjmmkggcmeaaQ
namespace Go.Proofs.YtephjmmkggcmeaaQ.KC
open Go Go.RowKit Go.Proofs.YtephjmmkggcmeaaW.PrintWords Go.Proofs.YtephjmmkggcmeaaW.PrintMore Go.Proofs.YtephjmmkggcmeaaGp Go.Proofs.Ytephjmmkggcmeaa.PG Go.Proofs.YtephjmmkggcmeaaQ

abbrev Str := List UInt8
theorem bl_tri (a b : Str) : Op.bytesLess a b = true ∨ a = b ∨ Op.bytesLess b a = true := by
  have t := bl_total a b
  cases h : Op.bytesLess b a
  · rw [h] at t
    simp only [Bool.not_false, Bool.or_eq_true, beq_iff_eq] at t
    rcases t with t | t
    · exact .inl t
    · exact .inr (.inl t)
  · exact .inr (.inr rfl)
theorem bl_asymm {a b : Str} (h : Op.bytesLess a b = true) : Op.bytesLess b a = false := by
  cases hb : Op.bytesLess b a
  · rfl
  · have := bl_trans _ _ _ h hb
    rw [bl_irrefl] at this
    cases this
theorem ext_of {α : Type} (r : α → α → Prop) (irr : ∀ a, ¬ r a a) (tr : ∀ a b c, r a b → r b c → r a c) : ∀ {l m : List α}, l.Pairwise r → m.Pairwise r → (∀ x, x ∈ l ↔ x ∈ m) → l = m
  | [], [], _, _, _ => rfl
  | [], b :: m, _, _, h => by have := (h b).2 (by simp); simp at this
  | a :: l, [], _, _, h => by have := (h a).1 (by simp); simp at this
  | a :: l, b :: m, hl, hm, h => by
    obtain ⟨ha, hl'⟩ := List.pairwise_cons.1 hl
    obtain ⟨hb, hm'⟩ := List.pairwise_cons.1 hm
    have e : a = b := by
      rcases List.mem_cons.1 ((h a).1 (by simp)) with e | ia
      · exact e
      · rcases List.mem_cons.1 ((h b).2 (by simp)) with e | ib
        · exact e.symm
        · exact absurd (tr _ _ _ (ha b ib) (hb a ia)) (irr a)
    subst e
    refine congrArg (a :: ·) (ext_of r irr tr hl' hm' fun x => ?_)
    constructor
    · intro hx
      rcases List.mem_cons.1 ((h x).1 (by simp [hx])) with e | i
      · subst e; exact absurd (ha x hx) (irr x)
      · exact i
    · intro hx
      rcases List.mem_cons.1 ((h x).2 (by simp [hx])) with e | i
      · subst e; exact absurd (hb x hx) (irr x)
      · exact i
theorem bl_lt : ∀ a b : Str, Op.bytesLess a b = true ↔ a < b
  | [], [] => by simp [Op.bytesLess]
  | [], _ :: _ => by simp [Op.bytesLess]
  | _ :: _, [] => by simp [Op.bytesLess]
  | a :: l, b :: m => by
    rw [List.cons_lt_cons_iff]
    simp only [Op.bytesLess, Bool.or_eq_true, Bool.and_eq_true, decide_eq_true_eq, beq_iff_eq, bl_lt l m]
theorem le_bl {a b : Str} : decide (a ≤ b) = true ↔ Op.bytesLess b a = false := by
  rw [decide_eq_true_eq, ← Bool.not_eq_true, bl_lt, List.not_lt]

abbrev SK (l : List ByteArray) : Prop := l.Pairwise fun a b => lessS a b = true
theorem insK_mem {x y : ByteArray} : ∀ {l : List ByteArray}, y ∈ insK x l ↔ y = x ∨ y ∈ l
  | [] => by simp [insK]
  | z :: t => by
    unfold insK
    split
    · rw [List.mem_cons, insK_mem, List.mem_cons]
      constructor
      · rintro (h | h | h)
        · exact .inr (.inl h)
        · exact .inl h
        · exact .inr (.inr h)
      · rintro (h | h | h)
        · exact .inr (.inl h)
        · exact .inl h
        · exact .inr (.inr h)
    · split
      · rename_i e
        rw [List.mem_cons]
        constructor
        · intro h; exact .inr h
        · rintro (h | h)
          · exact .inl (h.trans e.symm)
          · exact h
      · simp [List.mem_cons]
theorem insK_sorted {x : ByteArray} : ∀ {l : List ByteArray}, SK l → SK (insK x l)
  | [], _ => by simp [insK]
  | z :: t, h => by
    obtain ⟨h1, h2⟩ := List.pairwise_cons.1 h
    unfold insK
    split
    · rename_i c
      refine List.pairwise_cons.2 ⟨fun y hy => ?_, insK_sorted h2⟩
      rcases insK_mem.1 hy with rfl | hy
      · exact c
      · exact h1 y hy
    · split
      · exact h
      · rename_i c e
        have hx : lessS x z = true := by
          rcases lessS_total z x (by simpa using c) with t | t
          · exact t
          · exact absurd t e
        refine List.pairwise_cons.2 ⟨fun y hy => ?_, h⟩
        rcases List.mem_cons.1 hy with rfl | hy
        · exact hx
        · exact lessS_trans hx (h1 y hy)
def setK (M : List ByteArray) (acc : List ByteArray) : List ByteArray := M.foldl (fun a x => insK x a) acc
theorem setK_ok : ∀ (M acc : List ByteArray), SK acc → SK (setK M acc) ∧ ∀ x, x ∈ setK M acc ↔ x ∈ acc ∨ x ∈ M
  | [], acc, h => ⟨h, fun x => by simp [setK]⟩
  | m :: M, acc, h => by
    obtain ⟨h1, h2⟩ := setK_ok M (insK m acc) (insK_sorted h)
    refine ⟨h1, fun x => ?_⟩
    show x ∈ setK M (insK m acc) ↔ _
    rw [h2, insK_mem, List.mem_cons]
    constructor
    · rintro ((h | h) | h)
      · exact .inr (.inl h)
      · exact .inl h
      · exact .inr (.inr h)
    · rintro (h | h | h)
      · exact .inl (.inr h)
      · exact .inl (.inl h)
      · exact .inr h
theorem sk_ext {a b : List ByteArray} (h1 : SK a) (h2 : SK b) (h : ∀ x, x ∈ a ↔ x ∈ b) : a = b :=
  ext_of (fun a b => lessS a b = true) (fun a => by rw [lessS_irrefl]; simp) (fun _ _ _ h k => lessS_trans h k) h1 h2 h
theorem bytes_le_trans (a b c : Str) (h1 : decide (a ≤ b) = true) (h2 : decide (b ≤ c) = true) : decide (a ≤ c) = true := by
  rw [le_bl] at *
  cases h : Op.bytesLess c a
  · rfl
  · rcases bl_tri a b with t | t | t
    · rw [bl_trans _ _ _ h t] at h2; cases h2
    · subst t; rw [h] at h2; cases h2
    · rw [t] at h1; cases h1
theorem bytes_le_total (a b : Str) : (decide (a ≤ b) || decide (b ≤ a)) = true := by
  rw [Bool.or_eq_true, le_bl, le_bl]
  cases h : Op.bytesLess b a
  · exact .inl rfl
  · exact .inr (bl_asymm h)
theorem sortS_perm (l : List ByteArray) : (sortS l).Perm l := by
  have h := (List.mergeSort_perm (bytesL l) (fun x y : Str => decide (x ≤ y))).map (fun b => (⟨b.toArray⟩ : ByteArray))
  refine h.trans ?_
  have e : (bytesL l).map (fun b => (⟨b.toArray⟩ : ByteArray)) = l := by
    unfold bytesL
    rw [List.map_map]
    exact (List.map_congr_left fun _ _ => by simp).trans (List.map_id l)
  rw [e]
theorem sortS_le (l : List ByteArray) : (sortS l).Pairwise fun a b => lessS b a = false := by
  have hp := List.pairwise_mergeSort (le := fun x y : Str => decide (x ≤ y)) (fun a b c => bytes_le_trans a b c) (fun a b => bytes_le_total a b) (bytesL l)
  refine List.pairwise_map.2 (hp.imp fun {a b} hab => ?_)
  unfold lessS
  rw [tl, tl]
  simpa using le_bl.1 hab
theorem sk_nodup {l : List ByteArray} (h : SK l) : l.Nodup := h.imp fun {a b} h e => by rw [e, lessS_irrefl] at h; cases h
theorem sortS_sk {l : List ByteArray} (h : l.Nodup) : SK (sortS l) := by
  have hn : (sortS l).Nodup := (sortS_perm l).nodup_iff.2 h
  refine ((sortS_le l).and hn).imp fun {a b} hab => ?_
  rcases lessS_total b a hab.1 with t | t
  · exact t
  · exact absurd t.symm hab.2
theorem sortS_sk_iff {l : List ByteArray} : SK (sortS l) ↔ l.Nodup := ⟨fun h => (sortS_perm l).nodup_iff.1 (sk_nodup h), sortS_sk⟩
theorem sortS_eq {l m : List ByteArray} (h : l.Perm m) (hn : l.Nodup) : sortS l = sortS m := by
  refine sk_ext (sortS_sk hn) (sortS_sk (h.nodup_iff.1 hn)) fun x => ?_
  rw [(sortS_perm l).mem_iff, (sortS_perm m).mem_iff, h.mem_iff]
theorem insK_has (s : ByteArray) : ∀ {l : List ByteArray}, SK l → s ∈ l → insK s l = l
  | z :: t, h, hs => by
    obtain ⟨h1, h2⟩ := List.pairwise_cons.1 h
    unfold insK
    split
    · rename_i c
      rcases List.mem_cons.1 hs with e | hs
      · rw [e, lessS_irrefl] at c; cases c
      · rw [insK_has s h2 hs]
    · split
      · rfl
      · rename_i c e
        have hx : lessS s z = true := by
          rcases lessS_total z s (by simpa using c) with t | t
          · exact t
          · exact absurd t e
        rcases List.mem_cons.1 hs with d | d
        · exact absurd d.symm e
        · have := lessS_trans hx (h1 s d)
          rw [lessS_irrefl] at this
          cases this
theorem insK_perm (s : ByteArray) : ∀ {l : List ByteArray}, SK l → s ∉ l → (insK s l).Perm (s :: l)
  | [], _, _ => by simp [insK]
  | z :: t, h, hs => by
    obtain ⟨h1, h2⟩ := List.pairwise_cons.1 h
    unfold insK
    split
    · exact ((insK_perm s h2 (fun m => hs (by simp [m]))).cons z).trans (List.Perm.swap _ _ _)
    · split
      · rename_i c e
        exact absurd (by simp [e]) hs
      · exact List.Perm.refl _
theorem setK_le : ∀ (M acc : List ByteArray), SK acc → (setK M acc).length ≤ acc.length + M.length
  | [], acc, _ => by simp [setK]
  | m :: M, acc, h => by
    have := setK_le M (insK m acc) (insK_sorted h)
    have e := insK_len m acc
    show (setK M (insK m acc)).length ≤ _
    rw [List.length_cons]
    omega
theorem setK_size : ∀ (M acc : List ByteArray), SK acc → ((setK M acc).length = acc.length + M.length ↔ M.Nodup ∧ ∀ x ∈ M, x ∉ acc)
  | [], acc, _ => by simp [setK]
  | m :: M, acc, h => by
    have hs := insK_sorted (x := m) h
    have IH := setK_size M (insK m acc) hs
    have hle := setK_le M (insK m acc) hs
    show (setK M (insK m acc)).length = _ ↔ _
    rw [List.length_cons, List.nodup_cons]
    by_cases d : m ∈ acc
    · have e := congrArg List.length (insK_has m h d)
      constructor
      · intro q; omega
      · intro q; exact absurd d (q.2 m (by simp))
    · have e := (insK_perm m h d).length_eq
      rw [List.length_cons] at e
      rw [e] at IH
      constructor
      · intro q
        obtain ⟨q1, q2⟩ := IH.1 (by omega)
        refine ⟨⟨fun hm => q2 m hm (insK_mem.2 (.inl rfl)), q1⟩, fun x hx => ?_⟩
        rcases List.mem_cons.1 hx with rfl | hx
        · exact d
        · exact fun hx2 => q2 x hx (insK_mem.2 (.inr hx2))
      · rintro ⟨⟨q1, q2⟩, q3⟩
        have := IH.2 ⟨q2, fun x hx hx2 => by
          rcases insK_mem.1 hx2 with rfl | hx2
          · exact q1 hx
          · exact q3 x (by simp [hx]) hx2⟩
        omega
theorem keysFrom_iff : ∀ (l : List ByteArray) (p : Option ByteArray), keysFrom p l = true ↔ (∀ s ∈ l, isKeyB s = true) ∧ SK l ∧ ∀ q, p = some q → ∀ s ∈ l, lessS q s = true
  | [], p => by simp [keysFrom]
  | x :: t, p => by
    simp only [keysFrom, Bool.and_eq_true]
    rw [keysFrom_iff t (some x), show SK (x :: t) ↔ _ from List.pairwise_cons]
    constructor
    · rintro ⟨⟨h1, h2⟩, h3, h4, h5⟩
      refine ⟨fun s hs => ?_, ⟨h5 x rfl, h4⟩, fun q e s hs => ?_⟩
      · rcases List.mem_cons.1 hs with rfl | hs
        · exact h1
        · exact h3 s hs
      · subst e
        rcases List.mem_cons.1 hs with rfl | hs
        · exact h2
        · exact lessS_trans h2 (h5 x rfl s hs)
    · rintro ⟨h1, ⟨h2, h3⟩, h4⟩
      refine ⟨⟨h1 x (by simp), ?_⟩, fun s hs => h1 s (by simp [hs]), h3, fun q e => by cases e; exact h2⟩
      cases p with
      | none => rfl
      | some q => exact h4 q rfl x (by simp)
theorem areKeys_iff {l : List ByteArray} : areKeysB l = true ↔ (∀ s ∈ l, isKeyB s = true) ∧ SK l ∧ l.length ≤ 40 := by
  unfold areKeysB
  rw [Bool.and_eq_true, keysFrom_iff, decide_eq_true_eq]
  constructor
  · rintro ⟨⟨h1, h2, _⟩, h3⟩; exact ⟨h1, h2, by omega⟩
  · rintro ⟨h1, h2, h3⟩; exact ⟨⟨h1, h2, fun _ e => by cases e⟩, by omega⟩
theorem keysFrom_none {l : List ByteArray} : areKeysB (sortS l) = true ↔ (∀ s ∈ l, isKeyB s = true) ∧ l.Nodup ∧ l.length ≤ 40 := by
  rw [areKeys_iff, sortS_sk_iff, (sortS_perm l).length_eq]
  constructor
  · rintro ⟨h1, h2⟩; exact ⟨fun s hs => h1 s ((sortS_perm l).mem_iff.2 hs), h2⟩
  · rintro ⟨h1, h2⟩; exact ⟨fun s hs => h1 s ((sortS_perm l).mem_iff.1 hs), h2⟩
abbrev emp : ByteArray := ⟨#[]⟩
theorem tl_emp {s : ByteArray} : s.toList = ([] : List UInt8) ↔ s = emp := by
  rw [tl]
  constructor
  · intro h
    refine ByteArray.ext (Array.toList_inj.1 ?_)
    rw [h]
  · intro h; rw [h]
theorem key_ne {s : ByteArray} (h : isKeyB s = true) : s ≠ emp := by
  rintro rfl
  have := (isKeyB_size h).1
  simp [ByteArray.size] at this
def nz (l : List ByteArray) : List ByteArray := l.filter fun s => decide (s ≠ emp)
theorem nz_app (l m : List ByteArray) : nz (l ++ m) = nz l ++ nz m := by simp [nz]
theorem nz_nil : nz [] = [] := rfl
theorem nz_mem {l : List ByteArray} {s : ByteArray} : s ∈ nz l ↔ s ∈ l ∧ s ≠ emp := by simp [nz]
theorem nz_cons_emp (l : List ByteArray) : nz (emp :: l) = nz l := by simp [nz]
theorem nz_cons {s : ByteArray} (h : s ≠ emp) (l : List ByteArray) : nz (s :: l) = s :: nz l := by simp [nz, h]
theorem nz_id {l : List ByteArray} (h : ∀ s ∈ l, s ≠ emp) : nz l = l := by
  unfold nz
  rw [List.filter_eq_self]
  intro s hs
  simpa using h s hs
theorem nz_len (l : List ByteArray) : (nz l).length ≤ l.length := List.length_filter_le _ _
theorem nz_perm {l m : List ByteArray} (h : l.Perm m) : (nz l).Perm (nz m) := h.filter _
theorem set_perm : ∀ {l : List ByteArray} {i : Nat} (h : i < l.length) (x : ByteArray), (l[i] :: l.set i x).Perm (x :: l)
  | y :: t, 0, _, x => by simpa using List.Perm.swap x y t
  | y :: t, i + 1, h, x => by
    have := set_perm (l := t) (i := i) (by simpa using h) x
    simp only [List.getElem_cons_succ, List.set_cons_succ]
    exact (List.Perm.swap _ _ _).trans ((this.cons y).trans (List.Perm.swap _ _ _))
theorem set_in {l : List ByteArray} {i : Nat} (h : i < l.length) {x : ByteArray} (hx : x ≠ emp) (he : l[i] = emp) : (nz (l.set i x)).Perm (x :: nz l) := by
  have := nz_perm (set_perm h x)
  rw [he, nz_cons_emp, nz_cons hx] at this
  exact this
theorem set_swap {l : List ByteArray} {i : Nat} (h : i < l.length) {x : ByteArray} (hx : x ≠ emp) (he : l[i] ≠ emp) : (l[i] :: nz (l.set i x)).Perm (x :: nz l) := by
  have := nz_perm (set_perm h x)
  rw [nz_cons he, nz_cons hx] at this
  exact this
end Go.Proofs.YtephjmmkggcmeaaQ.KC
namespace Go.Proofs.YtephjmmkggcmeaaQ.KC
open Go Go.RowKit Go.Proofs.YtephjmmkggcmeaaW.PrintWords Go.Proofs.YtephjmmkggcmeaaW.PrintMore Go.Proofs.YtephjmmkggcmeaaGp Go.Proofs.Ytephjmmkggcmeaa.PG Go.Proofs.YtephjmmkggcmeaaQ

def cel (a n : Int) (s : ByteArray) (i : Int) : Bool := decide (placeV a 0 s n = i) || decide (placeV a 1 s n = i)
def slotsB (a n : Int) : List ByteArray → Nat → Bool
  | [], _ => true
  | s :: t, i => (decide (s = emp) || (isKeyB s && cel a n s (i : Int))) && slotsB a n t (i + 1)
structure Tab (S T : List ByteArray) : Prop where
  s : S.length ≤ 1000
  t : T.length ≤ 1000
  zs : ∀ x ∈ S, x.size ≤ 1000
  zt : ∀ x ∈ T, x.size ≤ 1000
def goodB (a : Int) (S T : List ByteArray) : Bool :=
  decide (0 ≤ a ∧ a ≤ 9999) && (decide (1 ≤ (S.length : Int) ∧ (S.length : Int) ≤ 64) && (decide ((T.length : Int) ≤ 4) && (areKeysB T && (slotsB a (S.length : Int) S 0 && areKeysB (sortS (nz S ++ T))))))

theorem clone_S {l : List ByteArray} (h : l.length ≤ 1000) : slices_Clone_string_string.f l = some l := by
  unfold slices_Clone_string_string.f
  simp only [Option.bind_some]
  rw [if_pos (by simp; omega)]
  simp
theorem own_S {l : List ByteArray} (h : l.length ≤ 1000) : spec_l1OwnS.f l = some l := by
  unfold spec_l1OwnS.f
  simp only [Option.bind_some]
  rw [if_pos (by simp; omega)]
  simp
theorem fullS_nz : ∀ l, fullS l = nz l
  | [] => rfl
  | x :: t => by
    have ih := fullS_nz t
    unfold fullS bytesL at ih ⊢
    rw [List.map_cons, List.filter_cons]
    by_cases c : x = emp
    · subst c
      rw [nz_cons_emp, ← ih]
      simp
    · rw [nz_cons c, ← ih]
      have : (!(x.data.toList == [])) = true := by
        rw [Bool.not_eq_true', beq_eq_false_iff_ne]
        exact fun e => c (by rw [← tl] at e; exact tl_emp.1 e)
      rw [if_pos this, List.map_cons]
theorem impl_all_f (a : Int) {S T : List ByteArray} (h : Tab S T) (h0 : 0 < S.length) : impl_Cuckoo_all.f a S T = some (nz S ++ T) := by
  have := nz_len S
  have h1 := h.s
  have h2 := h.t
  unfold impl_Cuckoo_all.f slices_DeleteFunc_string_string_at_impl_Cuckoo_all_1.f
  rw [clone_S h.s]
  simp only [Option.bind_some, fullS_nz]
  rw [if_pos h0, Option.bind_some, if_pos (by omega)]
theorem nz_size {S : List ByteArray} (h : ∀ x ∈ S, x.size ≤ 1000) : ∀ x ∈ nz S, x.size ≤ 1000 := fun x hx => h x (nz_mem.1 hx).1
theorem all_sorted (a : Int) {S T : List ByteArray} (h : Tab S T) (h0 : 0 < S.length) : Ev (fun k => (impl_Cuckoo_all.f a S T).bind fun t => (slices_Sort_string_string.f t).bind fun u => (impl_AreKeys.f k u).bind fun b => some b) (areKeysB (sortS (nz S ++ T))) := by
  have h1 := h.s
  have h2 := h.t
  have h3 := nz_len S
  have hl : (nz S ++ T).length ≤ 2000 := by rw [List.length_append]; omega
  rw [impl_all_f a h h0]
  simp only [Option.bind_some]
  unfold slices_Sort_string_string.f
  rw [if_pos (by omega)]
  simp only [Option.bind_some]
  refine ev_bind _ (impl_AreKeys_f _ (by rw [(sortS_perm _).length_eq]; omega) (fun s hs => ?_)) (Ev.now _)
  rw [(sortS_perm _).mem_iff] at hs
  rcases List.mem_append.1 hs with hs | hs
  · have := nz_size h.zs s hs; omega
  · have := h.zt s hs; omega
section
variable {a : Int} {S T : List ByteArray}
theorem impl_IsCuckoo_l0 (ha : 0 ≤ a ∧ a ≤ 9999) (h : Tab S T) (h0 : 0 < S.length) : ∀ (t pre : List ByteArray), S = pre ++ t →
    Ev (fun k => impl_IsCuckoo.l0 k S (S.length : Int) (pre.length : Int) a S T) (slotsB a (S.length : Int) t pre.length && areKeysB (sortS (nz S ++ T))) := by
  intro t
  induction t with
  | nil =>
    intro pre e
    refine ev_succ ?_
    simp only [impl_IsCuckoo.l0, slotsB, Bool.true_and]
    exact ev_neg (by rw [e]; exact not_lt_end) (all_sorted a h h0)
  | cons x t ih =>
    intro pre e
    have h1 := h.s
    have hm : ((pre.length : Nat) : Int) < (S.length : Int) := by rw [e]; exact lt_mid
    have hg : rdOf ByteArray.empty S (pre.length : Int) = x := by rw [e]; exact rdOf_mid
    have hx : x.size ≤ 1000 := h.zs x (by rw [e]; simp)
    have IH := ih (pre ++ [x]) (by rw [e]; simp)
    rw [len_one] at IH
    have e2 : slotsB a (S.length : Int) (x :: t) pre.length = ((decide (x = emp) || (isKeyB x && cel a (S.length : Int) x (pre.length : Int))) && slotsB a (S.length : Int) t (pre ++ [x]).length) := by simp [slotsB]
    refine ev_succ ?_
    simp only [impl_IsCuckoo.l0, hg]
    rw [winc (by omega), e2]
    refine ev_pos hm (ev_pos (by omega) (ev_pos hm ?_))
    by_cases c : x = emp
    · rw [decide_eq_true c, Bool.true_or, Bool.true_and]
      exact ev_pos (tl_emp.2 c) IH
    · rw [decide_eq_false c, Bool.false_or]
      refine ev_neg (fun q => c (tl_emp.1 q)) (ev_bind _ (impl_IsKey_f x (by omega)) ?_)
      cases hk : isKeyB x
      · exact ev_neg (by simp) (ev_some (by simp))
      · rw [Bool.true_and]
        refine ev_pos rfl (ev_bind _ (impl_cellsOf_f ha.1 ha.2 x hx) ?_)
        unfold cel
        by_cases d : placeV a 0 x (S.length : Int) = (pre.length : Int)
        · rw [decide_eq_true d, Bool.true_or, Bool.true_and]
          exact ev_pos d IH
        · rw [decide_eq_false d, Bool.false_or]
          refine ev_neg d ?_
          by_cases d2 : placeV a 1 x (S.length : Int) = (pre.length : Int)
          · rw [decide_eq_true d2, Bool.true_and]
            exact ev_pos d2 IH
          · rw [decide_eq_false d2]
            exact ev_neg d2 (ev_some (by simp))
theorem impl_IsCuckoo_f (h : Tab S T) : Ev (fun k => impl_IsCuckoo.f k a S T) (goodB a S T) := by
  have h1 := h.s
  have h2 := h.t
  have jt : Ev (fun k => impl_IsCuckoo.j0 k true a S T) false := ev_succ (by simp only [impl_IsCuckoo.j0]; exact ev_pos (by trivial) (Ev.now _))
  unfold impl_IsCuckoo.f impl_isSeed.f impl_cellsOk.f goodB
  simp only [impl_in, Option.bind_some]
  by_cases c : 0 ≤ a ∧ a ≤ 9999
  · rw [decide_eq_true c, Bool.true_and]
    refine ev_pos rfl ?_
    by_cases d : 1 ≤ (S.length : Int) ∧ (S.length : Int) ≤ 64
    · rw [decide_eq_true d, Bool.true_and]
      refine ev_pos rfl ?_
      by_cases e : (T.length : Int) ≤ 4
      · rw [decide_eq_true e, Bool.true_and]
        refine ev_neg (by omega) (ev_bind _ (impl_AreKeys_f T (by omega) (fun s hs => by have := h.zt s hs; omega)) ?_)
        cases hk : areKeysB T
        · exact jt
        · rw [Bool.true_and]
          refine ev_succ ?_
          simp only [impl_IsCuckoo.j0]
          exact ev_neg (by simp) (impl_IsCuckoo_l0 c h (by omega) S [] rfl)
      · rw [decide_eq_false e, Bool.false_and]
        exact ev_pos (by omega) jt
    · rw [decide_eq_false d, Bool.false_and]
      exact ev_neg (by simp) jt
  · rw [decide_eq_false c, Bool.false_and]
    exact ev_neg (by simp) jt
theorem spec_cuAll_l0 (X : List ByteArray) (hX : X.length ≤ 2000) : ∀ (t pre : List ByteArray) (acc : List ByteArray), X = pre ++ t → acc.length ≤ pre.length →
    Ev (fun k => spec_cuAll.l0 k acc X (X.length : Int) (pre.length : Int)) (setK (nz t) acc) := by
  intro t
  induction t with
  | nil =>
    intro pre acc e _
    refine ev_succ ?_
    simp only [spec_cuAll.l0]
    exact ev_neg (by rw [e]; exact not_lt_end) (Ev.now _)
  | cons x t ih =>
    intro pre acc e ha
    have hp : pre.length ≤ 2000 := by rw [e, List.length_append] at hX; omega
    have hm : ((pre.length : Nat) : Int) < (X.length : Int) := by rw [e]; exact lt_mid
    have hg : rdOf ByteArray.empty X (pre.length : Int) = x := by rw [e]; exact rdOf_mid
    refine ev_succ ?_
    simp only [spec_cuAll.l0, hg]
    rw [winc (by omega)]
    refine ev_pos hm (ev_pos (by omega) (ev_pos hm ?_))
    by_cases c : x = emp
    · have IH := ih (pre ++ [x]) acc (by rw [e]; simp) (by simp; omega)
      rw [len_one] at IH
      subst c
      rw [nz_cons_emp]
      exact ev_pos (tl_emp.2 rfl) IH
    · have IH := ih (pre ++ [x]) (insK x acc) (by rw [e]; simp) (by have := insK_len x acc; simp; omega)
      rw [len_one] at IH
      rw [nz_cons c]
      exact ev_neg (fun q => c (tl_emp.1 q)) (ev_bind _ (putS_f acc x (by omega)) IH)
theorem spec_cuAll_f (a : Int) (h : Tab S T) : Ev (fun k => spec_cuAll.f k a S T) (setK (nz (S ++ T)) []) := by
  have h1 := h.s
  have h2 := h.t
  unfold spec_cuAll.f
  rw [own_S h.s]
  simp only [Option.bind_some]
  exact ev_pos (by omega) (spec_cuAll_l0 (S ++ T) (by rw [List.length_append]; omega) (S ++ T) [] [] rfl (by simp))
theorem spec_has2 (x y i : Int) : Ev (fun k => spec_l1Has.f k [x, y] i) (decide (x = i) || decide (y = i)) := by
  unfold spec_l1Has.f
  refine ev_succ ?_
  simp only [spec_l1Has.l0]
  refine ev_pos (by simp) (ev_pos (by omega) (ev_pos (by simp) ?_))
  by_cases c : x = i
  · rw [decide_eq_true c, Bool.true_or]
    exact ev_pos (by simpa [rd] using c) (Ev.now _)
  · rw [decide_eq_false c, Bool.false_or]
    refine ev_neg (by simpa [rd] using c) (ev_succ ?_)
    simp only [spec_l1Has.l0]
    rw [w64 (x := 0 + 1) (by omega) (by omega)]
    refine ev_pos (by simp) (ev_pos (by omega) (ev_pos (by simp) ?_))
    by_cases d : y = i
    · rw [decide_eq_true d]
      exact ev_pos (by simpa [rd] using d) (Ev.now _)
    · rw [decide_eq_false d]
      refine ev_neg (by simpa [rd] using d) (ev_succ ?_)
      simp only [spec_l1Has.l0]
      rw [w64 (x := 0 + 1 + 1) (by omega) (by omega)]
      exact ev_neg (by simp) (Ev.now _)
theorem slotsB_keys {a n : Int} : ∀ (t : List ByteArray) (i : Nat), slotsB a n t i = true → ∀ s ∈ nz t, isKeyB s = true
  | [], _, _, s, hs => by simp [nz] at hs
  | x :: t, i, h, s, hs => by
    simp only [slotsB, Bool.and_eq_true, Bool.or_eq_true, decide_eq_true_eq] at h
    obtain ⟨hs1, hs2⟩ := nz_mem.1 hs
    rcases List.mem_cons.1 hs1 with rfl | hs1
    · rcases h.1 with c | c
      · exact absurd c hs2
      · exact c.1
    · exact slotsB_keys t (i + 1) h.2 s (nz_mem.2 ⟨hs1, hs2⟩)
theorem spec_cuGood_l0 (ha : 0 ≤ a ∧ a ≤ 9999) (h : Tab S T) (hT : areKeysB T = true) : ∀ (t pre : List ByteArray), S = pre ++ t →
    Ev (fun k => spec_cuGood.l0 k ((T.length + (nz pre).length : Nat) : Int) S (S.length : Int) (pre.length : Int) a S T) (slotsB a (S.length : Int) t pre.length && (decide ((nz S ++ T).length ≤ 40) && decide ((setK (nz S ++ T) []).length = (nz S ++ T).length))) := by
  intro t
  have h1 := h.s
  have h2 := h.t
  induction t with
  | nil =>
    intro pre e
    refine ev_succ ?_
    simp only [spec_cuGood.l0, slotsB, Bool.true_and]
    refine ev_neg (by rw [e]; exact not_lt_end) ?_
    obtain rfl : S = pre := by rw [e, List.append_nil]
    have hc := spec_cuAll_f a h
    rw [nz_app, nz_id (fun s hs => key_ne (areKeysB_all hT s hs))] at hc
    by_cases c : (nz S ++ T).length ≤ 40
    · rw [decide_eq_true c, Bool.true_and]
      rw [List.length_append] at c
      refine ev_pos (by omega) (ev_bind _ hc (ev_some ?_))
      rw [Bool.eq_iff_iff, beq_iff_eq, decide_eq_true_eq, List.length_append]
      omega
    · rw [decide_eq_false c, Bool.false_and]
      rw [List.length_append] at c
      exact ev_neg (by omega) (Ev.now _)
  | cons x t ih =>
    intro pre e
    have hp : pre.length ≤ 1000 := by have := h1; rw [e, List.length_append] at this; omega
    have hnp := nz_len pre
    have hm : ((pre.length : Nat) : Int) < (S.length : Int) := by rw [e]; exact lt_mid
    have hg : rdOf ByteArray.empty S (pre.length : Int) = x := by rw [e]; exact rdOf_mid
    have hx : x.size ≤ 1000 := h.zs x (by rw [e]; simp)
    have IH := ih (pre ++ [x]) (by rw [e]; simp)
    rw [len_one] at IH
    have e2 : slotsB a (S.length : Int) (x :: t) pre.length = ((decide (x = emp) || (isKeyB x && cel a (S.length : Int) x (pre.length : Int))) && slotsB a (S.length : Int) t (pre ++ [x]).length) := by simp [slotsB]
    refine ev_succ ?_
    simp only [spec_cuGood.l0, hg]
    rw [winc (by omega), winc (by omega), e2]
    refine ev_pos hm (ev_pos (by omega) (ev_pos hm ?_))
    rw [nz_app] at IH
    by_cases c : x = emp
    · rw [decide_eq_true c, Bool.true_or, Bool.true_and]
      rw [c, nz_cons_emp, nz_nil, List.append_nil, ← c] at IH
      exact ev_pos (tl_emp.2 c) IH
    · rw [decide_eq_false c, Bool.false_or]
      rw [nz_cons c, nz_nil, List.length_append, List.length_singleton, ← Nat.add_assoc] at IH
      refine ev_neg (fun q => c (tl_emp.1 q)) (ev_bind _ (spec_IsKey_f x (by omega)) ?_)
      cases hk : isKeyB x
      · exact ev_neg (by simp) (ev_some (by simp))
      · rw [Bool.true_and]
        refine ev_pos rfl (ev_bind _ (spec_cuCells_f ha.1 ha.2 x hx) (ev_bind _ (spec_has2 _ _ _) ?_))
        show Ev _ (cel a (S.length : Int) x (pre.length : Int) && _ && _)
        have ec : (decide (placeV a 0 x (S.length : Int) = (pre.length : Int)) || decide (placeV a 1 x (S.length : Int) = (pre.length : Int))) = cel a (S.length : Int) x (pre.length : Int) := rfl
        rw [ec]
        cases hc : cel a (S.length : Int) x (pre.length : Int)
        · exact ev_neg (by simp) (ev_some (by simp))
        · rw [Bool.true_and]
          exact ev_pos rfl IH
theorem spec_cuGood_f (h : Tab S T) : Ev (fun k => spec_cuGood.f k a S T) (goodB a S T) := by
  have h1 := h.s
  have h2 := h.t
  have jt : Ev (fun k => spec_cuGood.j0 k true a S T) false := ev_succ (by simp only [spec_cuGood.j0]; exact ev_pos (by trivial) (Ev.now _))
  unfold spec_cuGood.f spec_cuSize.f goodB
  simp only [spec_in, Option.bind_some]
  by_cases c : 0 ≤ a ∧ a ≤ 9999
  · rw [decide_eq_true c, Bool.true_and, if_pos rfl]
    simp only [Option.bind_some]
    by_cases d : 1 ≤ (S.length : Int) ∧ (S.length : Int) ≤ 64
    · rw [decide_eq_true d, Bool.true_and]
      refine ev_pos rfl ?_
      by_cases e : (T.length : Int) ≤ 4
      · rw [decide_eq_true e, Bool.true_and]
        refine ev_neg (by omega) (ev_bind _ (spec_biKeys_f T (by omega) (fun s hs => by have := h.zt s hs; omega)) ?_)
        cases hk : areKeysB T
        · exact jt
        · rw [Bool.true_and]
          refine ev_succ ?_
          simp only [spec_cuGood.j0]
          refine ev_neg (by simp) ?_
          have := spec_cuGood_l0 c h hk S [] rfl
          rw [nz_nil, List.length_nil, Nat.add_zero] at this
          refine Eq.mp (congrArg _ ?_) this
          by_cases q : slotsB a (S.length : Int) S 0 = true
          · have hkk : ∀ s ∈ nz S ++ T, isKeyB s = true := fun s hs => by
              rcases List.mem_append.1 hs with hs | hs
              · exact slotsB_keys S 0 q s hs
              · exact areKeysB_all hk s hs
            have hz := setK_size (nz S ++ T) [] List.Pairwise.nil
            rw [List.length_nil, Nat.zero_add] at hz
            congr 1
            rw [Bool.eq_iff_iff, Bool.and_eq_true, decide_eq_true_eq, decide_eq_true_eq, keysFrom_none, hz]
            exact ⟨fun g => ⟨hkk, g.2.1, g.1⟩, fun g => ⟨g.2.2, g.2.1, by simp⟩⟩
          · rw [Bool.eq_false_iff.2 q, Bool.false_and, Bool.false_and]
      · rw [decide_eq_false e, Bool.false_and]
        exact ev_pos (by omega) jt
    · rw [decide_eq_false d, Bool.false_and]
      exact ev_neg (by simp) jt
  · rw [decide_eq_false c, Bool.false_and, if_neg (by simp)]
    simp only [Option.bind_some]
    exact ev_neg (by simp) jt
end
end Go.Proofs.YtephjmmkggcmeaaQ.KC
