import Derived.Test.YtpkpjikkfikejaaCD1
-- printed by a program of this session (wip/gp) out of the translation; Lean checks it
namespace Go.Proofs.Ytpkpjikkfikejaa.PD
open Go.RowKit Go.Proofs.YtpkpjikkfikejaaW.PrintWords Go.Proofs.YtpkpjikkfikejaaW.PrintLast Go.Proofs.YtpkpjikkfikejaaW.PrintMore Go.Proofs.YtpkpjikkfikejaaSq
attribute [local go_sem] max2_int min2_int max_two min_two max_three min_three max_four min_four   -- for this text's walks alone
attribute [local go_sem] Go.Proofs.YtpkpjikkfikejaaGp.str_geq Go.Proofs.YtpkpjikkfikejaaGp.str_gtr Go.Proofs.YtpkpjikkfikejaaGp.str_leq
set_option linter.unusedVariables false
set_option linter.unusedSimpArgs false

set_option maxHeartbeats 8000000
set_option maxRecDepth 100000
def spec_fiCount.l0 : Nat → Int → List Int → Int → Int → Int → Int → List Int → Option (Int × Int × List Int × Bool)
  | 0, _, _, _, _, _, _, _ => none
  | k + 1, x2, x27, x28, x29, x236000, x236001, x236002 => if x29 < x28 then (if 0 ≤ x29 then (if x29 < (x27.length : Int) then (if 0 ≤ (rd x27 x29) then (if (rd x27 x29) < (x236002.length : Int) then (if (wrap64 ((rd x236002 (rd x27 x29)) + x2)) < 0 then (some (0, 0, ([] : List Int), false)) else (if (rd x236002 (rd x27 x29)) < 15 then (spec_fiCount.l0 k x2 x27 x28 (wrap64 (x29 + 1)) x236000 x236001 (x236002.set ((rd x27 x29) : Int).toNat (wrap64 ((rd x236002 (rd x27 x29)) + x2)))) else (spec_fiCount.l0 k x2 x27 x28 (wrap64 (x29 + 1)) x236000 x236001 x236002))) else (none)) else (none)) else (none)) else (none)) else (some (x236000, x236001, x236002, true))
def spec_fiCount.f (k : Nat) (a0_0 : Int) (a0_1 : Int) (l0_2 : List Int) (a1 : ByteArray) (a2 : Int) : Option (Int × Int × List Int × Bool) := (spec_l1Own.f l0_2).bind fun t232 => ((spec_fiProbes.f k a0_0 a0_1 (l0_2.length : Int) a1).bind fun t236 => (spec_fiCount.l0 k a2 t236 (t236.length : Int) 0 a0_0 a0_1 t232))
def spec_fiCount.T1 : Bool × List (List Nat × List Nat) := (true, [([], []), ([0], [0]), ([], []), ([2], [2]), ([], []), ([4], [4]), ([5], [5]), ([1, 3, 6], [1, 3, 6]), ([], []), ([8, 7, 6, 0, 1, 2, 3, 4, 5, 6, 7, 8], [7, 8])])
def spec_fiCount.B1 : List Nat := [0, 1, 0, 4, 0, 16, 48, 127, 0, 511]
theorem spec_fiCount.tab1 : rtab .any (opsOf Try.f110 1) = spec_fiCount.T1 := by kernel_rfl
theorem spec_fiCount.bits1 : waitsOk spec_fiCount.T1.2 spec_fiCount.B1 = true := by kernel_rfl
theorem spec_fiCount.calls (k : Nat) (a0_0 : Int) (a0_1 : Int) (A0_2 : Option Addr) (c0_2 : Nat) (l0_2 : List Int) (a1 : ByteArray) (a2 : Int) (r1 : Int) (r2 : Int) (r3 : List Int) (r4 : Bool) (w : World) (hr0_2 : Kd.C (Kd.int .i64) w A0_2 l0_2.length l0_2) (hc0_2 : l0_2.length ≤ c0_2) (h : spec_fiCount.f k a0_0 a0_1 l0_2 a1 a2 = some (r1, r2, r3, r4)) :
    Calls Try.prog 110 #[.agg #[.int .i64 a0_0, .int .i64 a0_1, .slice A0_2 l0_2.length c0_2], .string a1, .int .i64 a2] w fun e w' => ∃ v2_ : Value, e = .returned (.tuple #[.agg #[.int .i64 r1, .int .i64 r2, v2_], .bool r4]) ∧ Kd.R (Kd.int .i64) 3 w' w.heap.size (fun _ => True) v2_ r3 ∧ Below w.heap.size w w' := by
  have hu49 := Try.underlying49; have HR0_2 := am hr0_2; have HC0_2 := am hc0_2; clear hr0_2 hc0_2; have HB := am (Below.refl w.heap.size w); have H : ((spec_l1Own.f l0_2).bind fun t232 => ((spec_fiProbes.f k a0_0 a0_1 (l0_2.length : Int) a1).bind fun t236 => (spec_fiCount.l0 k a2 t236 (t236.length : Int) 0 a0_0 a0_1 t232))) = some (r1, r2, r3, r4) := h; clear h; obtain ⟨t232, A4, H⟩ := ob H; (try dsimp -simprocs only at H); obtain ⟨t236, A5, H⟩ := ob H; (try dsimp -simprocs only at H); have H' := am H; clear H
  go_enter Try.func110, Try.ntmps110
  try go_wp2_with (first | ((with_reducible refine gate_dst (N := 3) rfl ?_); refine bE 3 #[.int .i64 a0_0, .int .i64 a0_1, .slice A0_2 l0_2.length c0_2] 49 ?_; intro gb230 hg w6 hbox hb; have n0_ := Bb HB hb; have n1_ := am (hbox); have n2_ := Gl HB hg; have n3_ := Gl HB hg; clear HB; revert n0_ n1_ n2_ n3_; intro HB BK230 GW230 GE230; clear hb hbox hg) | ((with_reducible refine gate_dst (N := 6) rfl ?_); refine bE 6 #[.int .i64 0, .int .i64 0, .slice none 0 0] 49 ?_; intro gb231 hg w7 hbox hb; have n0_ := Kb BK230 hb; have n1_ := Bc HB hb; have n2_ := am (hbox); have n3_ := Gm HB hg; have n4_ := Gm HB hg; have n5_ := Nl BK230 hg; have n6_ := Ng BK230 hg; clear BK230 HB; revert n0_ n1_ n2_ n3_ n4_ n5_ n6_; intro BK230 HB BK231 GW231 GE231 NB230_231 NB231_230; clear hb hbox hg))
  have n0_ := am (blk_drew BK230.out); have n1_ := am (blk_drew BK231.out); have n2_ := am (below_drew1 HB.out); clear BK230 BK231 HB; revert n0_ n1_ n2_; intro BK230 BK231 HB; refine start_ (n := 10) (S := fun w' => w'.cell? ⟨gb230, 0, none⟩ = some (.int .i64 a0_0) ∧ w'.cell? ⟨gb230, 1, none⟩ = some (.int .i64 a0_1) ∧ w'.cell? ⟨gb230, 2, none⟩ = some (.slice A0_2 l0_2.length c0_2)) (ds := []) (bA 10 0) (by kernel_rfl) rfl rfl ⟨cz BK230 0, cz BK230 1, cz BK230 2⟩ (fun hHeld => ?_); refine with_tabW spec_fiCount.tab1 spec_fiCount.bits1 (fun HT_ HW_ => ?_); generalize w7.drew = w8 at BK230 BK231 HB hHeld ⊢; refine pure_ (i := 0) (N := some 11) (v := ?_) (a' := ?_) (bA 10 1) rfl rfl (any_of HT_.out (by kernel_rfl)) (fun _ _ _ h => h) (Or.inl ⟨by rfl, ?_⟩) ?_ ?_
  rotate_left
  · intro w'
    go_simp
    with_reducible rfl
  rotate_left
  · simp only [aP, i64_w, i32_w]
    rfl
  refine pure_ (i := 2) (N := some 13) (v := ?_) (a' := ?_) (bA 10 5) rfl rfl (any_of HT_.out (by kernel_rfl)) (fun _ _ _ h => h) (Or.inl ⟨by rfl, ?_⟩) ?_ ?_
  rotate_left
  · intro w'
    go_simp
    with_reducible rfl
  rotate_left
  · simp only [aP, i64_w, i32_w]
    rfl
  refine pure_ (i := 4) (N := some 15) (v := ?_) (a' := ?_) (bA 10 21) rfl rfl (any_of HT_.out (by kernel_rfl)) (fun _ _ _ h => h) (Or.inl ⟨by rfl, ?_⟩) ?_ ?_
  rotate_left
  · intro w'
    go_simp
    with_reducible rfl
  rotate_left
  · simp only [aP, i64_w, i32_w]
    rfl
  refine take_ (i := 1) (N := some 12) (v := ?_) (a' := ?_) (bA 10 23) rfl rfl (take_ofW HT_.out HW_.out (by kernel_rfl)) (fun _ _ _ h => h) (Or.inl ⟨by rfl, ?_⟩) hHeld ?_ ?_
  rotate_left
  · rintro w' ⟨s0, s1, s2⟩
    go_simp
    with_reducible rfl
  rotate_left
  · simp only [aP, i64_w, i32_w]
    rfl
  refine take_ (i := 3) (N := some 14) (v := ?_) (a' := ?_) (bA 10 31) rfl rfl (take_ofW HT_.out HW_.out (by kernel_rfl)) (fun _ _ _ h => h) (Or.inl ⟨by rfl, ?_⟩) hHeld ?_ ?_
  rotate_left
  · rintro w' ⟨s0, s1, s2⟩
    go_simp
    with_reducible rfl
  rotate_left
  · simp only [aP, i64_w, i32_w]
    rfl
  refine take_ (i := 5) (N := some 16) (v := ?_) (a' := ?_) (bA 10 63) rfl rfl (take_ofW HT_.out HW_.out (by kernel_rfl)) (fun _ _ _ h => h) (Or.inl ⟨by rfl, ?_⟩) hHeld ?_ ?_
  rotate_left
  · rintro w' ⟨s0, s1, s2⟩
    go_simp
    with_reducible rfl
  rotate_left
  · simp only [aP, i64_w, i32_w]
    rfl
  refine join_ (σ := Value × Nat) 1 (bA 10 511) (fun s_ => [(17, s_.1), (8, .pointer (some ⟨s_.2, 0, none⟩)), (18, .agg #[.int .i64 a0_0, .int .i64 a0_1, s_.1])]) (fun s_ w' => (w'.cell? ⟨gb230, 0, none⟩ = some (.int .i64 a0_0) ∧ w'.cell? ⟨gb230, 1, none⟩ = some (.int .i64 a0_1) ∧ w'.cell? ⟨gb230, 2, none⟩ = some (.slice A0_2 l0_2.length c0_2)) ∧ (Kd.R (Kd.int .i64) 3 w' w.heap.size (fun _ => True) s_.1 t232) ∧ (w'.heap[gb230]? = some (.cells #[.int .i64 a0_0, .int .i64 a0_1, .slice A0_2 l0_2.length c0_2] 49 (0, 0))) ∧ (w'.heap[gb231]? = some (.cells #[.int .i64 0, .int .i64 0, .slice none 0 0] 49 (0, 0))) ∧ (w'.heap[s_.2]? = some (.cells #[.int .i64 0, .int .i64 0, .slice none 0 0] 49 (0, 0))) ∧ (w.heap.size ≤ s_.2) ∧ (w.heap.size ≤ s_.2) ∧ (gb230 ≠ s_.2) ∧ (s_.2 ≠ gb230) ∧ (gb231 ≠ s_.2) ∧ (s_.2 ≠ gb231) ∧ (Below w.heap.size w w')) ?_ ?_
  rotate_left
  · intro hCont
    refine two_ (i := 6) (j := 8) (Ni := some 17) (Nj := some 8) (bA 10 127) (bA 10 319) rfl rfl rfl rfl (two_of HT_.out (by kernel_rfl)) (by decide) (by decide) (fun K hK => ?_) (fun K hK => ?_)
    · skip
      refine gZ Try.func162 #[.slice A0_2 l0_2.length c0_2] ?_
      with_reducible refine (spec_l1Own.calls _ _ l0_2 t232 _ ?side1 ?side2 A4.out).mono ?_
      (case side1 => exact Cz (Kd.C_below HR0_2.out HB.out))
      (case side2 => exact HC0_2.out)
      rintro e w9 ⟨v233, rfl, ho0, hb⟩; refine ⟨_, rfl, ?_⟩; have n0_ := Rm ho0 HB; have n1_ := Kb BK230 hb; have n2_ := Kb BK231 hb; have n3_ := Bc HB hb; clear BK230 BK231 HB; revert n0_ n1_ n2_ n3_; intro HO234 BK230 BK231 HB
      (try clear hb)
      (try clear hb2)
      (try clear hk)
      (try clear hi)
      (try clear ho0)
      obtain ⟨Ao10, co10, eo10⟩ := Kd.R_slice HO234.out
      (first | subst eo10 | (injection eo10 with f1_ f2_ f3_; have f4_ := f1_.symm; have f5_ := f3_.symm; clear f1_ f2_ f3_; subst f4_; subst f5_))
      refine hK.out _ _ ⟨cz BK230 0, cz BK230 1, cz BK230 2⟩ (fun hHeld => ?_); clear hK K; refine norm_ (a' := ?_) ?_ ?_
      rotate_left
      · show Act.put _ (some 17) _ = _
        simp only [aP, i64_w, i32_w]
        rfl
      refine pure_ (i := 7) (N := some 18) (v := ?_) (a' := ?_) (bA 10 255) rfl rfl (any_of HT_.out (by kernel_rfl)) (fun _ _ _ h => h) (Or.inl ⟨by rfl, ?_⟩) ?_ ?_
      rotate_left
      · intro w'
        go_simp
        with_reducible rfl
      rotate_left
      · simp only [aP, i64_w, i32_w]
        rfl
      refine oZ 8 (some 8) (bA 10 511) HT_.out (fun K hK => ?_); refine box_step ?hg (N := 8) ?hd (cs := #[.int .i64 0, .int .i64 0, .slice none 0 0]) (t := 49) ?hr ?_; (case hd => rfl); (case hg => rfl); (case hr => first | (go_simp; done) | (go_simp; rfl)); intro gb235 hg w11 hbox hb; have n0_ := Rb HO234 hb; have n1_ := Kb BK230 hb; have n2_ := Kb BK231 hb; have n3_ := Bc HB hb; have n4_ := am (hbox); have n5_ := Gm HB hg; have n6_ := Gm HB hg; have n7_ := Nl BK230 hg; have n8_ := Ng BK230 hg; have n9_ := Nl BK231 hg; have n10_ := Ng BK231 hg; clear HO234 BK230 BK231 HB; revert n0_ n1_ n2_ n3_ n4_ n5_ n6_ n7_ n8_ n9_ n10_; intro HO234 BK230 BK231 HB BK235 GW235 GE235 NB230_235 NB235_230 NB231_235 NB235_231; clear hb hbox hg; refine hK.out _ _ ⟨cz BK230 0, cz BK230 1, cz BK230 2⟩ (fun hHeld => ?_); clear hK K; refine norm_ (a' := ?_) ?_ ?_
      rotate_left
      · show Act.put _ (some 8) _ = _
        simp only [aP, i64_w, i32_w]
        rfl
      exact norm_ (by simp only [putAll, aP]) (hCont (.slice Ao10 t232.length co10, gb235) _ ⟨hHeld, (Rz HO234.out), (Kz BK230.out), (Kz BK231.out), (Kz BK235.out), GW235.out, GE235.out, NB230_235.out, NB235_230.out, NB231_235.out, NB235_231.out, (Bq)⟩)
    · skip
      refine box_step ?hg (N := 8) ?hd (cs := #[.int .i64 0, .int .i64 0, .slice none 0 0]) (t := 49) ?hr ?_; (case hd => rfl); (case hg => rfl); (case hr => first | (go_simp; done) | (go_simp; rfl)); intro gb235 hg w9 hbox hb; have n0_ := Kb BK230 hb; have n1_ := Kb BK231 hb; have n2_ := Bc HB hb; have n3_ := am (hbox); have n4_ := Gm HB hg; have n5_ := Gm HB hg; have n6_ := Nl BK230 hg; have n7_ := Ng BK230 hg; have n8_ := Nl BK231 hg; have n9_ := Ng BK231 hg; clear BK230 BK231 HB; revert n0_ n1_ n2_ n3_ n4_ n5_ n6_ n7_ n8_ n9_; intro BK230 BK231 HB BK235 GW235 GE235 NB230_235 NB235_230 NB231_235 NB235_231; clear hb hbox hg; refine hK.out _ _ ⟨cz BK230 0, cz BK230 1, cz BK230 2⟩ (fun hHeld => ?_); clear hK K; refine norm_ (a' := ?_) ?_ ?_
      rotate_left
      · show Act.put _ (some 8) _ = _
        simp only [aP, i64_w, i32_w]
        rfl
      refine oZ 6 (some 17) (bA 10 383) HT_.out (fun K hK => ?_); refine gZ Try.func162 #[.slice A0_2 l0_2.length c0_2] ?_
      with_reducible refine (spec_l1Own.calls _ _ l0_2 t232 _ ?side1 ?side2 A4.out).mono ?_
      (case side1 => exact Cz (Kd.C_below HR0_2.out HB.out))
      (case side2 => exact HC0_2.out)
      rintro e w10 ⟨v233, rfl, ho0, hb⟩; refine ⟨_, rfl, ?_⟩; have n0_ := Rm ho0 HB; have n1_ := Kb BK230 hb; have n2_ := Kb BK231 hb; have n3_ := Kb BK235 hb; have n4_ := Bc HB hb; clear BK230 BK231 BK235 HB; revert n0_ n1_ n2_ n3_ n4_; intro HO234 BK230 BK231 BK235 HB
      (try clear hb)
      (try clear hb2)
      (try clear hk)
      (try clear hi)
      (try clear ho0)
      obtain ⟨Ao11, co11, eo11⟩ := Kd.R_slice HO234.out
      (first | subst eo11 | (injection eo11 with f1_ f2_ f3_; have f4_ := f1_.symm; have f5_ := f3_.symm; clear f1_ f2_ f3_; subst f4_; subst f5_))
      refine hK.out _ _ ⟨cz BK230 0, cz BK230 1, cz BK230 2⟩ (fun hHeld => ?_); clear hK K; refine norm_ (a' := ?_) ?_ ?_
      rotate_left
      · show Act.put _ (some 17) _ = _
        simp only [aP, i64_w, i32_w]
        rfl
      refine pure_ (i := 7) (N := some 18) (v := ?_) (a' := ?_) (bA 10 511) rfl rfl (any_of HT_.out (by kernel_rfl)) (fun _ _ _ h => h) (Or.inl ⟨by rfl, ?_⟩) ?_ ?_
      rotate_left
      · intro w'
        go_simp
        with_reducible rfl
      rotate_left
      · simp only [aP, i64_w, i32_w]
        rfl
      exact norm_ (by simp only [putAll, aP]) (hCont (.slice Ao11 t232.length co11, gb235) _ ⟨hHeld, (Rz HO234.out), (Kz BK230.out), (Kz BK231.out), (Kz BK235.out), GW235.out, GE235.out, NB230_235.out, NB235_230.out, NB231_235.out, NB235_231.out, (Bq)⟩)
  rintro ⟨v233, gb235⟩ w12 ⟨hS_, h0_, h1_, h2_, h3_, h4_, h5_, h6_, h7_, h8_, h9_, h10_⟩; (try dsimp -simprocs only at h0_ h1_ h2_ h3_ h4_ h5_ h6_ h7_ h8_ h9_ h10_); have n0_ := am h0_; have n1_ := am h1_; have n2_ := am h2_; have n3_ := am h3_; have n4_ := am h4_; have n5_ := am h5_; have n6_ := am h6_; have n7_ := am h7_; have n8_ := am h8_; have n9_ := am h9_; have n10_ : Aside0 (Below w.heap.size w w12) := ⟨h10_⟩; clear BK230 BK231 HB; clear h0_ h1_ h2_ h3_ h4_ h5_ h6_ h7_ h8_ h9_ h10_; revert n0_ n1_ n2_ n3_ n4_ n5_ n6_ n7_ n8_ n9_ n10_; intro HO234 BK230 BK231 BK235 GW235 GE235 NB230_235 NB235_230 NB231_235 NB235_231 HB; have hHeld : w12.cell? ⟨gb230, 0, none⟩ = some (.int .i64 a0_0) ∧ w12.cell? ⟨gb230, 1, none⟩ = some (.int .i64 a0_1) ∧ w12.cell? ⟨gb230, 2, none⟩ = some (.slice A0_2 l0_2.length c0_2) := hS_; obtain ⟨Ao13, co13, eo13⟩ := Kd.R_slice HO234.out
  (first | subst eo13 | (injection eo13 with f1_ f2_ f3_; have f4_ := f1_.symm; have f5_ := f3_.symm; clear f1_ f2_ f3_; subst f4_; subst f5_))
  refine norm_ (a' := ?_) ?_ ?_
  rotate_left
  · simp only [putAll, aP]
    rfl
  refine oZ 9 none (bA 10 1023) HT_.out (fun K hK => ?_); have hs14 : w12.cell? ⟨gb235, 0, none⟩ = some (.int .i64 0) := cz BK235 0; have hfs14 := blk_frozen BK235.out 0; have hns14_0 := NB230_235.out; have hns14_1 := NB231_235.out; have hms14_0 := NB235_230.out; have hms14_1 := NB235_231.out; have hs15 : w12.cell? ⟨gb235, 1, none⟩ = some (.int .i64 0) := cz BK235 1; have hfs15 := blk_frozen BK235.out 1; have hns15_0 := NB230_235.out; have hns15_1 := NB231_235.out; have hms15_0 := NB235_230.out; have hms15_1 := NB235_231.out; have hs16 : w12.cell? ⟨gb235, 2, none⟩ = some (.slice none 0 0) := cz BK235 2; have hfs16 := blk_frozen BK235.out 2; have hns16_0 := NB230_235.out; have hns16_1 := NB231_235.out; have hms16_0 := NB235_230.out; have hms16_1 := NB235_231.out; refine skip_ (w1 := ?_) (by rfl) rfl ?_ ?_
  rotate_left
  · go_simp
    rfl
  refine hK.out _ _ ⟨((cell_far (p := ⟨gb235, _, none⟩) NB230_235.out _).trans (((cell_far (p := ⟨gb235, _, none⟩) NB230_235.out _).trans (((cell_far (p := ⟨gb235, _, none⟩) NB230_235.out _).trans (hHeld.1)))))), ((cell_far (p := ⟨gb235, _, none⟩) NB230_235.out _).trans (((cell_far (p := ⟨gb235, _, none⟩) NB230_235.out _).trans (((cell_far (p := ⟨gb235, _, none⟩) NB230_235.out _).trans (hHeld.2.1)))))), ((cell_far (p := ⟨gb235, _, none⟩) NB230_235.out _).trans (((cell_far (p := ⟨gb235, _, none⟩) NB230_235.out _).trans (((cell_far (p := ⟨gb235, _, none⟩) NB230_235.out _).trans (hHeld.2.2))))))⟩ (fun hHeld => ?_); clear hK K; refine done_ (done_of HT_.out (by kernel_rfl)) ?_; have hnb17 := NB230_231.out; have hnc17 := NB231_230.out; have hnb18 := NB230_235.out; have hnc18 := NB235_230.out; obtain ⟨hcz19_0, hcz19_1, hcz19_2, hfz19_0, hfz19_1, hfz19_2⟩ := cf3 (w := w12) BK230
  try go_wp2_with (first | ((with_reducible refine gate_callee (f := 153) rfl ?_); refine gL (some 27) Try.func153 #[.int .i64 a0_0, .int .i64 a0_1, .int .i64 (l0_2.length : Int), .string a1] ?_; (with_reducible refine (spec_fiProbes.calls k a0_0 a0_1 (l0_2.length : Int) a1 t236 _ A5.out).mono ?_); rintro e w20 ⟨v237, rfl, ho0, hb⟩; refine ⟨_, rfl, ?_⟩; have n0_ := am (Kd.R_elder' (Rz (Kd.R_mono (Kd.R_far (p := ⟨gb235, 2, none⟩) (Kd.R_far (p := ⟨gb235, 1, none⟩) (Kd.R_far (p := ⟨gb235, 0, none⟩) (Kd.R_types HO234.out BK235.out (by decide)) (fun _ hk => hk.2) (.int .i64 a0_0)) (fun _ hk => hk.2) (.int .i64 a0_1)) (fun _ hk => hk.2) (.slice Ao13 t232.length co13)) (fun _ h_ => h_.1))) (Kd.R_base ho0) hb); have n1_ := am (Kd.R_lower (Kd.R_new' ho0 (Kd.R_lt (Rz (Kd.R_mono (Kd.R_far (p := ⟨gb235, 2, none⟩) (Kd.R_far (p := ⟨gb235, 1, none⟩) (Kd.R_far (p := ⟨gb235, 0, none⟩) (Kd.R_types HO234.out BK235.out (by decide)) (fun _ hk => hk.2) (.int .i64 a0_0)) (fun _ hk => hk.2) (.int .i64 a0_1)) (fun _ hk => hk.2) (.slice Ao13 t232.length co13)) (fun _ h_ => h_.1))))) (below_size (w := w) (Bq))); have n2_ := am (blk_below (g := gb230) (o := .cells #[.int .i64 a0_0, .int .i64 a0_1, .slice A0_2 l0_2.length c0_2] 49 (0, 0)) (by refine bp ?_; refine blk_far ?_ NB230_235.out _; refine bp ?_; refine blk_far ?_ NB230_235.out _; refine bp ?_; refine blk_far ?_ NB230_235.out _; exact Kz BK230.out) hb); have n3_ := am (blk_below (g := gb231) (o := .cells #[.int .i64 0, .int .i64 0, .slice none 0 0] 49 (0, 0)) (by refine bp ?_; refine blk_far ?_ NB231_235.out _; refine bp ?_; refine blk_far ?_ NB231_235.out _; refine bp ?_; refine blk_far ?_ NB231_235.out _; exact Kz BK231.out) hb); have n4_ := am (blk_below (g := gb235) (o := .cells #[.int .i64 a0_0, .int .i64 a0_1, .slice Ao13 t232.length co13] 49 (0, 0)) (by refine bp ?_; refine blk_put (cs := #[.int .i64 a0_0, .int .i64 a0_1, .slice none 0 0]) ?_ 2 _ rfl; refine bp ?_; refine blk_put (cs := #[.int .i64 a0_0, .int .i64 0, .slice none 0 0]) ?_ 1 _ rfl; refine bp ?_; refine blk_put (cs := #[.int .i64 0, .int .i64 0, .slice none 0 0]) ?_ 0 _ rfl; exact Kz BK235.out) hb); have n5_ := Bc HB hb; clear HO234 BK230 BK231 BK235 HB; revert n0_ n1_ n2_ n3_ n4_ n5_; intro HO234 HO238 BK230 BK231 BK235 HB; (try clear hb); (try clear hb2); (try clear hk); (try clear hi); (try clear ho0); obtain ⟨Ao21, co21, eo21⟩ := Kd.R_slice HO238.out; subst eo21))
  (try simp only [aP])
  go_loopg [29] k (fun kq v29 w' => ∃ (x27_1 : List Int) (x29_1 : Int) (x232000_1 : Int) (x232001_1 : Int) (x236002_1 : List Int) (u236002 : Value), v29 = .int .i64 x29_1 ∧ Aside0 (spec_fiCount.l0 kq a2 x27_1 (t236.length : Int) x29_1 a0_0 a0_1 x236002_1 = some (r1, r2, r3, r4)) ∧ Aside0 (kq ≤ k) ∧ Aside0 (Kd.R (Kd.int .i64) 3 w' w.heap.size (fun k_ => some k_ ≠ (u236002 : Value).ownBlock) (.slice Ao21 t236.length co21) x27_1) ∧ Aside0 (Kd.R (Kd.int .i64) 3 w' w.heap.size (fun k_ => some k_ ≠ ((.slice Ao21 t236.length co21) : Value).ownBlock) u236002 x236002_1) ∧ Aside0 (w'.heap[gb230]? = some (.cells #[.int .i64 a0_0, .int .i64 a0_1, (.slice A0_2 l0_2.length c0_2)] 49 (0, 0))) ∧ Aside0 (w'.heap[gb231]? = some (.cells #[.int .i64 x232000_1, .int .i64 x232001_1, (.slice none 0 0)] 49 (0, 0))) ∧ Aside0 (w'.heap[gb235]? = some (.cells #[.int .i64 a0_0, .int .i64 a0_1, u236002] 49 (0, 0))) ∧ Aside0 (Below w.heap.size w w'))
  case atStart => exact ⟨(t236), (0), (0), (0), (t232), (.slice Ao13 t232.length co13), wZ, H', ⟨Nat.le_refl _⟩, ⟨Rz (Kd.R_mono HO238.out (fun _ hk => hk.2))⟩, ⟨Rz (Kd.R_mono HO234.out (fun _ hk => hk.2))⟩, ⟨Kz BK230.out⟩, ⟨Kz BK231.out⟩, ⟨Kz BK235.out⟩, ⟨Bq⟩⟩
  case round =>
    clear H'
    try clear c1
    try clear p2
    try clear c11
    try clear c15
    try clear c16
    try clear c17
    try clear c18
    obtain ⟨x27_1, x29_1, x232000_1, x232001_1, x236002_1, u236002, rfl, HA, HK1, HO_27, HO_236002, BK230, BK231, BK235, HB⟩ := hrel; have hl27_1 := (Kd.R_reads' HO_27.out).1; rw [hl27_1] at HO_27
    (try simp only [hl27_1])
    (try simp only [hl27_1] at BK230)
    (try simp only [hl27_1] at BK231)
    (try simp only [hl27_1] at BK235)
    (try simp only [hl27_1] at HO_236002)
    cases gk with
    | zero => exact absurd HA.out (by simp [spec_fiCount.l0])
    | succ k1 =>
      have H := HA.out; clear HA
      simp only [spec_fiCount.l0] at H
      by_cases c22 : x29_1 < (t236.length : Int)
      · rw [if_pos c22] at H
        have c22b0 : decide (x29_1 < (t236.length : Int)) = true := decide_eq_true c22; (try simp only [hl27_1] at c22b0); clear c22
        by_cases c23 : 0 ≤ x29_1
        · rw [if_pos c23] at H
          have c23b0 : decide (0 ≤ x29_1) = true := decide_eq_true c23; clear c23
          by_cases c24 : x29_1 < (x27_1.length : Int)
          · rw [if_pos c24] at H
            have c24b0 : decide (x29_1 < (x27_1.length : Int)) = true := decide_eq_true c24; (try simp only [hl27_1] at c24b0); clear c24
            by_cases c25 : 0 ≤ (rd x27_1 x29_1)
            · rw [if_pos c25] at H
              have c25b0 : decide (0 ≤ (rd x27_1 x29_1)) = true := decide_eq_true c25; clear c25
              by_cases c26 : (rd x27_1 x29_1) < (x236002_1.length : Int)
              · rw [if_pos c26] at H
                have c26b0 : decide ((rd x27_1 x29_1) < (x236002_1.length : Int)) = true := decide_eq_true c26; (try simp only [hl27_1] at c26b0); clear c26
                by_cases c27 : (wrap64 ((rd x236002_1 (rd x27_1 x29_1)) + a2)) < 0
                · rw [if_pos c27] at H
                  have c27b0 : decide ((wrap64 ((rd x236002_1 (rd x27_1 x29_1)) + a2)) < 0) = true := decide_eq_true c27; clear c27
                  simp only [Option.some.injEq, Prod.mk.injEq] at H
                  obtain ⟨rfl, rfl, rfl, rfl⟩ := H; obtain ⟨ad239, e239, hx239_0⟩ := Kd.at_int (Kd.R_reads' HO_27.out).2.2 x29_1 dT dT; cases e239; have p239 := eT (0 ≤ (x29_1 : Int)); have q239 := eT (x29_1 < (x27_1.length : Int)); have hnb28 := NB235_230.out; have hnc28 := NB230_235.out; have hnb29 := NB235_231.out; have hnc29 := NB231_235.out; obtain ⟨hcz30_0, hcz30_1, hcz30_2, hfz30_0, hfz30_1, hfz30_2⟩ := cf3 (w := wr) BK235; obtain ⟨Ao31, co31, eo31⟩ := Kd.R_slice HO_236002.out; subst eo31; obtain ⟨ad240, e240, hx240_0⟩ := Kd.at_int (Kd.R_reads' HO_236002.out).2.2 (rd x27_1 x29_1) dT dT; cases e240; have p240 := eT (0 ≤ ((rd x27_1 x29_1) : Int)); have q240 := eT ((rd x27_1 x29_1) < (x236002_1.length : Int)); have hnb32 := NB231_230.out; have hnc32 := NB230_231.out; obtain ⟨hcz33_0, hcz33_1, hcz33_2, hfz33_0, hfz33_1, hfz33_2⟩ := cf3 (w := wr) BK231
                  go_wp2
                  refine bodyPost_ret (results_ct rfl _ _ gb231 49 #[.int .i64 0, .int .i64 0, .slice none 0 0] (0, 0) _ rfl (by refine bp ?_; refine blk_put (cs := #[.int .i64 0, .int .i64 0, .slice none 0 0]) ?_ 2 _ rfl; refine bp ?_; refine blk_put (cs := #[.int .i64 0, .int .i64 x232001_1, .slice none 0 0]) ?_ 1 _ rfl; refine bp ?_; refine blk_put (cs := #[.int .i64 x232000_1, .int .i64 x232001_1, .slice none 0 0]) ?_ 0 _ rfl; exact Kz BK231.out) Try.underlying49 rfl (by kernel_rfl)) rfl ?_; exact ⟨_, eZ, nZ, Bq⟩
                · rw [if_neg c27] at H
                  have c27b0 : decide ((wrap64 ((rd x236002_1 (rd x27_1 x29_1)) + a2)) < 0) = false := decide_eq_false c27; clear c27
                  by_cases c34 : (rd x236002_1 (rd x27_1 x29_1)) < 15
                  · rw [if_pos c34] at H
                    have c34b0 : decide ((rd x236002_1 (rd x27_1 x29_1)) < 15) = true := decide_eq_true c34; clear c34; obtain ⟨y243, hy243⟩ : ∃ y_ : List Int, y_ = (x236002_1.set ((rd x27_1 x29_1) : Int).toNat (wrap64 ((rd x236002_1 (rd x27_1 x29_1)) + a2))) := ⟨_, rfl⟩
                    replace H : (spec_fiCount.l0 k1 a2 x27_1 (t236.length : Int) (wrap64 (x29_1 + 1)) a0_0 a0_1 y243) = some (r1, r2, r3, r4) := by first | (rw [hy243]; with_reducible exact H) | (have H2_ := (Option.bind_some _ _).symm.trans H; rw [hy243]; with_reducible exact H2_) | (have H2_ := (Option.bind_some _ _).symm.trans H; with_reducible exact H2_) | with_reducible exact H | (rw [hy243]; exact H) | exact H
                    have Ny243 := am hy243; clear hy243; have H' := am H; clear H; obtain ⟨ad239, e239, hx239_0⟩ := Kd.at_int (Kd.R_reads' HO_27.out).2.2 x29_1 dT dT; cases e239; have p239 := eT (0 ≤ (x29_1 : Int)); have q239 := eT (x29_1 < (x27_1.length : Int)); have hnb36 := NB235_230.out; have hnc36 := NB230_235.out; have hnb37 := NB235_231.out; have hnc37 := NB231_235.out; obtain ⟨hcz38_0, hcz38_1, hcz38_2, hfz38_0, hfz38_1, hfz38_2⟩ := cf3 (w := wr) BK235; obtain ⟨Ao39, co39, eo39⟩ := Kd.R_slice HO_236002.out; subst eo39; obtain ⟨ad240, e240, hx240_0⟩ := Kd.at_int (Kd.R_reads' HO_236002.out).2.2 (rd x27_1 x29_1) dT dT; cases e240; have p240 := eT (0 ≤ ((rd x27_1 x29_1) : Int)); have q240 := eT ((rd x27_1 x29_1) < (x236002_1.length : Int)); have p241 : 0 ≤ ((rd x27_1 x29_1) : Int) := dT; have q241 : (rd x27_1 x29_1) < (x236002_1.length : Int) := dT; obtain ⟨ad241, e241, hx241_0⟩ := Kd.at_int (Kd.R_reads' HO_236002.out).2.2 (rd x27_1 x29_1) p241 q241; obtain rfl : ad240 = ad241 := (by injection e241); replace p241 := eq_true p241; replace q241 := eq_true q241; have p242 : 0 ≤ ((rd x27_1 x29_1) : Int) := dT; have q242 : (rd x27_1 x29_1) < (x236002_1.length : Int) := dT; obtain ⟨ad242, e242, hx242_0⟩ := Kd.at_int (Kd.R_reads' HO_236002.out).2.2 (rd x27_1 x29_1) p242 q242; obtain rfl : ad240 = ad242 := (by injection e242); replace p242 := eq_true p242; replace q242 := eq_true q242; have p35 : 0 ≤ ((rd x27_1 x29_1) : Int) := dT; have q35 : ((rd x27_1 x29_1) : Int) < ((x236002_1.length : Int) : Int) := dT; obtain ⟨go35, co35, eo35, gb35, gl35, cl35, HG35⟩ := Kd.R_form HO_236002.out (by omega)
                    (first | cases eo35 | (injection eo35 with ea_ en_ ec_; (first | subst ea_ | (injection ea_ with ea_; subst ea_)); subst ec_; clear en_))
                    have GB35 := am gb35; have GG35 := am HG35; clear gb35 gl35 HG35
                    (first | simp only [add_plain] at hx240_0 | skip)
                    (first | simp only [add_plain] at hx241_0 | skip)
                    (first | simp only [add_plain] at hx242_0 | skip)
                    obtain ⟨hx35_0, hf35_0⟩ := Kd.R_celln 0 HO_236002.out ((rd x27_1 x29_1) : Int) p35 q35; replace p35 := eq_true p35; replace q35 := eq_true q35; have HP40 := Kd.R_putg HO_236002.out ((rd x27_1 x29_1) : Int) (wrap64 ((rd x236002_1 (rd x27_1 x29_1)) + a2))
                    go_wp2_with (first | ((with_reducible refine gate_store (t := 3) (p := 55) rfl ?_); refine store_event (t := 3) (p := 55) (v := ?vo_w41) (w1 := (wr.setCell ⟨go35, ((rd x27_1 x29_1) : Int).toNat, none⟩ (.int .i64 (wrap64 ((rd x236002_1 (rd x27_1 x29_1)) + a2))))) ?hg ?ho ?hn ?hr ?_; (case ho => rfl); (case hg => rfl); (case hn => rfl); (case hr => first | (go_simp; done) | (go_simp; rfl)); intro w41 hw; have hg : wr.grownBy w41 (some go35) := (by rw [hw]; exact HP40.2); have hp_ : Kd.R (Kd.int .i64) 3 w41 w.heap.size (fun k_ => some k_ ≠ (.slice (some ad239) x27_1.length co21 : Value).ownBlock) (.slice (some ⟨go35, 0, none⟩) x236002_1.length co39) y243 := (by rw [hw, Ny243.out]; exact HP40.1); clear HP40; have n0_ := am (Kd.R_after (v := (.slice (some ⟨go35, 0, none⟩) x236002_1.length co39)) (v1 := (.slice (some ⟨go35, 0, none⟩) x236002_1.length co39)) (ok := (fun _ => True)) (Rz (Kd.R_mono HO_27.out (fun _ hk => ⟨trivial, hk⟩))) hg (.inl rfl)); have n1_ := am (hp_); have n2_ := am (blk_grown (g := gb230) (o := .cells #[.int .i64 a0_0, .int .i64 a0_1, .slice A0_2 l0_2.length c0_2] 49 (0, 0)) (Kz BK230.out) hg (Kd.R_ne HO_236002.out BK230.out (by decide))); have n3_ := am (blk_grown (g := gb231) (o := .cells #[.int .i64 x232000_1, .int .i64 x232001_1, .slice none 0 0] 49 (0, 0)) (Kz BK231.out) hg (Kd.R_ne HO_236002.out BK231.out (by decide))); have n4_ := am (blk_grown (g := gb235) (o := .cells #[.int .i64 a0_0, .int .i64 a0_1, .slice (some ⟨go35, 0, none⟩) x236002_1.length co39] 49 (0, 0)) (Kz BK235.out) hg (Kd.R_ne HO_236002.out BK235.out (by decide))); have n5_ := am ((by rw [hw]; exact below_set (HB.out) GB35.out : Below w.heap.size w w41)); clear HO_27 HO_236002 BK230 BK231 BK235 HB; revert n0_ n1_ n2_ n3_ n4_ n5_; intro HO_27 HO_236002 BK230 BK231 BK235 HB; clear hg hw hp_))
                    (try simp only [← hl27_1])
                    go_roundg k1
                    case measure => have := HK1.out; omega
                    case rel => exact ⟨(x27_1), (wrap64 (x29_1 + 1)), (x232000_1), (x232001_1), (y243), (.slice (some ⟨go35, 0, none⟩) x236002_1.length co39), wZ, H', ⟨by have := HK1.out; omega⟩, ⟨by (try simp only [hl27_1]); (with_reducible repeat (first | apply Kd.R_alloc | apply Kd.R_drewN | apply Kd.R_drew)); exact Kd.R_mono HO_27.out (fun _ hk => hk.2)⟩, ⟨by (try simp only [hl27_1]); (with_reducible repeat (first | apply Kd.R_alloc | apply Kd.R_drewN | apply Kd.R_drew)); exact HO_236002.out⟩, ⟨by (try simp only [hl27_1]); refine bp ?_; exact BK230.out⟩, ⟨by (try simp only [hl27_1]); refine bp ?_; exact BK231.out⟩, ⟨by (try simp only [hl27_1]); refine bp ?_; exact BK235.out⟩, ⟨Bq⟩⟩
                  · rw [if_neg c34] at H
                    have c34b0 : decide ((rd x236002_1 (rd x27_1 x29_1)) < 15) = false := decide_eq_false c34; clear c34; have H' := am H; clear H; obtain ⟨ad239, e239, hx239_0⟩ := Kd.at_int (Kd.R_reads' HO_27.out).2.2 x29_1 dT dT; cases e239; have p239 := eT (0 ≤ (x29_1 : Int)); have q239 := eT (x29_1 < (x27_1.length : Int)); have hnb42 := NB235_230.out; have hnc42 := NB230_235.out; have hnb43 := NB235_231.out; have hnc43 := NB231_235.out; obtain ⟨hcz44_0, hcz44_1, hcz44_2, hfz44_0, hfz44_1, hfz44_2⟩ := cf3 (w := wr) BK235; obtain ⟨Ao45, co45, eo45⟩ := Kd.R_slice HO_236002.out; subst eo45; obtain ⟨ad240, e240, hx240_0⟩ := Kd.at_int (Kd.R_reads' HO_236002.out).2.2 (rd x27_1 x29_1) dT dT; cases e240; have p240 := eT (0 ≤ ((rd x27_1 x29_1) : Int)); have q240 := eT ((rd x27_1 x29_1) < (x236002_1.length : Int)); have p241 : 0 ≤ ((rd x27_1 x29_1) : Int) := dT; have q241 : (rd x27_1 x29_1) < (x236002_1.length : Int) := dT; obtain ⟨ad241, e241, hx241_0⟩ := Kd.at_int (Kd.R_reads' HO_236002.out).2.2 (rd x27_1 x29_1) p241 q241; obtain rfl : ad240 = ad241 := (by injection e241); replace p241 := eq_true p241; replace q241 := eq_true q241
                    go_wp2
                    (try simp only [← hl27_1])
                    go_roundg k1
                    case measure => have := HK1.out; omega
                    case rel => exact ⟨(x27_1), (wrap64 (x29_1 + 1)), (x232000_1), (x232001_1), (x236002_1), (.slice (some ad240) x236002_1.length co45), wZ, H', ⟨by have := HK1.out; omega⟩, ⟨by (try simp only [hl27_1]); (with_reducible repeat (first | apply Kd.R_alloc | apply Kd.R_drewN | apply Kd.R_drew)); exact HO_27.out⟩, ⟨by (try simp only [hl27_1]); (with_reducible repeat (first | apply Kd.R_alloc | apply Kd.R_drewN | apply Kd.R_drew)); exact HO_236002.out⟩, ⟨by (try simp only [hl27_1]); refine bp ?_; exact BK230.out⟩, ⟨by (try simp only [hl27_1]); refine bp ?_; exact BK231.out⟩, ⟨by (try simp only [hl27_1]); refine bp ?_; exact BK235.out⟩, ⟨Bq⟩⟩
              · rw [if_neg c26] at H
                exact absurd H (by simp)
            · rw [if_neg c25] at H
              exact absurd H (by simp)
          · rw [if_neg c24] at H
            exact absurd H (by simp)
        · rw [if_neg c23] at H
          exact absurd H (by simp)
      · rw [if_neg c22] at H
        have c22b0 : decide (x29_1 < (t236.length : Int)) = false := decide_eq_false c22; (try simp only [hl27_1] at c22b0); clear c22
        simp only [Option.some.injEq, Prod.mk.injEq] at H
        obtain ⟨rfl, rfl, rfl, rfl⟩ := H; have hnb46 := NB235_230.out; have hnc46 := NB230_235.out; have hnb47 := NB235_231.out; have hnc47 := NB231_235.out; obtain ⟨hcz48_0, hcz48_1, hcz48_2, hfz48_0, hfz48_1, hfz48_2⟩ := cf3 (w := wr) BK235; have hnb49 := NB231_230.out; have hnc49 := NB230_231.out; obtain ⟨hcz50_0, hcz50_1, hcz50_2, hfz50_0, hfz50_1, hfz50_2⟩ := cf3 (w := wr) BK231; obtain ⟨Ao51, co51, eo51⟩ := Kd.R_slice HO_236002.out; subst eo51
        go_wp2
        refine bodyPost_ret (results_ct rfl _ _ gb231 49 #[.int .i64 a0_0, .int .i64 a0_1, .slice Ao51 x236002_1.length co51] (0, 0) _ rfl (by refine bp ?_; refine blk_put (cs := #[.int .i64 a0_0, .int .i64 a0_1, .slice none 0 0]) ?_ 2 _ rfl; refine bp ?_; refine blk_put (cs := #[.int .i64 a0_0, .int .i64 x232001_1, .slice none 0 0]) ?_ 1 _ rfl; refine bp ?_; refine blk_put (cs := #[.int .i64 x232000_1, .int .i64 x232001_1, .slice none 0 0]) ?_ 0 _ rfl; exact Kz BK231.out) Try.underlying49 rfl (by kernel_rfl)) rfl ?_; exact ⟨_, eZ, Rz (Kd.R_mono (Kd.R_far (p := ⟨gb231, 2, none⟩) (Kd.R_far (p := ⟨gb231, 1, none⟩) (Kd.R_far (p := ⟨gb231, 0, none⟩) (Kd.R_types HO_236002.out BK231.out (by decide)) (fun _ hk => hk.2) (.int .i64 a0_0)) (fun _ hk => hk.2) (.int .i64 a0_1)) (fun _ hk => hk.2) (.slice Ao51 x236002_1.length co51)) (fun _ hk => trivial)), Bq⟩

def spec_CountingRemove.f (k : Nat) (a0_0 : Int) (a0_1 : Int) (l0_2 : List Int) (a1 : ByteArray) : Option (Int × Int × List Int × Bool) := (spec_fiCounting.f k a0_0 a0_1 l0_2).bind fun t246 => (if t246 = true then ((spec_IsKey.f k a1).bind fun t247 => (if t247 = true then ((spec_fiBits.f k a0_0 a0_1 l0_2).bind fun bt248 => ((spec_fiHas.f k bt248.1 bt248.2.1 bt248.2.2.1 bt248.2.2.2 a1).bind fun t254 => (if t254 = true then ((spec_fiCount.f k a0_0 a0_1 l0_2 a1 (-1)).bind fun bt255 => (some (bt255.1, bt255.2.1, bt255.2.2.1, bt255.2.2.2))) else (some (0, 0, ([] : List Int), false))))) else (some (0, 0, ([] : List Int), false)))) else (some (0, 0, ([] : List Int), false)))
theorem spec_CountingRemove.calls (k : Nat) (a0_0 : Int) (a0_1 : Int) (A0_2 : Option Addr) (c0_2 : Nat) (l0_2 : List Int) (a1 : ByteArray) (r1 : Int) (r2 : Int) (r3 : List Int) (r4 : Bool) (w : World) (hr0_2 : Kd.C (Kd.int .i64) w A0_2 l0_2.length l0_2) (hc0_2 : l0_2.length ≤ c0_2) (h : spec_CountingRemove.f k a0_0 a0_1 l0_2 a1 = some (r1, r2, r3, r4)) :
    Calls Try.prog 30 #[.agg #[.int .i64 a0_0, .int .i64 a0_1, .slice A0_2 l0_2.length c0_2], .string a1] w fun e w' => ∃ v2_ : Value, e = .returned (.tuple #[.agg #[.int .i64 r1, .int .i64 r2, v2_], .bool r4]) ∧ Kd.R (Kd.int .i64) 3 w' w.heap.size (fun _ => True) v2_ r3 ∧ Below w.heap.size w w' := by
  have hu49 := Try.underlying49; have HR0_2 := am hr0_2; have HC0_2 := am hc0_2; clear hr0_2 hc0_2; have HB := am (Below.refl w.heap.size w); have H : ((spec_fiCounting.f k a0_0 a0_1 l0_2).bind fun t246 => (if t246 = true then ((spec_IsKey.f k a1).bind fun t247 => (if t247 = true then ((spec_fiBits.f k a0_0 a0_1 l0_2).bind fun bt248 => ((spec_fiHas.f k bt248.1 bt248.2.1 bt248.2.2.1 bt248.2.2.2 a1).bind fun t254 => (if t254 = true then ((spec_fiCount.f k a0_0 a0_1 l0_2 a1 (-1)).bind fun bt255 => (some (bt255.1, bt255.2.1, bt255.2.2.1, bt255.2.2.2))) else (some (0, 0, ([] : List Int), false))))) else (some (0, 0, ([] : List Int), false)))) else (some (0, 0, ([] : List Int), false)))) = some (r1, r2, r3, r4) := h; clear h; obtain ⟨t246, A3, H⟩ := ob H; (try dsimp -simprocs only at H)
  by_cases c4 : t246 = true
  · subst c4
    rw [if_pos rfl] at H; obtain ⟨t247, A5, H⟩ := ob H; (try dsimp -simprocs only at H)
    by_cases c6 : t247 = true
    · subst c6
      rw [if_pos rfl] at H; obtain ⟨⟨t248, t249, t250, t251⟩, A7, H⟩ := ob H; (try dsimp -simprocs only at H); obtain ⟨t254, A8, H⟩ := ob H; (try dsimp -simprocs only at H)
      by_cases c9 : t254 = true
      · subst c9
        rw [if_pos rfl] at H; obtain ⟨⟨t255, t256, t257, t260⟩, A10, H⟩ := ob H; (try dsimp -simprocs only at H)
        simp only [Option.some.injEq, Prod.mk.injEq] at H
        obtain ⟨rfl, rfl, rfl, rfl⟩ := H
        go_enter Try.func30, Try.ntmps30
        go_wp2_with (first | ((with_reducible refine gate_dst (N := 2) rfl ?_); refine bE 2 #[.int .i64 a0_0, .int .i64 a0_1, .slice A0_2 l0_2.length c0_2] 49 ?_; intro gb244 hg w11 hbox hb; have n0_ := Bb HB hb; have n1_ := am (hbox); have n2_ := Gl HB hg; have n3_ := Gl HB hg; clear HB; revert n0_ n1_ n2_ n3_; intro HB BK244 GW244 GE244; clear hb hbox hg) | ((with_reducible refine gate_dst (N := 4) rfl ?_); refine bE 4 #[.int .i64 0, .int .i64 0, .slice none 0 0] 49 ?_; intro gb245 hg w12 hbox hb; have n0_ := Kb BK244 hb; have n1_ := Bc HB hb; have n2_ := am (hbox); have n3_ := Gm HB hg; have n4_ := Gm HB hg; have n5_ := Nl BK244 hg; have n6_ := Ng BK244 hg; clear BK244 HB; revert n0_ n1_ n2_ n3_ n4_ n5_ n6_; intro BK244 HB BK245 GW245 GE245 NB244_245 NB245_244; clear hb hbox hg; have hnb13 := NB244_245.out; have hnc13 := NB245_244.out; obtain ⟨hcz14_0, hcz14_1, hcz14_2, hfz14_0, hfz14_1, hfz14_2⟩ := cf3 (w := w12) BK244) | ((with_reducible refine gate_callee (f := 107) rfl ?_); refine gL (some 7) Try.func107 #[.agg #[.int .i64 a0_0, .int .i64 a0_1, .slice A0_2 l0_2.length c0_2]] ?_; (with_reducible refine (spec_fiCounting.calls k a0_0 a0_1 _ _ l0_2 true _ ?side1 ?side2 A3.out).mono ?_); (case side1 => exact Cz (Kd.C_below HR0_2.out HB.out)); (case side2 => exact HC0_2.out); rintro e w15 ⟨rfl, hb⟩; refine ⟨_, rfl, ?_⟩; have n0_ := Kb BK244 hb; have n1_ := Kb BK245 hb; have n2_ := Bc HB hb; clear BK244 BK245 HB; revert n0_ n1_ n2_; intro BK244 BK245 HB; (try clear hb); (try clear hb2); (try clear hk); (try clear hi)) | (go_at_call 95; (with_reducible refine (spec_IsKey.calls k a1 true _ A5.out).mono ?_); rintro e w' ⟨rfl, ⟨nd, rfl⟩⟩; (try (rw [drewN_self w15]; generalize hq_ : World.drewN w15 _ = w15; have n0_ : Aside0 (w15.heap[gb244]? = some (.cells #[.int .i64 a0_0, .int .i64 a0_1, .slice A0_2 l0_2.length c0_2] 49 (0, 0))) := ⟨by rw [← hq_]; exact (Kz BK244.out)⟩; have n1_ : Aside0 (w15.heap[gb245]? = some (.cells #[.int .i64 0, .int .i64 0, .slice none 0 0] 49 (0, 0))) := ⟨by rw [← hq_]; exact (Kz BK245.out)⟩; have n2_ : Aside0 (Below w.heap.size w w15) := ⟨by rw [← hq_]; exact (Bq)⟩; clear BK244 BK245 HB hq_; revert n0_ n1_ n2_; intro BK244 BK245 HB)); obtain ⟨hcz16_0, hcz16_1, hcz16_2, hfz16_0, hfz16_1, hfz16_2⟩ := cf3 (w := w15) BK244) | (go_at_call 109; (with_reducible refine (spec_fiBits.calls k a0_0 a0_1 _ _ l0_2 t248 t249 t250 t251 _ ?side1 ?side2 A7.out).mono ?_); (case side1 => exact Cz (Kd.C_below HR0_2.out HB.out)); (case side2 => exact HC0_2.out); rintro e w17 ⟨v252, rfl, ho0, hb⟩; have n0_ := Rm ho0 HB; have n1_ := Kb BK244 hb; have n2_ := Kb BK245 hb; have n3_ := Bc HB hb; clear BK244 BK245 HB; revert n0_ n1_ n2_ n3_; intro HO253 BK244 BK245 HB; (try clear hb); (try clear hb2); (try clear hk); (try clear hi); (try clear ho0); obtain ⟨Ao18, co18, eo18⟩ := Kd.R_slice HO253.out; subst eo18) | (go_at_call 108; (with_reducible refine (spec_fiHas.calls k t248 t249 t250 _ _ t251 a1 true _ ?side1 ?side2 A8.out).mono ?_); (case side1 => exact Cz ((Kd.R_reads' HO253.out).2.2)); (case side2 => exact (Kd.R_reads' HO253.out).2.1); rintro e w19 ⟨rfl, hb⟩; have n0_ := Rb HO253 hb; have n1_ := Kb BK244 hb; have n2_ := Kb BK245 hb; have n3_ := Bc HB hb; clear HO253 BK244 BK245 HB; revert n0_ n1_ n2_ n3_; intro HO253 BK244 BK245 HB; (try clear hb); (try clear hb2); (try clear hk); (try clear hi); obtain ⟨hcz20_0, hcz20_1, hcz20_2, hfz20_0, hfz20_1, hfz20_2⟩ := cf3 (w := w19) BK244) | ((with_reducible refine gate_callee (f := 110) rfl ?_); refine gL (some 24) Try.func110 #[.agg #[.int .i64 a0_0, .int .i64 a0_1, .slice A0_2 l0_2.length c0_2], .string a1, .int .i64 (-1)] ?_; (with_reducible refine (spec_fiCount.calls k a0_0 a0_1 _ _ l0_2 a1 (-1) t255 t256 t257 t260 _ ?side1 ?side2 A10.out).mono ?_); (case side1 => exact Cz (Kd.C_below HR0_2.out HB.out)); (case side2 => exact HC0_2.out); rintro e w21 ⟨v258, rfl, ho0, hb⟩; refine ⟨_, rfl, ?_⟩; have n0_ := Re HO253 (Kd.R_base ho0) hb; have n1_ := Rm (Kd.R_new' ho0 (Kd.R_lt (Rz HO253.out))) HB; have n2_ := Kb BK244 hb; have n3_ := Kb BK245 hb; have n4_ := Bc HB hb; clear HO253 BK244 BK245 HB; revert n0_ n1_ n2_ n3_ n4_; intro HO253 HO259 BK244 BK245 HB; (try clear hb); (try clear hb2); (try clear hk); (try clear hi); (try clear ho0); obtain ⟨hcz22_0, hcz22_1, hcz22_2, hfz22_0, hfz22_1, hfz22_2⟩ := cf3 (w := w21) BK245; obtain ⟨Ao23, co23, eo23⟩ := Kd.R_slice HO259.out; subst eo23))
        refine bodyPost_ret (results_ct rfl _ _ gb245 49 #[.int .i64 t255, .int .i64 t256, .slice Ao23 t257.length co23] (0, 0) _ rfl (by refine bp ?_; refine blk_put (cs := #[.int .i64 t255, .int .i64 t256, .slice none 0 0]) ?_ 2 _ rfl; refine bp ?_; refine blk_put (cs := #[.int .i64 t255, .int .i64 0, .slice none 0 0]) ?_ 1 _ rfl; refine bp ?_; refine blk_put (cs := #[.int .i64 0, .int .i64 0, .slice none 0 0]) ?_ 0 _ rfl; exact Kz BK245.out) Try.underlying49 rfl (by kernel_rfl)) rfl ?_; exact ⟨_, eZ, Rz (Kd.R_mono (Kd.R_far (p := ⟨gb245, 2, none⟩) (Kd.R_far (p := ⟨gb245, 1, none⟩) (Kd.R_far (p := ⟨gb245, 0, none⟩) (Kd.R_types HO259.out BK245.out (by decide)) (fun _ hk => hk.2) (.int .i64 t255)) (fun _ hk => hk.2) (.int .i64 t256)) (fun _ hk => hk.2) (.slice Ao23 t257.length co23)) (fun _ hk => trivial)), Bq⟩
      · replace c9 := Bool.eq_false_iff.mpr c9
        subst c9
        rw [if_neg (show ¬ (false = true) by decide)] at H
        simp only [Option.some.injEq, Prod.mk.injEq] at H
        obtain ⟨rfl, rfl, rfl, rfl⟩ := H
        go_enter Try.func30, Try.ntmps30
        go_wp2_with (first | ((with_reducible refine gate_dst (N := 2) rfl ?_); refine bE 2 #[.int .i64 a0_0, .int .i64 a0_1, .slice A0_2 l0_2.length c0_2] 49 ?_; intro gb244 hg w24 hbox hb; have n0_ := Bb HB hb; have n1_ := am (hbox); have n2_ := Gl HB hg; have n3_ := Gl HB hg; clear HB; revert n0_ n1_ n2_ n3_; intro HB BK244 GW244 GE244; clear hb hbox hg) | ((with_reducible refine gate_dst (N := 4) rfl ?_); refine bE 4 #[.int .i64 0, .int .i64 0, .slice none 0 0] 49 ?_; intro gb245 hg w25 hbox hb; have n0_ := Kb BK244 hb; have n1_ := Bc HB hb; have n2_ := am (hbox); have n3_ := Gm HB hg; have n4_ := Gm HB hg; have n5_ := Nl BK244 hg; have n6_ := Ng BK244 hg; clear BK244 HB; revert n0_ n1_ n2_ n3_ n4_ n5_ n6_; intro BK244 HB BK245 GW245 GE245 NB244_245 NB245_244; clear hb hbox hg; have hnb26 := NB244_245.out; have hnc26 := NB245_244.out; obtain ⟨hcz27_0, hcz27_1, hcz27_2, hfz27_0, hfz27_1, hfz27_2⟩ := cf3 (w := w25) BK244) | ((with_reducible refine gate_callee (f := 107) rfl ?_); refine gL (some 7) Try.func107 #[.agg #[.int .i64 a0_0, .int .i64 a0_1, .slice A0_2 l0_2.length c0_2]] ?_; (with_reducible refine (spec_fiCounting.calls k a0_0 a0_1 _ _ l0_2 true _ ?side1 ?side2 A3.out).mono ?_); (case side1 => exact Cz (Kd.C_below HR0_2.out HB.out)); (case side2 => exact HC0_2.out); rintro e w28 ⟨rfl, hb⟩; refine ⟨_, rfl, ?_⟩; have n0_ := Kb BK244 hb; have n1_ := Kb BK245 hb; have n2_ := Bc HB hb; clear BK244 BK245 HB; revert n0_ n1_ n2_; intro BK244 BK245 HB; (try clear hb); (try clear hb2); (try clear hk); (try clear hi)) | (go_at_call 95; (with_reducible refine (spec_IsKey.calls k a1 true _ A5.out).mono ?_); rintro e w' ⟨rfl, ⟨nd, rfl⟩⟩; (try (rw [drewN_self w28]; generalize hq_ : World.drewN w28 _ = w28; have n0_ : Aside0 (w28.heap[gb244]? = some (.cells #[.int .i64 a0_0, .int .i64 a0_1, .slice A0_2 l0_2.length c0_2] 49 (0, 0))) := ⟨by rw [← hq_]; exact (Kz BK244.out)⟩; have n1_ : Aside0 (w28.heap[gb245]? = some (.cells #[.int .i64 0, .int .i64 0, .slice none 0 0] 49 (0, 0))) := ⟨by rw [← hq_]; exact (Kz BK245.out)⟩; have n2_ : Aside0 (Below w.heap.size w w28) := ⟨by rw [← hq_]; exact (Bq)⟩; clear BK244 BK245 HB hq_; revert n0_ n1_ n2_; intro BK244 BK245 HB)); obtain ⟨hcz29_0, hcz29_1, hcz29_2, hfz29_0, hfz29_1, hfz29_2⟩ := cf3 (w := w28) BK244) | (go_at_call 109; (with_reducible refine (spec_fiBits.calls k a0_0 a0_1 _ _ l0_2 t248 t249 t250 t251 _ ?side1 ?side2 A7.out).mono ?_); (case side1 => exact Cz (Kd.C_below HR0_2.out HB.out)); (case side2 => exact HC0_2.out); rintro e w30 ⟨v252, rfl, ho0, hb⟩; have n0_ := Rm ho0 HB; have n1_ := Kb BK244 hb; have n2_ := Kb BK245 hb; have n3_ := Bc HB hb; clear BK244 BK245 HB; revert n0_ n1_ n2_ n3_; intro HO253 BK244 BK245 HB; (try clear hb); (try clear hb2); (try clear hk); (try clear hi); (try clear ho0); obtain ⟨Ao31, co31, eo31⟩ := Kd.R_slice HO253.out; subst eo31) | (go_at_call 108; (with_reducible refine (spec_fiHas.calls k t248 t249 t250 _ _ t251 a1 false _ ?side1 ?side2 A8.out).mono ?_); (case side1 => exact Cz ((Kd.R_reads' HO253.out).2.2)); (case side2 => exact (Kd.R_reads' HO253.out).2.1); rintro e w32 ⟨rfl, hb⟩; have n0_ := Rb HO253 hb; have n1_ := Kb BK244 hb; have n2_ := Kb BK245 hb; have n3_ := Bc HB hb; clear HO253 BK244 BK245 HB; revert n0_ n1_ n2_ n3_; intro HO253 BK244 BK245 HB; (try clear hb); (try clear hb2); (try clear hk); (try clear hi); obtain ⟨hcz33_0, hcz33_1, hcz33_2, hfz33_0, hfz33_1, hfz33_2⟩ := cf3 (w := w32) BK245))
        refine bodyPost_ret (results_ct rfl _ _ gb245 49 #[.int .i64 0, .int .i64 0, .slice none 0 0] (0, 0) _ rfl (by refine bp ?_; refine blk_put (cs := #[.int .i64 0, .int .i64 0, .slice none 0 0]) ?_ 2 _ rfl; refine bp ?_; refine blk_put (cs := #[.int .i64 0, .int .i64 0, .slice none 0 0]) ?_ 1 _ rfl; refine bp ?_; refine blk_put (cs := #[.int .i64 0, .int .i64 0, .slice none 0 0]) ?_ 0 _ rfl; exact Kz BK245.out) Try.underlying49 rfl (by kernel_rfl)) rfl ?_; exact ⟨_, eZ, nZ, Bq⟩
    · replace c6 := Bool.eq_false_iff.mpr c6
      subst c6
      rw [if_neg (show ¬ (false = true) by decide)] at H
      simp only [Option.some.injEq, Prod.mk.injEq] at H
      obtain ⟨rfl, rfl, rfl, rfl⟩ := H
      go_enter Try.func30, Try.ntmps30
      go_wp2_with (first | ((with_reducible refine gate_dst (N := 2) rfl ?_); refine bE 2 #[.int .i64 a0_0, .int .i64 a0_1, .slice A0_2 l0_2.length c0_2] 49 ?_; intro gb244 hg w34 hbox hb; have n0_ := Bb HB hb; have n1_ := am (hbox); have n2_ := Gl HB hg; have n3_ := Gl HB hg; clear HB; revert n0_ n1_ n2_ n3_; intro HB BK244 GW244 GE244; clear hb hbox hg) | ((with_reducible refine gate_dst (N := 4) rfl ?_); refine bE 4 #[.int .i64 0, .int .i64 0, .slice none 0 0] 49 ?_; intro gb245 hg w35 hbox hb; have n0_ := Kb BK244 hb; have n1_ := Bc HB hb; have n2_ := am (hbox); have n3_ := Gm HB hg; have n4_ := Gm HB hg; have n5_ := Nl BK244 hg; have n6_ := Ng BK244 hg; clear BK244 HB; revert n0_ n1_ n2_ n3_ n4_ n5_ n6_; intro BK244 HB BK245 GW245 GE245 NB244_245 NB245_244; clear hb hbox hg; have hnb36 := NB244_245.out; have hnc36 := NB245_244.out; obtain ⟨hcz37_0, hcz37_1, hcz37_2, hfz37_0, hfz37_1, hfz37_2⟩ := cf3 (w := w35) BK244) | ((with_reducible refine gate_callee (f := 107) rfl ?_); refine gL (some 7) Try.func107 #[.agg #[.int .i64 a0_0, .int .i64 a0_1, .slice A0_2 l0_2.length c0_2]] ?_; (with_reducible refine (spec_fiCounting.calls k a0_0 a0_1 _ _ l0_2 true _ ?side1 ?side2 A3.out).mono ?_); (case side1 => exact Cz (Kd.C_below HR0_2.out HB.out)); (case side2 => exact HC0_2.out); rintro e w38 ⟨rfl, hb⟩; refine ⟨_, rfl, ?_⟩; have n0_ := Kb BK244 hb; have n1_ := Kb BK245 hb; have n2_ := Bc HB hb; clear BK244 BK245 HB; revert n0_ n1_ n2_; intro BK244 BK245 HB; (try clear hb); (try clear hb2); (try clear hk); (try clear hi)) | (go_at_call 95; (with_reducible refine (spec_IsKey.calls k a1 false _ A5.out).mono ?_); rintro e w' ⟨rfl, ⟨nd, rfl⟩⟩; (try (rw [drewN_self w38]; generalize hq_ : World.drewN w38 _ = w38; have n0_ : Aside0 (w38.heap[gb244]? = some (.cells #[.int .i64 a0_0, .int .i64 a0_1, .slice A0_2 l0_2.length c0_2] 49 (0, 0))) := ⟨by rw [← hq_]; exact (Kz BK244.out)⟩; have n1_ : Aside0 (w38.heap[gb245]? = some (.cells #[.int .i64 0, .int .i64 0, .slice none 0 0] 49 (0, 0))) := ⟨by rw [← hq_]; exact (Kz BK245.out)⟩; have n2_ : Aside0 (Below w.heap.size w w38) := ⟨by rw [← hq_]; exact (Bq)⟩; clear BK244 BK245 HB hq_; revert n0_ n1_ n2_; intro BK244 BK245 HB)); obtain ⟨hcz39_0, hcz39_1, hcz39_2, hfz39_0, hfz39_1, hfz39_2⟩ := cf3 (w := w38) BK245))
      refine bodyPost_ret (results_ct rfl _ _ gb245 49 #[.int .i64 0, .int .i64 0, .slice none 0 0] (0, 0) _ rfl (by refine bp ?_; refine blk_put (cs := #[.int .i64 0, .int .i64 0, .slice none 0 0]) ?_ 2 _ rfl; refine bp ?_; refine blk_put (cs := #[.int .i64 0, .int .i64 0, .slice none 0 0]) ?_ 1 _ rfl; refine bp ?_; refine blk_put (cs := #[.int .i64 0, .int .i64 0, .slice none 0 0]) ?_ 0 _ rfl; exact Kz BK245.out) Try.underlying49 rfl (by kernel_rfl)) rfl ?_; exact ⟨_, eZ, nZ, Bq⟩
  · replace c4 := Bool.eq_false_iff.mpr c4
    subst c4
    rw [if_neg (show ¬ (false = true) by decide)] at H
    simp only [Option.some.injEq, Prod.mk.injEq] at H
    obtain ⟨rfl, rfl, rfl, rfl⟩ := H
    go_enter Try.func30, Try.ntmps30
    go_wp2_with (first | ((with_reducible refine gate_dst (N := 2) rfl ?_); refine bE 2 #[.int .i64 a0_0, .int .i64 a0_1, .slice A0_2 l0_2.length c0_2] 49 ?_; intro gb244 hg w40 hbox hb; have n0_ := Bb HB hb; have n1_ := am (hbox); have n2_ := Gl HB hg; have n3_ := Gl HB hg; clear HB; revert n0_ n1_ n2_ n3_; intro HB BK244 GW244 GE244; clear hb hbox hg) | ((with_reducible refine gate_dst (N := 4) rfl ?_); refine bE 4 #[.int .i64 0, .int .i64 0, .slice none 0 0] 49 ?_; intro gb245 hg w41 hbox hb; have n0_ := Kb BK244 hb; have n1_ := Bc HB hb; have n2_ := am (hbox); have n3_ := Gm HB hg; have n4_ := Gm HB hg; have n5_ := Nl BK244 hg; have n6_ := Ng BK244 hg; clear BK244 HB; revert n0_ n1_ n2_ n3_ n4_ n5_ n6_; intro BK244 HB BK245 GW245 GE245 NB244_245 NB245_244; clear hb hbox hg; have hnb42 := NB244_245.out; have hnc42 := NB245_244.out; obtain ⟨hcz43_0, hcz43_1, hcz43_2, hfz43_0, hfz43_1, hfz43_2⟩ := cf3 (w := w41) BK244) | ((with_reducible refine gate_callee (f := 107) rfl ?_); refine gL (some 7) Try.func107 #[.agg #[.int .i64 a0_0, .int .i64 a0_1, .slice A0_2 l0_2.length c0_2]] ?_; (with_reducible refine (spec_fiCounting.calls k a0_0 a0_1 _ _ l0_2 false _ ?side1 ?side2 A3.out).mono ?_); (case side1 => exact Cz (Kd.C_below HR0_2.out HB.out)); (case side2 => exact HC0_2.out); rintro e w44 ⟨rfl, hb⟩; refine ⟨_, rfl, ?_⟩; have n0_ := Kb BK244 hb; have n1_ := Kb BK245 hb; have n2_ := Bc HB hb; clear BK244 BK245 HB; revert n0_ n1_ n2_; intro BK244 BK245 HB; (try clear hb); (try clear hb2); (try clear hk); (try clear hi); obtain ⟨hcz45_0, hcz45_1, hcz45_2, hfz45_0, hfz45_1, hfz45_2⟩ := cf3 (w := w44) BK245))
    refine bodyPost_ret (results_ct rfl _ _ gb245 49 #[.int .i64 0, .int .i64 0, .slice none 0 0] (0, 0) _ rfl (by refine bp ?_; refine blk_put (cs := #[.int .i64 0, .int .i64 0, .slice none 0 0]) ?_ 2 _ rfl; refine bp ?_; refine blk_put (cs := #[.int .i64 0, .int .i64 0, .slice none 0 0]) ?_ 1 _ rfl; refine bp ?_; refine blk_put (cs := #[.int .i64 0, .int .i64 0, .slice none 0 0]) ?_ 0 _ rfl; exact Kz BK245.out) Try.underlying49 rfl (by kernel_rfl)) rfl ?_; exact ⟨_, eZ, nZ, Bq⟩

-- NOT PRINTED: function 180 (slices_IndexFunc_int_int)

-- NOT PRINTED: function 133 (slices_ContainsFunc_int_int)

def impl_IsCounting_1.f (a0 : Int) : Option (Bool) := (impl_in.f a0 0 15).bind fun t261 => (some (!t261))
theorem impl_IsCounting_1.calls (a0 : Int) (r : Bool) (w : World) (h : impl_IsCounting_1.f a0 = some r) :
    Calls Try.prog 134 #[.int .i64 a0] w fun e w' => e = .returned (.bool r) ∧ Drawn0 w w' := by
  have H : ((impl_in.f a0 0 15).bind fun t261 => (some (!t261))) = some r := h; clear h; obtain ⟨t261, A2, H⟩ := ob H; (try dsimp -simprocs only at H); obtain rfl := Option.some.inj H
  go_enter Try.func134, Try.ntmps134
  go_wp2_with (first | ((with_reducible refine gate_callee (f := 126) rfl ?_); refine gL (some 4) Try.func126 #[.int .i64 a0, .int .i64 0, .int .i64 15] ?_; (with_reducible refine (impl_in.calls a0 0 15 t261 _ A2.out).mono ?_); rintro e w' ⟨rfl, ⟨nd, rfl⟩⟩; refine ⟨_, rfl, ?_⟩))
  go_ret
  exact ⟨by first | rfl | (simp; done) | (simp [*]; done), by repeat (first | exact Drawn0.refl _ | apply Drawn0.step)⟩

def slices_IndexFunc_int_int_at_impl_IsCounting_1.l0 : Nat → List Int → Int → Int → Option (Int)
  | 0, _, _, _ => none
  | k + 1, x0, x7, x8 => if x8 < x7 then (if 0 ≤ x8 then (if x8 < (x0.length : Int) then ((impl_IsCounting_1.f (rd x0 x8)).bind fun t264 => (if t264 = true then (some x8) else (slices_IndexFunc_int_int_at_impl_IsCounting_1.l0 k x0 x7 (wrap64 (x8 + 1))))) else (none)) else (none)) else (some (-1))
def slices_IndexFunc_int_int_at_impl_IsCounting_1.f (k : Nat) (l0 : List Int)  : Option (Int) := slices_IndexFunc_int_int_at_impl_IsCounting_1.l0 k l0 (l0.length : Int) 0
theorem slices_IndexFunc_int_int_at_impl_IsCounting_1.calls (k : Nat) (A0 : Option Addr) (c0 : Nat) (l0 : List Int)  (r : Int) (w : World) (hr0 : Kd.C (Kd.int .i64) w A0 l0.length l0) (hc0 : l0.length ≤ c0) (h : slices_IndexFunc_int_int_at_impl_IsCounting_1.f k l0 = some r) :
    Calls Try.prog 180 #[.slice A0 l0.length c0, .func (.func 134) #[] #[]] w fun e w' => e = .returned (.int .i64 r) ∧ Drawn0 w w' := by
  have HR0 := am hr0; have HC0 := am hc0; clear hr0 hc0; have H : (slices_IndexFunc_int_int_at_impl_IsCounting_1.l0 k l0 (l0.length : Int) 0) = some r := h; clear h; have H' := am H; clear H
  go_enter Try.func180, Try.ntmps180
  go_wp2
  go_loopg [8] k (fun kq v8 w' => ∃ (x8_1 : Int), v8 = .int .i64 x8_1 ∧ Aside0 (slices_IndexFunc_int_int_at_impl_IsCounting_1.l0 kq l0 (l0.length : Int) x8_1 = some r) ∧ Aside0 (kq ≤ k) ∧ Drawn0 w w')
  case atStart => exact ⟨(0), wZ, H', ⟨Nat.le_refl _⟩, by repeat (first | exact Drawn0.refl _ | apply Drawn0.step)⟩
  case round =>
    clear H'
    try clear c1
    try clear p2
    obtain ⟨x8_1, rfl, HA, HK1, ⟨m1, rfl⟩⟩ := hrel; cases gk with
    | zero => exact absurd HA.out (by simp [slices_IndexFunc_int_int_at_impl_IsCounting_1.l0])
    | succ k1 =>
      have H := HA.out; clear HA
      simp only [slices_IndexFunc_int_int_at_impl_IsCounting_1.l0] at H
      by_cases c3 : x8_1 < (l0.length : Int)
      · rw [if_pos c3] at H
        have c3b0 : decide (x8_1 < (l0.length : Int)) = true := decide_eq_true c3; clear c3
        by_cases c4 : 0 ≤ x8_1
        · rw [if_pos c4] at H
          have c4b0 : decide (0 ≤ x8_1) = true := decide_eq_true c4; clear c4
          by_cases c5 : x8_1 < (l0.length : Int)
          · rw [if_pos c5] at H
            have c5b0 : decide (x8_1 < (l0.length : Int)) = true := decide_eq_true c5; clear c5; obtain ⟨t264, A6, H⟩ := ob H; (try dsimp -simprocs only at H)
            by_cases c7 : t264 = true
            · subst c7
              rw [if_pos rfl] at H; obtain rfl := Option.some.inj H; obtain ⟨ad263, e263, hx263_0⟩ := Kd.at_int HR0.out x8_1 dT dT; cases e263; have p263 := eT (0 ≤ (x8_1 : Int)); have q263 := eT (x8_1 < (l0.length : Int))
              go_wp2_with (first | (go_at_call 134; (with_reducible refine (impl_IsCounting_1.calls (rd l0 x8_1) true _ A6.out).mono ?_); rintro e w' ⟨rfl, ⟨nd, rfl⟩⟩))
              go_ret
              exact ⟨by first | rfl | (simp; done) | (simp [*]; done), by repeat (first | exact Drawn0.refl _ | apply Drawn0.step)⟩
            · replace c7 := Bool.eq_false_iff.mpr c7
              subst c7
              rw [if_neg (show ¬ (false = true) by decide)] at H; have H' := am H; clear H; obtain ⟨ad263, e263, hx263_0⟩ := Kd.at_int HR0.out x8_1 dT dT; cases e263; have p263 := eT (0 ≤ (x8_1 : Int)); have q263 := eT (x8_1 < (l0.length : Int))
              go_wp2_with (first | (go_at_call 134; (with_reducible refine (impl_IsCounting_1.calls (rd l0 x8_1) false _ A6.out).mono ?_); rintro e w' ⟨rfl, ⟨nd, rfl⟩⟩))
              go_roundg k1
              case measure => have := HK1.out; omega
              case rel => exact ⟨(wrap64 (x8_1 + 1)), wZ, H', ⟨by have := HK1.out; omega⟩, by repeat (first | exact Drawn0.refl _ | apply Drawn0.step)⟩
          · rw [if_neg c5] at H
            exact absurd H (by simp)
        · rw [if_neg c4] at H
          exact absurd H (by simp)
      · rw [if_neg c3] at H
        have c3b0 : decide (x8_1 < (l0.length : Int)) = false := decide_eq_false c3; clear c3; obtain rfl := Option.some.inj H
        go_wp2
        go_ret
        exact ⟨by first | rfl | (simp; done) | (simp [*]; done), by repeat (first | exact Drawn0.refl _ | apply Drawn0.step)⟩

def slices_ContainsFunc_int_int_at_impl_IsCounting_1.f (k : Nat) (l0 : List Int)  : Option (Bool) := (slices_IndexFunc_int_int_at_impl_IsCounting_1.f k l0).bind fun t265 => (some (decide (t265 ≥ 0)))
theorem slices_ContainsFunc_int_int_at_impl_IsCounting_1.calls (k : Nat) (A0 : Option Addr) (c0 : Nat) (l0 : List Int)  (r : Bool) (w : World) (hr0 : Kd.C (Kd.int .i64) w A0 l0.length l0) (hc0 : l0.length ≤ c0) (h : slices_ContainsFunc_int_int_at_impl_IsCounting_1.f k l0 = some r) :
    Calls Try.prog 133 #[.slice A0 l0.length c0, .func (.func 134) #[] #[]] w fun e w' => e = .returned (.bool r) ∧ Drawn0 w w' := by
  have HR0 := am hr0; have HC0 := am hc0; clear hr0 hc0; have H : ((slices_IndexFunc_int_int_at_impl_IsCounting_1.f k l0).bind fun t265 => (some (decide (t265 ≥ 0)))) = some r := h; clear h; obtain ⟨t265, A3, H⟩ := ob H; (try dsimp -simprocs only at H); obtain rfl := Option.some.inj H
  go_enter Try.func133, Try.ntmps133
  go_wp2_with (first | ((with_reducible refine gate_callee (f := 180) rfl ?_); refine gL (some 7) Try.func180 #[.slice A0 l0.length c0, .func (.func 134) #[] #[]] ?_; (with_reducible refine (slices_IndexFunc_int_int_at_impl_IsCounting_1.calls k _ _ l0  t265 _ ?side1 ?side2 A3.out).mono ?_); (case side1 => exact Cz HR0.out); (case side2 => exact HC0.out); rintro e w' ⟨rfl, ⟨nd, rfl⟩⟩; refine ⟨_, rfl, ?_⟩))
  go_ret
  exact ⟨by first | rfl | (simp; done) | (simp [*]; done), by repeat (first | exact Drawn0.refl _ | apply Drawn0.step)⟩

def impl_IsCounting.f (k : Nat) (a0_0 : Int) (a0_1 : Int) (l0_2 : List Int) : Option (Bool) := (slices_ContainsFunc_int_int_at_impl_IsCounting_1.f k l0_2).bind fun t267 => (if t267 = true then (some false) else ((impl_sizesOk.f a0_0 a0_1 (l0_2.length : Int)).bind fun t268 => (some t268)))
theorem impl_IsCounting.calls (k : Nat) (a0_0 : Int) (a0_1 : Int) (A0_2 : Option Addr) (c0_2 : Nat) (l0_2 : List Int) (r : Bool) (w : World) (hr0_2 : Kd.C (Kd.int .i64) w A0_2 l0_2.length l0_2) (hc0_2 : l0_2.length ≤ c0_2) (h : impl_IsCounting.f k a0_0 a0_1 l0_2 = some r) :
    Calls Try.prog 67 #[.agg #[.int .i64 a0_0, .int .i64 a0_1, .slice A0_2 l0_2.length c0_2]] w fun e w' => e = .returned (.bool r) ∧ Below w.heap.size w w' := by
  have hu49 := Try.underlying49; have HR0_2 := am hr0_2; have HC0_2 := am hc0_2; clear hr0_2 hc0_2; have HB := am (Below.refl w.heap.size w); have H : ((slices_ContainsFunc_int_int_at_impl_IsCounting_1.f k l0_2).bind fun t267 => (if t267 = true then (some false) else ((impl_sizesOk.f a0_0 a0_1 (l0_2.length : Int)).bind fun t268 => (some t268)))) = some r := h; clear h; obtain ⟨t267, A2, H⟩ := ob H; (try dsimp -simprocs only at H)
  by_cases c3 : t267 = true
  · subst c3
    rw [if_pos rfl] at H; obtain rfl := Option.some.inj H
    go_enter Try.func67, Try.ntmps67
    go_wp2_with (first | ((with_reducible refine gate_dst (N := 1) rfl ?_); (try (refine gate_guard (by rfl) ?_; dsimp only)); refine bE 1 #[.int .i64 a0_0, .int .i64 a0_1, .slice A0_2 l0_2.length c0_2] 49 ?_; intro gb266 hg w4 hbox hb; have n0_ := Bb HB hb; have n1_ := am (hbox); have n2_ := Gl HB hg; have n3_ := Gl HB hg; clear HB; revert n0_ n1_ n2_ n3_; intro HB BK266 GW266 GE266; clear hb hbox hg; obtain ⟨hcz5_0, hcz5_1, hcz5_2, hfz5_0, hfz5_1, hfz5_2⟩ := cf3 (w := w4) BK266) | ((with_reducible refine gate_callee (f := 133) rfl ?_); refine gL (some 6) Try.func133 #[.slice A0_2 l0_2.length c0_2, .func (.func 134) #[] #[]] ?_; (with_reducible refine (slices_ContainsFunc_int_int_at_impl_IsCounting_1.calls k _ _ l0_2  true _ ?side1 ?side2 A2.out).mono ?_); (case side1 => exact Cz (Kd.C_below HR0_2.out HB.out)); (case side2 => exact HC0_2.out); rintro e w' ⟨rfl, ⟨nd, rfl⟩⟩; refine ⟨_, rfl, ?_⟩))
    go_ret
    exact ⟨eZ, Bq⟩
  · replace c3 := Bool.eq_false_iff.mpr c3
    subst c3
    rw [if_neg (show ¬ (false = true) by decide)] at H; obtain ⟨t268, A6, H⟩ := ob H; (try dsimp -simprocs only at H); obtain rfl := Option.some.inj H
    go_enter Try.func67, Try.ntmps67
    go_wp2_with (first | ((with_reducible refine gate_dst (N := 1) rfl ?_); (try (refine gate_guard (by rfl) ?_; dsimp only)); refine bE 1 #[.int .i64 a0_0, .int .i64 a0_1, .slice A0_2 l0_2.length c0_2] 49 ?_; intro gb266 hg w7 hbox hb; have n0_ := Bb HB hb; have n1_ := am (hbox); have n2_ := Gl HB hg; have n3_ := Gl HB hg; clear HB; revert n0_ n1_ n2_ n3_; intro HB BK266 GW266 GE266; clear hb hbox hg; obtain ⟨hcz8_0, hcz8_1, hcz8_2, hfz8_0, hfz8_1, hfz8_2⟩ := cf3 (w := w7) BK266) | ((with_reducible refine gate_callee (f := 133) rfl ?_); refine gL (some 6) Try.func133 #[.slice A0_2 l0_2.length c0_2, .func (.func 134) #[] #[]] ?_; (with_reducible refine (slices_ContainsFunc_int_int_at_impl_IsCounting_1.calls k _ _ l0_2  false _ ?side1 ?side2 A2.out).mono ?_); (case side1 => exact Cz (Kd.C_below HR0_2.out HB.out)); (case side2 => exact HC0_2.out); rintro e w' ⟨rfl, ⟨nd, rfl⟩⟩; refine ⟨_, rfl, ?_⟩) | (go_at_call 102; (with_reducible refine (impl_sizesOk.calls a0_0 a0_1 (l0_2.length : Int) t268 _ A6.out).mono ?_); rintro e w' ⟨rfl, ⟨nd, rfl⟩⟩))
    go_ret
    exact ⟨eZ, Bq⟩

def impl_Bits_at.f (a0_0 : Int) (l0_1 : List Int) (a1 : Int) : Option (Bool) := if 0 ≤ (wrap64 (Int.tdiv a1 16)) then (if (wrap64 (Int.tdiv a1 16)) < (l0_1.length : Int) then (if 0 ≤ (Int.tmod a1 16) then (some ((Go.bits .and .i64 (shr .i64 (rd l0_1 (wrap64 (Int.tdiv a1 16))) (Int.tmod a1 16)) 1) == 1)) else (none)) else (none)) else (none)
theorem impl_Bits_at.calls_v0_28_2 (g0 : Nat) (z0_0 : Int) (z0_1 : Int) (a0_0 : Int) (A0_1 : Option Addr) (c0_1 : Nat) (l0_1 : List Int) (a1 : Int) (r : Bool) (w : World) (hb0 : w.heap[g0]? = some (.cells #[.int .i64 z0_0, .int .i64 z0_1, .int .i64 a0_0, .slice A0_1 l0_1.length c0_1] 28 (0, 0))) (hr0_1 : Kd.C (Kd.int .i64) w A0_1 l0_1.length l0_1) (hc0_1 : l0_1.length ≤ c0_1) (h : impl_Bits_at.f a0_0 l0_1 a1 = some r) :
    Calls Try.prog 127 #[.pointer (some ⟨g0, 2, none⟩), .int .i64 a1] w fun e w' => e = .returned (.bool r) ∧ Drawn0 w w' := by
  have HR0_1 := am hr0_1; have HC0_1 := am hc0_1; clear hr0_1 hc0_1; have BK0 := am hb0; clear hb0; have H : (if 0 ≤ (wrap64 (Int.tdiv a1 16)) then (if (wrap64 (Int.tdiv a1 16)) < (l0_1.length : Int) then (if 0 ≤ (Int.tmod a1 16) then (some ((Go.bits .and .i64 (shr .i64 (rd l0_1 (wrap64 (Int.tdiv a1 16))) (Int.tmod a1 16)) 1) == 1)) else (none)) else (none)) else (none)) = some r := h; clear h; obtain ⟨ji3, hji3⟩ : ∃ j_ : Int, (wrap64 (Int.tdiv a1 16)) = j_ := ⟨_, rfl⟩
  replace H : (if 0 ≤ (ji3) then (if (ji3) < (l0_1.length : Int) then (if 0 ≤ (Int.tmod a1 16) then (some ((Go.bits .and .i64 (shr .i64 (rd l0_1 (ji3)) (Int.tmod a1 16)) 1) == 1)) else (none)) else (none)) else (none)) = some r := by first | (rw [hji3] at H; exact H) | (simp only [hji3] at H ⊢; exact H)
  have hji3w : (IntKind.i64.wrap (Int.tdiv a1 16)) = ji3 := (i64_w _).trans hji3
  by_cases c4 : 0 ≤ (ji3)
  · rw [if_pos c4] at H
    have c4b0 : decide (0 ≤ (ji3)) = true := decide_eq_true c4; clear c4
    by_cases c5 : (ji3) < (l0_1.length : Int)
    · rw [if_pos c5] at H
      have c5b0 : decide ((ji3) < (l0_1.length : Int)) = true := decide_eq_true c5; clear c5; obtain ⟨ji6, hji6⟩ : ∃ j_ : Int, (Int.tmod a1 16) = j_ := ⟨_, rfl⟩
      replace H : (if 0 ≤ (ji6) then (some ((Go.bits .and .i64 (shr .i64 (rd l0_1 (ji3)) (ji6)) 1) == 1)) else (none)) = some r := by first | (rw [hji6] at H; exact H) | (simp only [hji6] at H ⊢; exact H)
      by_cases c7 : 0 ≤ (ji6)
      · rw [if_pos c7] at H
        have c7b0 := eq_true c7; have c7b1 : decide (0 ≤ (ji6)) = true := decide_eq_true c7; clear c7; obtain ⟨ji8, hji8⟩ : ∃ j_ : Int, (shr .i64 (rd l0_1 (ji3)) (ji6)) = j_ := ⟨_, rfl⟩
        replace H : (some ((Go.bits .and .i64 (ji8) 1) == 1)) = some r := by first | (rw [hji8] at H; exact H) | (simp only [hji8] at H ⊢; exact H)
        have hji8_ : ((rd l0_1 (ji3)) / 2 ^ min (ji6).toNat 64) = ji8 := hji8; have hji8z : (ji6) ≤ 64 → ((rd l0_1 (ji3)) / 2 ^ (ji6).toNat) = ji8 := shr_small hji8; obtain rfl := Option.some.inj H; obtain ⟨hcz9_0, hcz9_1, hcz9_2, hcz9_3, hfz9_0, hfz9_1, hfz9_2, hfz9_3⟩ := cf4 (w := w) BK0; obtain ⟨ad271, e271, hx271_0⟩ := Kd.at_int HR0_1.out (ji3) dT dT; cases e271; have p271 := eT (0 ≤ ((ji3) : Int)); have q271 := eT ((ji3) < (l0_1.length : Int))
        go_enter Try.func127, Try.ntmps127
        go_wp2
        go_ret
        exact ⟨by first | rfl | (simp; done) | (simp only [← hji3, ← hji6, ← hji8] <;> (first | rfl | simp)) | (simp [*]; done), by repeat (first | exact Drawn0.refl _ | apply Drawn0.step)⟩
      · rw [if_neg c7] at H
        exact absurd H (by simp)
    · rw [if_neg c5] at H
      exact absurd H (by simp)
  · rw [if_neg c4] at H
    exact absurd H (by simp)

def impl_Bloom_says.l0 : Nat → ByteArray → Int → Int → Int → Int → Int → List Int → Option (Bool)
  | 0, _, _, _, _, _, _, _ => none
  | k + 1, x1, x9, x10, x1000, x1001, x1002, x1003 => if x10 < x9 then ((impl_place.f k x1000 x10 x1 x1002).bind fun t272 => ((impl_Bits_at.f x1002 x1003 t272).bind fun t273 => (if t273 = true then (impl_Bloom_says.l0 k x1 x9 (wrap64 (x10 + 1)) x1000 x1001 x1002 x1003) else (some false)))) else (some true)
def impl_Bloom_says.f (k : Nat) (a0_0 : Int) (a0_1 : Int) (a0_2 : Int) (l0_3 : List Int) (a1 : ByteArray) : Option (Bool) := impl_Bloom_says.l0 k a1 a0_1 0 a0_0 a0_1 a0_2 l0_3
def impl_Bloom_says.T4 : Bool × List (List Nat × List Nat) := (true, [([], []), ([0], [0]), ([1], [1]), ([], []), ([3], [3]), ([4], [4]), ([5], [5]), ([], []), ([], []), ([], []), ([9], [9]), ([10], [10]), ([11], [11]), ([12], [12]), ([6, 7, 8, 13], [6, 7, 8, 13]), ([2, 14, 14], [2, 14]), ([15], [15])])
def impl_Bloom_says.B4 : List Nat := [0, 1, 3, 0, 8, 24, 56, 0, 0, 0, 512, 1536, 3584, 7680, 16376, 32767, 65535]
theorem impl_Bloom_says.tab4 : rtab .any (opsOf Try.f105 4) = impl_Bloom_says.T4 := by kernel_rfl
theorem impl_Bloom_says.bits4 : waitsOk impl_Bloom_says.T4.2 impl_Bloom_says.B4 = true := by kernel_rfl
theorem impl_Bloom_says.calls (k : Nat) (g0 : Nat) (a0_0 : Int) (a0_1 : Int) (a0_2 : Int) (A0_3 : Option Addr) (c0_3 : Nat) (l0_3 : List Int) (a1 : ByteArray) (r : Bool) (w : World) (hb0 : w.heap[g0]? = some (.cells #[.int .i64 a0_0, .int .i64 a0_1, .int .i64 a0_2, .slice A0_3 l0_3.length c0_3] 28 (0, 0))) (hr0_3 : Kd.C (Kd.int .i64) w A0_3 l0_3.length l0_3) (hc0_3 : l0_3.length ≤ c0_3) (h : impl_Bloom_says.f k a0_0 a0_1 a0_2 l0_3 a1 = some r) :
    Calls Try.prog 105 #[.pointer (some ⟨g0, 0, none⟩), .string a1] w fun e w' => e = .returned (.bool r) ∧ Below w.heap.size w w' := by
  have HR0_3 := am hr0_3; have HC0_3 := am hc0_3; clear hr0_3 hc0_3; have BK0 := am hb0; clear hb0; have HB := am (Below.refl w.heap.size w); have H : (impl_Bloom_says.l0 k a1 a0_1 0 a0_0 a0_1 a0_2 l0_3) = some r := h; clear h; have H' := am H; clear H; obtain ⟨hcz3_0, hcz3_1, hcz3_2, hcz3_3, hfz3_0, hfz3_1, hfz3_2, hfz3_3⟩ := cf4 (w := w) BK0
  go_enter Try.func105, Try.ntmps105
  go_wp2
  go_loopg [10] k (fun kq v10 w' => ∃ (x10_1 : Int), v10 = .int .i64 x10_1 ∧ Aside0 (impl_Bloom_says.l0 kq a1 a0_1 x10_1 a0_0 a0_1 a0_2 l0_3 = some r) ∧ Aside0 (kq ≤ k) ∧ Aside0 (w'.heap[g0]? = some (.cells #[.int .i64 a0_0, .int .i64 a0_1, .int .i64 a0_2, (.slice A0_3 l0_3.length c0_3)] 28 (0, 0))) ∧ Aside0 (Below w.heap.size w w'))
  case atStart => exact ⟨(0), wZ, H', ⟨Nat.le_refl _⟩, ⟨Kz BK0.out⟩, ⟨Bq⟩⟩
  case round =>
    clear H'
    try clear c1
    try clear p2
    obtain ⟨x10_1, rfl, HA, HK1, BK0, HB⟩ := hrel; cases gk with
    | zero => exact absurd HA.out (by simp [impl_Bloom_says.l0])
    | succ k1 =>
      have H := HA.out; clear HA
      simp only [impl_Bloom_says.l0] at H
      by_cases c4 : x10_1 < a0_1
      · rw [if_pos c4] at H
        have c4b0 : decide (x10_1 < a0_1) = true := decide_eq_true c4; clear c4; obtain ⟨t272, A5, H⟩ := ob H; (try dsimp -simprocs only at H); obtain ⟨t273, A6, H⟩ := ob H; (try dsimp -simprocs only at H)
        by_cases c7 : t273 = true
        · subst c7
          rw [if_pos rfl] at H; have H' := am H; clear H
          try go_wp2
          have n0_ := am (blk_drew BK0.out); have n1_ := am (below_drew1 HB.out); clear BK0 HB; revert n0_ n1_; intro BK0 HB; refine start_ (n := 17) (S := fun w' => w'.cell? ⟨g0, 0, none⟩ = some (.int .i64 a0_0) ∧ w'.cell? ⟨g0, 1, none⟩ = some (.int .i64 a0_1) ∧ w'.cell? ⟨g0, 2, none⟩ = some (.int .i64 a0_2) ∧ w'.cell? ⟨g0, 3, none⟩ = some (.slice A0_3 l0_3.length c0_3)) (ds := []) (bA 17 0) (by kernel_rfl) rfl rfl ⟨cz BK0 0, cz BK0 1, cz BK0 2, cz BK0 3⟩ (fun hHeld => ?_); refine with_tabW impl_Bloom_says.tab4 impl_Bloom_says.bits4 (fun HT_ HW_ => ?_); generalize wr.drew = w8 at BK0 HB hHeld ⊢; refine pure_ (i := 0) (N := some 13) (v := ?_) (a' := ?_) (bA 17 1) rfl rfl (any_of HT_.out (by kernel_rfl)) (fun _ _ _ h => h) (Or.inl ⟨by rfl, ?_⟩) ?_ ?_
          rotate_left
          · intro w'
            go_simp
            with_reducible rfl
          rotate_left
          · simp only [aP, i64_w, i32_w]
            rfl
          refine pure_ (i := 1) (N := some 14) (v := ?_) (a' := ?_) (bA 17 3) rfl rfl (any_of HT_.out (by kernel_rfl)) (fun _ _ _ h => h) (Or.inl ⟨by rfl, ?_⟩) ?_ ?_
          rotate_left
          · intro w'
            go_simp
            with_reducible rfl
          rotate_left
          · simp only [aP, i64_w, i32_w]
            rfl
          refine pure_ (i := 2) (N := some 15) (v := ?_) (a' := ?_) (bA 17 7) rfl rfl (any_of HT_.out (by kernel_rfl)) (fun _ _ _ h => h) (Or.inl ⟨by rfl, ?_⟩) ?_ ?_
          rotate_left
          · intro w'
            go_simp
            with_reducible rfl
          rotate_left
          · simp only [aP, i64_w, i32_w]
            rfl
          refine pure_ (i := 3) (N := some 16) (v := ?_) (a' := ?_) (bA 17 15) rfl rfl (any_of HT_.out (by kernel_rfl)) (fun _ _ _ h => h) (Or.inl ⟨by rfl, ?_⟩) ?_ ?_
          rotate_left
          · intro w'
            go_simp
            with_reducible rfl
          rotate_left
          · simp only [aP, i64_w, i32_w]
            rfl
          refine pure_ (i := 4) (N := some 17) (v := ?_) (a' := ?_) (bA 17 31) rfl rfl (any_of HT_.out (by kernel_rfl)) (fun _ _ _ h => h) (Or.inl ⟨by rfl, ?_⟩) ?_ ?_
          rotate_left
          · intro w'
            go_simp
            with_reducible rfl
          rotate_left
          · simp only [aP, i64_w, i32_w]
            rfl
          refine pure_ (i := 5) (N := some 18) (v := ?_) (a' := ?_) (bA 17 63) rfl rfl (any_of HT_.out (by kernel_rfl)) (fun _ _ _ h => h) (Or.inl ⟨by rfl, ?_⟩) ?_ ?_
          rotate_left
          · intro w'
            go_simp
            with_reducible rfl
          rotate_left
          · simp only [aP, i64_w, i32_w]
            rfl
          refine pure_ (i := 7) (N := some 20) (v := ?_) (a' := ?_) (bA 17 191) rfl rfl (any_of HT_.out (by kernel_rfl)) (fun _ _ _ h => h) (Or.inl ⟨by rfl, ?_⟩) ?_ ?_
          rotate_left
          · intro w'
            go_simp
            with_reducible rfl
          rotate_left
          · simp only [aP, i64_w, i32_w]
            rfl
          refine pure_ (i := 8) (N := some 21) (v := ?_) (a' := ?_) (bA 17 447) rfl rfl (any_of HT_.out (by kernel_rfl)) (fun _ _ _ h => h) (Or.inl ⟨by rfl, ?_⟩) ?_ ?_
          rotate_left
          · intro w'
            go_simp
            with_reducible rfl
          rotate_left
          · simp only [aP, i64_w, i32_w]
            rfl
          refine pure_ (i := 9) (N := some 22) (v := ?_) (a' := ?_) (bA 17 959) rfl rfl (any_of HT_.out (by kernel_rfl)) (fun _ _ _ h => h) (Or.inl ⟨by rfl, ?_⟩) ?_ ?_
          rotate_left
          · intro w'
            go_simp
            with_reducible rfl
          rotate_left
          · simp only [aP, i64_w, i32_w]
            rfl
          refine pure_ (i := 10) (N := some 23) (v := ?_) (a' := ?_) (bA 17 1983) rfl rfl (any_of HT_.out (by kernel_rfl)) (fun _ _ _ h => h) (Or.inl ⟨by rfl, ?_⟩) ?_ ?_
          rotate_left
          · intro w'
            go_simp
            with_reducible rfl
          rotate_left
          · simp only [aP, i64_w, i32_w]
            rfl
          refine pure_ (i := 11) (N := some 24) (v := ?_) (a' := ?_) (bA 17 4031) rfl rfl (any_of HT_.out (by kernel_rfl)) (fun _ _ _ h => h) (Or.inl ⟨by rfl, ?_⟩) ?_ ?_
          rotate_left
          · intro w'
            go_simp
            with_reducible rfl
          rotate_left
          · simp only [aP, i64_w, i32_w]
            rfl
          refine pure_ (i := 12) (N := some 25) (v := ?_) (a' := ?_) (bA 17 8127) rfl rfl (any_of HT_.out (by kernel_rfl)) (fun _ _ _ h => h) (Or.inl ⟨by rfl, ?_⟩) ?_ ?_
          rotate_left
          · intro w'
            go_simp
            with_reducible rfl
          rotate_left
          · simp only [aP, i64_w, i32_w]
            rfl
          refine take_ (i := 6) (N := some 19) (v := ?_) (a' := ?_) (bA 17 8191) rfl rfl (take_ofW HT_.out HW_.out (by kernel_rfl)) (fun _ _ _ h => h) (Or.inl ⟨by rfl, ?_⟩) hHeld ?_ ?_
          rotate_left
          · rintro w' ⟨s0, s1, s2, s3⟩
            go_simp
            with_reducible rfl
          rotate_left
          · simp only [aP, i64_w, i32_w]
            rfl
          refine take_ (i := 13) (N := some 26) (v := ?_) (a' := ?_) (bA 17 16383) rfl rfl (take_ofW HT_.out HW_.out (by kernel_rfl)) (fun _ _ _ h => h) (Or.inl ⟨by rfl, ?_⟩) hHeld ?_ ?_
          rotate_left
          · rintro w' ⟨s0, s1, s2, s3⟩
            go_simp
            with_reducible rfl
          rotate_left
          · simp only [aP, i64_w, i32_w]
            rfl
          refine oZ 14 (some 27) (bA 17 32767) HT_.out (fun K hK => ?_); refine gZ Try.func129 #[.int .i64 a0_0, .int .i64 x10_1, .string a1, .int .i64 a0_2] ?_
          with_reducible refine (impl_place.calls k1 a0_0 x10_1 a1 a0_2 t272 _ A5.out).mono ?_
          rintro e w' ⟨rfl, ⟨nd, rfl⟩⟩; refine ⟨_, rfl, ?_⟩; refine hK.out _ _ ⟨cz BK0 0, cz BK0 1, cz BK0 2, cz BK0 3⟩ (fun hHeld => ?_); clear hK K; refine norm_ (a' := ?_) ?_ ?_
          rotate_left
          · show Act.put _ (some 27) _ = _
            simp only [aP, i64_w, i32_w]
            rfl
          refine oZ 15 (some 28) (bA 17 65535) HT_.out (fun K hK => ?_); refine gZ Try.func127 #[.pointer (some ⟨g0, 2, none⟩), .int .i64 t272] ?_
          with_reducible refine (impl_Bits_at.calls_v0_28_2 g0 a0_0 a0_1 a0_2 A0_3 c0_3 l0_3 t272 true _ ?side1 ?side2 ?side3 A6.out).mono ?_
          (case side1 => exact Kz BK0.out)
          (case side2 => exact Cz (Kd.C_below HR0_3.out (Bq)))
          (case side3 => exact HC0_3.out)
          rintro e w' ⟨rfl, ⟨nd, rfl⟩⟩; refine ⟨_, rfl, ?_⟩; refine hK.out _ _ ⟨cz BK0 0, cz BK0 1, cz BK0 2, cz BK0 3⟩ (fun hHeld => ?_); clear hK K; refine norm_ (a' := ?_) ?_ ?_
          rotate_left
          · show Act.put _ (some 28) _ = _
            simp only [aP, i64_w, i32_w]
            rfl
          refine pure_ (i := 16) (N := some 29) (v := ?_) (a' := ?_) (bA 17 131071) rfl rfl (any_of HT_.out (by kernel_rfl)) (fun _ _ _ h => h) (Or.inl ⟨by rfl, ?_⟩) ?_ ?_
          rotate_left
          · intro w'
            go_simp
            with_reducible rfl
          rotate_left
          · simp only [aP, i64_w, i32_w]
            rfl
          refine done_ (done_of HT_.out (by kernel_rfl)) ?_
          try go_wp2
          go_roundg k1
          case measure => have := HK1.out; omega
          case rel => exact ⟨(wrap64 (x10_1 + 1)), wZ, H', ⟨by have := HK1.out; omega⟩, ⟨Kz BK0.out⟩, ⟨Bq⟩⟩
        · replace c7 := Bool.eq_false_iff.mpr c7
          subst c7
          rw [if_neg (show ¬ (false = true) by decide)] at H; obtain rfl := Option.some.inj H
          try go_wp2
          have n0_ := am (blk_drew BK0.out); have n1_ := am (below_drew1 HB.out); clear BK0 HB; revert n0_ n1_; intro BK0 HB; refine start_ (n := 17) (S := fun w' => w'.cell? ⟨g0, 0, none⟩ = some (.int .i64 a0_0) ∧ w'.cell? ⟨g0, 1, none⟩ = some (.int .i64 a0_1) ∧ w'.cell? ⟨g0, 2, none⟩ = some (.int .i64 a0_2) ∧ w'.cell? ⟨g0, 3, none⟩ = some (.slice A0_3 l0_3.length c0_3)) (ds := []) (bA 17 0) (by kernel_rfl) rfl rfl ⟨cz BK0 0, cz BK0 1, cz BK0 2, cz BK0 3⟩ (fun hHeld => ?_); refine with_tabW impl_Bloom_says.tab4 impl_Bloom_says.bits4 (fun HT_ HW_ => ?_); generalize wr.drew = w9 at BK0 HB hHeld ⊢; refine pure_ (i := 0) (N := some 13) (v := ?_) (a' := ?_) (bA 17 1) rfl rfl (any_of HT_.out (by kernel_rfl)) (fun _ _ _ h => h) (Or.inl ⟨by rfl, ?_⟩) ?_ ?_
          rotate_left
          · intro w'
            go_simp
            with_reducible rfl
          rotate_left
          · simp only [aP, i64_w, i32_w]
            rfl
          refine pure_ (i := 1) (N := some 14) (v := ?_) (a' := ?_) (bA 17 3) rfl rfl (any_of HT_.out (by kernel_rfl)) (fun _ _ _ h => h) (Or.inl ⟨by rfl, ?_⟩) ?_ ?_
          rotate_left
          · intro w'
            go_simp
            with_reducible rfl
          rotate_left
          · simp only [aP, i64_w, i32_w]
            rfl
          refine pure_ (i := 2) (N := some 15) (v := ?_) (a' := ?_) (bA 17 7) rfl rfl (any_of HT_.out (by kernel_rfl)) (fun _ _ _ h => h) (Or.inl ⟨by rfl, ?_⟩) ?_ ?_
          rotate_left
          · intro w'
            go_simp
            with_reducible rfl
          rotate_left
          · simp only [aP, i64_w, i32_w]
            rfl
          refine pure_ (i := 3) (N := some 16) (v := ?_) (a' := ?_) (bA 17 15) rfl rfl (any_of HT_.out (by kernel_rfl)) (fun _ _ _ h => h) (Or.inl ⟨by rfl, ?_⟩) ?_ ?_
          rotate_left
          · intro w'
            go_simp
            with_reducible rfl
          rotate_left
          · simp only [aP, i64_w, i32_w]
            rfl
          refine pure_ (i := 4) (N := some 17) (v := ?_) (a' := ?_) (bA 17 31) rfl rfl (any_of HT_.out (by kernel_rfl)) (fun _ _ _ h => h) (Or.inl ⟨by rfl, ?_⟩) ?_ ?_
          rotate_left
          · intro w'
            go_simp
            with_reducible rfl
          rotate_left
          · simp only [aP, i64_w, i32_w]
            rfl
          refine pure_ (i := 5) (N := some 18) (v := ?_) (a' := ?_) (bA 17 63) rfl rfl (any_of HT_.out (by kernel_rfl)) (fun _ _ _ h => h) (Or.inl ⟨by rfl, ?_⟩) ?_ ?_
          rotate_left
          · intro w'
            go_simp
            with_reducible rfl
          rotate_left
          · simp only [aP, i64_w, i32_w]
            rfl
          refine pure_ (i := 7) (N := some 20) (v := ?_) (a' := ?_) (bA 17 191) rfl rfl (any_of HT_.out (by kernel_rfl)) (fun _ _ _ h => h) (Or.inl ⟨by rfl, ?_⟩) ?_ ?_
          rotate_left
          · intro w'
            go_simp
            with_reducible rfl
          rotate_left
          · simp only [aP, i64_w, i32_w]
            rfl
          refine pure_ (i := 8) (N := some 21) (v := ?_) (a' := ?_) (bA 17 447) rfl rfl (any_of HT_.out (by kernel_rfl)) (fun _ _ _ h => h) (Or.inl ⟨by rfl, ?_⟩) ?_ ?_
          rotate_left
          · intro w'
            go_simp
            with_reducible rfl
          rotate_left
          · simp only [aP, i64_w, i32_w]
            rfl
          refine pure_ (i := 9) (N := some 22) (v := ?_) (a' := ?_) (bA 17 959) rfl rfl (any_of HT_.out (by kernel_rfl)) (fun _ _ _ h => h) (Or.inl ⟨by rfl, ?_⟩) ?_ ?_
          rotate_left
          · intro w'
            go_simp
            with_reducible rfl
          rotate_left
          · simp only [aP, i64_w, i32_w]
            rfl
          refine pure_ (i := 10) (N := some 23) (v := ?_) (a' := ?_) (bA 17 1983) rfl rfl (any_of HT_.out (by kernel_rfl)) (fun _ _ _ h => h) (Or.inl ⟨by rfl, ?_⟩) ?_ ?_
          rotate_left
          · intro w'
            go_simp
            with_reducible rfl
          rotate_left
          · simp only [aP, i64_w, i32_w]
            rfl
          refine pure_ (i := 11) (N := some 24) (v := ?_) (a' := ?_) (bA 17 4031) rfl rfl (any_of HT_.out (by kernel_rfl)) (fun _ _ _ h => h) (Or.inl ⟨by rfl, ?_⟩) ?_ ?_
          rotate_left
          · intro w'
            go_simp
            with_reducible rfl
          rotate_left
          · simp only [aP, i64_w, i32_w]
            rfl
          refine pure_ (i := 12) (N := some 25) (v := ?_) (a' := ?_) (bA 17 8127) rfl rfl (any_of HT_.out (by kernel_rfl)) (fun _ _ _ h => h) (Or.inl ⟨by rfl, ?_⟩) ?_ ?_
          rotate_left
          · intro w'
            go_simp
            with_reducible rfl
          rotate_left
          · simp only [aP, i64_w, i32_w]
            rfl
          refine take_ (i := 6) (N := some 19) (v := ?_) (a' := ?_) (bA 17 8191) rfl rfl (take_ofW HT_.out HW_.out (by kernel_rfl)) (fun _ _ _ h => h) (Or.inl ⟨by rfl, ?_⟩) hHeld ?_ ?_
          rotate_left
          · rintro w' ⟨s0, s1, s2, s3⟩
            go_simp
            with_reducible rfl
          rotate_left
          · simp only [aP, i64_w, i32_w]
            rfl
          refine take_ (i := 13) (N := some 26) (v := ?_) (a' := ?_) (bA 17 16383) rfl rfl (take_ofW HT_.out HW_.out (by kernel_rfl)) (fun _ _ _ h => h) (Or.inl ⟨by rfl, ?_⟩) hHeld ?_ ?_
          rotate_left
          · rintro w' ⟨s0, s1, s2, s3⟩
            go_simp
            with_reducible rfl
          rotate_left
          · simp only [aP, i64_w, i32_w]
            rfl
          refine oZ 14 (some 27) (bA 17 32767) HT_.out (fun K hK => ?_); refine gZ Try.func129 #[.int .i64 a0_0, .int .i64 x10_1, .string a1, .int .i64 a0_2] ?_
          with_reducible refine (impl_place.calls k1 a0_0 x10_1 a1 a0_2 t272 _ A5.out).mono ?_
          rintro e w' ⟨rfl, ⟨nd, rfl⟩⟩; refine ⟨_, rfl, ?_⟩; refine hK.out _ _ ⟨cz BK0 0, cz BK0 1, cz BK0 2, cz BK0 3⟩ (fun hHeld => ?_); clear hK K; refine norm_ (a' := ?_) ?_ ?_
          rotate_left
          · show Act.put _ (some 27) _ = _
            simp only [aP, i64_w, i32_w]
            rfl
          refine oZ 15 (some 28) (bA 17 65535) HT_.out (fun K hK => ?_); refine gZ Try.func127 #[.pointer (some ⟨g0, 2, none⟩), .int .i64 t272] ?_
          with_reducible refine (impl_Bits_at.calls_v0_28_2 g0 a0_0 a0_1 a0_2 A0_3 c0_3 l0_3 t272 false _ ?side1 ?side2 ?side3 A6.out).mono ?_
          (case side1 => exact Kz BK0.out)
          (case side2 => exact Cz (Kd.C_below HR0_3.out (Bq)))
          (case side3 => exact HC0_3.out)
          rintro e w' ⟨rfl, ⟨nd, rfl⟩⟩; refine ⟨_, rfl, ?_⟩; refine hK.out _ _ ⟨cz BK0 0, cz BK0 1, cz BK0 2, cz BK0 3⟩ (fun hHeld => ?_); clear hK K; refine norm_ (a' := ?_) ?_ ?_
          rotate_left
          · show Act.put _ (some 28) _ = _
            simp only [aP, i64_w, i32_w]
            rfl
          refine pure_ (i := 16) (N := some 29) (v := ?_) (a' := ?_) (bA 17 131071) rfl rfl (any_of HT_.out (by kernel_rfl)) (fun _ _ _ h => h) (Or.inl ⟨by rfl, ?_⟩) ?_ ?_
          rotate_left
          · intro w'
            go_simp
            with_reducible rfl
          rotate_left
          · simp only [aP, i64_w, i32_w]
            rfl
          refine done_ (done_of HT_.out (by kernel_rfl)) ?_
          try go_wp2
          go_ret
          exact ⟨eZ, Bq⟩
      · rw [if_neg c4] at H
        have c4b0 : decide (x10_1 < a0_1) = false := decide_eq_false c4; clear c4; obtain rfl := Option.some.inj H
        go_wp2
        go_ret
        exact ⟨eZ, Bq⟩

def impl_cloneCounting.f (a0_0 : Int) (a0_1 : Int) (l0_2 : List Int) : Option (Int × Int × List Int) := (slices_Clone_int_int.f l0_2).bind fun t276 => (some (a0_0, a0_1, t276))
def impl_cloneCounting.T1 : Bool × List (List Nat × List Nat) := (true, [([], []), ([0], [0]), ([], []), ([2], [2]), ([], []), ([4], [4]), ([5], [5]), ([1, 3, 6], [1, 3, 6]), ([7, 6, 0, 1, 2, 3, 4, 5, 6, 7], [7])])
def impl_cloneCounting.B1 : List Nat := [0, 1, 0, 4, 0, 16, 48, 127, 255]
theorem impl_cloneCounting.tab1 : rtab .any (opsOf Try.f112 1) = impl_cloneCounting.T1 := by kernel_rfl
theorem impl_cloneCounting.bits1 : waitsOk impl_cloneCounting.T1.2 impl_cloneCounting.B1 = true := by kernel_rfl
theorem impl_cloneCounting.calls (a0_0 : Int) (a0_1 : Int) (A0_2 : Option Addr) (c0_2 : Nat) (l0_2 : List Int) (r1 : Int) (r2 : Int) (r3 : List Int) (w : World) (hr0_2 : Kd.C (Kd.int .i64) w A0_2 l0_2.length l0_2) (hc0_2 : l0_2.length ≤ c0_2) (h : impl_cloneCounting.f a0_0 a0_1 l0_2 = some (r1, r2, r3)) :
    Calls Try.prog 112 #[.agg #[.int .i64 a0_0, .int .i64 a0_1, .slice A0_2 l0_2.length c0_2]] w fun e w' => ∃ v2_ : Value, e = .returned (.agg #[.int .i64 r1, .int .i64 r2, v2_]) ∧ Kd.R (Kd.int .i64) 3 w' w.heap.size (fun _ => True) v2_ r3 ∧ Below w.heap.size w w' := by
  have hu49 := Try.underlying49; have HR0_2 := am hr0_2; have HC0_2 := am hc0_2; clear hr0_2 hc0_2; have HB := am (Below.refl w.heap.size w); have H : ((slices_Clone_int_int.f l0_2).bind fun t276 => (some (a0_0, a0_1, t276))) = some (r1, r2, r3) := h; clear h; obtain ⟨t276, A2, H⟩ := ob H; (try dsimp -simprocs only at H)
  simp only [Option.some.injEq, Prod.mk.injEq] at H
  obtain ⟨rfl, rfl, rfl⟩ := H
  go_enter Try.func112, Try.ntmps112
  try go_wp2_with (first | ((with_reducible refine gate_dst (N := 1) rfl ?_); refine bE 1 #[.int .i64 a0_0, .int .i64 a0_1, .slice A0_2 l0_2.length c0_2] 49 ?_; intro gb274 hg w3 hbox hb; have n0_ := Bb HB hb; have n1_ := am (hbox); have n2_ := Gl HB hg; have n3_ := Gl HB hg; clear HB; revert n0_ n1_ n2_ n3_; intro HB BK274 GW274 GE274; clear hb hbox hg) | ((with_reducible refine gate_dst (N := 2) rfl ?_); refine bE 2 #[.int .i64 0, .int .i64 0, .slice none 0 0] 49 ?_; intro gb275 hg w4 hbox hb; have n0_ := Kb BK274 hb; have n1_ := Bc HB hb; have n2_ := am (hbox); have n3_ := Gm HB hg; have n4_ := Gm HB hg; have n5_ := Nl BK274 hg; have n6_ := Ng BK274 hg; clear BK274 HB; revert n0_ n1_ n2_ n3_ n4_ n5_ n6_; intro BK274 HB BK275 GW275 GE275 NB274_275 NB275_274; clear hb hbox hg))
  have n0_ := am (blk_drew BK274.out); have n1_ := am (blk_drew BK275.out); have n2_ := am (below_drew1 HB.out); clear BK274 BK275 HB; revert n0_ n1_ n2_; intro BK274 BK275 HB; refine start_ (n := 9) (S := fun w' => w'.cell? ⟨gb274, 0, none⟩ = some (.int .i64 a0_0) ∧ w'.cell? ⟨gb274, 1, none⟩ = some (.int .i64 a0_1) ∧ w'.cell? ⟨gb274, 2, none⟩ = some (.slice A0_2 l0_2.length c0_2)) (ds := []) (bA 9 0) (by kernel_rfl) rfl rfl ⟨cz BK274 0, cz BK274 1, cz BK274 2⟩ (fun hHeld => ?_); refine with_tabW impl_cloneCounting.tab1 impl_cloneCounting.bits1 (fun HT_ HW_ => ?_); generalize w4.drew = w5 at BK274 BK275 HB hHeld ⊢; refine pure_ (i := 0) (N := some 3) (v := ?_) (a' := ?_) (bA 9 1) rfl rfl (any_of HT_.out (by kernel_rfl)) (fun _ _ _ h => h) (Or.inl ⟨by rfl, ?_⟩) ?_ ?_
  rotate_left
  · intro w'
    go_simp
    with_reducible rfl
  rotate_left
  · simp only [aP, i64_w, i32_w]
    rfl
  refine pure_ (i := 2) (N := some 5) (v := ?_) (a' := ?_) (bA 9 5) rfl rfl (any_of HT_.out (by kernel_rfl)) (fun _ _ _ h => h) (Or.inl ⟨by rfl, ?_⟩) ?_ ?_
  rotate_left
  · intro w'
    go_simp
    with_reducible rfl
  rotate_left
  · simp only [aP, i64_w, i32_w]
    rfl
  refine pure_ (i := 4) (N := some 7) (v := ?_) (a' := ?_) (bA 9 21) rfl rfl (any_of HT_.out (by kernel_rfl)) (fun _ _ _ h => h) (Or.inl ⟨by rfl, ?_⟩) ?_ ?_
  rotate_left
  · intro w'
    go_simp
    with_reducible rfl
  rotate_left
  · simp only [aP, i64_w, i32_w]
    rfl
  refine take_ (i := 1) (N := some 4) (v := ?_) (a' := ?_) (bA 9 23) rfl rfl (take_ofW HT_.out HW_.out (by kernel_rfl)) (fun _ _ _ h => h) (Or.inl ⟨by rfl, ?_⟩) hHeld ?_ ?_
  rotate_left
  · rintro w' ⟨s0, s1, s2⟩
    go_simp
    with_reducible rfl
  rotate_left
  · simp only [aP, i64_w, i32_w]
    rfl
  refine take_ (i := 3) (N := some 6) (v := ?_) (a' := ?_) (bA 9 31) rfl rfl (take_ofW HT_.out HW_.out (by kernel_rfl)) (fun _ _ _ h => h) (Or.inl ⟨by rfl, ?_⟩) hHeld ?_ ?_
  rotate_left
  · rintro w' ⟨s0, s1, s2⟩
    go_simp
    with_reducible rfl
  rotate_left
  · simp only [aP, i64_w, i32_w]
    rfl
  refine take_ (i := 5) (N := some 8) (v := ?_) (a' := ?_) (bA 9 63) rfl rfl (take_ofW HT_.out HW_.out (by kernel_rfl)) (fun _ _ _ h => h) (Or.inl ⟨by rfl, ?_⟩) hHeld ?_ ?_
  rotate_left
  · rintro w' ⟨s0, s1, s2⟩
    go_simp
    with_reducible rfl
  rotate_left
  · simp only [aP, i64_w, i32_w]
    rfl
  refine oZ 6 (some 9) (bA 9 127) HT_.out (fun K hK => ?_); refine gZ Try.func157 #[.slice A0_2 l0_2.length c0_2] ?_
  with_reducible refine (slices_Clone_int_int.calls _ _ l0_2 t276 _ ?side1 ?side2 A2.out).mono ?_
  (case side1 => exact Cz (Kd.C_below HR0_2.out HB.out))
  (case side2 => exact HC0_2.out)
  rintro e w6 ⟨v277, rfl, ho0, hb⟩; refine ⟨_, rfl, ?_⟩; have n0_ := Rm ho0 HB; have n1_ := Kb BK274 hb; have n2_ := Kb BK275 hb; have n3_ := Bc HB hb; clear BK274 BK275 HB; revert n0_ n1_ n2_ n3_; intro HO278 BK274 BK275 HB
  (try clear hb)
  (try clear hb2)
  (try clear hk)
  (try clear hi)
  (try clear ho0)
  obtain ⟨Ao7, co7, eo7⟩ := Kd.R_slice HO278.out
  (first | subst eo7 | (injection eo7 with f1_ f2_ f3_; have f4_ := f1_.symm; have f5_ := f3_.symm; clear f1_ f2_ f3_; subst f4_; subst f5_))
  refine hK.out _ _ ⟨cz BK274 0, cz BK274 1, cz BK274 2⟩ (fun hHeld => ?_); clear hK K; refine norm_ (a' := ?_) ?_ ?_
  rotate_left
  · show Act.put _ (some 9) _ = _
    simp only [aP, i64_w, i32_w]
    rfl
  refine pure_ (i := 7) (N := some 10) (v := ?_) (a' := ?_) (bA 9 255) rfl rfl (any_of HT_.out (by kernel_rfl)) (fun _ _ _ h => h) (Or.inl ⟨by rfl, ?_⟩) ?_ ?_
  rotate_left
  · intro w'
    go_simp
    with_reducible rfl
  rotate_left
  · simp only [aP, i64_w, i32_w]
    rfl
  refine oZ 8 none (bA 9 511) HT_.out (fun K hK => ?_); have hs8 : w6.cell? ⟨gb275, 0, none⟩ = some (.int .i64 0) := cz BK275 0; have hfs8 := blk_frozen BK275.out 0; have hns8_0 := NB274_275.out; have hms8_0 := NB275_274.out; have hs9 : w6.cell? ⟨gb275, 1, none⟩ = some (.int .i64 0) := cz BK275 1; have hfs9 := blk_frozen BK275.out 1; have hns9_0 := NB274_275.out; have hms9_0 := NB275_274.out; have hs10 : w6.cell? ⟨gb275, 2, none⟩ = some (.slice none 0 0) := cz BK275 2; have hfs10 := blk_frozen BK275.out 2; have hns10_0 := NB274_275.out; have hms10_0 := NB275_274.out; refine skip_ (w1 := ?_) (by rfl) rfl ?_ ?_
  rotate_left
  · go_simp
    rfl
  refine hK.out _ _ ⟨((cell_far (p := ⟨gb275, _, none⟩) NB274_275.out _).trans (((cell_far (p := ⟨gb275, _, none⟩) NB274_275.out _).trans (((cell_far (p := ⟨gb275, _, none⟩) NB274_275.out _).trans (hHeld.1)))))), ((cell_far (p := ⟨gb275, _, none⟩) NB274_275.out _).trans (((cell_far (p := ⟨gb275, _, none⟩) NB274_275.out _).trans (((cell_far (p := ⟨gb275, _, none⟩) NB274_275.out _).trans (hHeld.2.1)))))), ((cell_far (p := ⟨gb275, _, none⟩) NB274_275.out _).trans (((cell_far (p := ⟨gb275, _, none⟩) NB274_275.out _).trans (((cell_far (p := ⟨gb275, _, none⟩) NB274_275.out _).trans (hHeld.2.2))))))⟩ (fun hHeld => ?_); clear hK K; refine done_ (done_of HT_.out (by kernel_rfl)) ?_
  try go_wp2
  refine bodyPost_ret (results_cell_row rfl _ _ gb275 49 #[.int .i64 a0_0, .int .i64 a0_1, .slice Ao7 t276.length co7] (0, 0) _ rfl (by refine bp ?_; refine blk_put (cs := #[.int .i64 a0_0, .int .i64 a0_1, .slice none 0 0]) ?_ 2 _ rfl; refine bp ?_; refine blk_put (cs := #[.int .i64 a0_0, .int .i64 0, .slice none 0 0]) ?_ 1 _ rfl; refine bp ?_; refine blk_put (cs := #[.int .i64 0, .int .i64 0, .slice none 0 0]) ?_ 0 _ rfl; exact Kz BK275.out) Try.underlying49 rfl (by kernel_rfl)) rfl ?_; exact ⟨_, eZ, Rz (Kd.R_mono (Kd.R_far (p := ⟨gb275, 2, none⟩) (Kd.R_far (p := ⟨gb275, 1, none⟩) (Kd.R_far (p := ⟨gb275, 0, none⟩) (Kd.R_types HO278.out BK275.out (by decide)) (fun _ hk => hk.2) (.int .i64 a0_0)) (fun _ hk => hk.2) (.int .i64 a0_1)) (fun _ hk => hk.2) (.slice Ao7 t276.length co7)) (fun _ hk => trivial)), Bq⟩

-- NOT PRINTED: function 141 (impl_madeBits)

-- NOT PRINTED: function 163 (impl_Counting_bloom_1)

open Go Go.Maps Go.Proofs.YtpkpjikkfikejaaGp
def impl_Counting_bloom_1.f (a0 : Int) (_ : Int) (_ : Int) (l1_2 : List Int) : Option (Bool) := if 0 ≤ a0 then (if a0 < (l1_2.length : Int) then (some (rd l1_2 a0 != 0)) else none) else none
theorem impl_Counting_bloom_1.calls (a0 : Int) (g1 : Nat) (g2 : Nat) (a1_0 : Int) (a1_1 : Int) (A1_2 : Option Addr) (c1_2 : Nat) (l1_2 : List Int) (r : Bool) (w : World) (hb1 : w.heap[g1]? = some (.cells #[.pointer (some ⟨g2, 0, none⟩)] 152 (0, 0))) (hb2 : w.heap[g2]? = some (.cells #[.int .i64 a1_0, .int .i64 a1_1, .slice A1_2 l1_2.length c1_2] 49 (0, 0))) (hr1_2 : Kd.C (Kd.int .i64) w A1_2 l1_2.length l1_2) (hc1_2 : l1_2.length ≤ c1_2) (h : impl_Counting_bloom_1.f a0 a1_0 a1_1 l1_2 = some r) :
  Calls Try.prog 163 #[.int .i64 a0, .pointer (some ⟨g1, 0, none⟩)] w fun e w' => e = .returned (.bool r) ∧ Drawn0 w w' := by
 have HR1_2 := am hr1_2; have HC1_2 := am hc1_2; clear hr1_2 hc1_2; have BK1 := am hb1; clear hb1; have BK2 := am hb2; clear hb2; have H : (if 0 ≤ a0 then (if a0 < (l1_2.length : Int) then (some (rd l1_2 a0 != 0)) else none) else none) = some r := h; clear h
 by_cases c4 : 0 ≤ a0
 ·rw [if_pos c4] at H
  have c4b0 : decide (0 ≤ a0) = true := decide_eq_true c4; clear c4
  by_cases c5 : a0 < (l1_2.length : Int)
  ·rw [if_pos c5] at H
   have c5b0 : decide (a0 < (l1_2.length : Int)) = true := decide_eq_true c5; clear c5; obtain rfl := Option.some.inj H; obtain ⟨hcz1_0, hfz1_0⟩ := cf1 (w := w) BK1; obtain ⟨hcz2_0, hcz2_1, hcz2_2, hfz2_0, hfz2_1, hfz2_2⟩ := cf3 (w := w) BK2; obtain ⟨ad209, e209, hx209_0⟩ := Kd.at_int HR1_2.out a0 dT dT; cases e209; have p209 := eT (0 ≤ (a0 : Int)); have q209 := eT (a0 < (l1_2.length : Int))
   go_enter Try.func163, Try.ntmps163
   go_wp2
   go_ret
   exact ⟨by first | rfl | (simp; done) | (simp [*]; done), by repeat (first | exact Drawn0.refl _ | apply Drawn0.step)⟩
  ·rw [if_neg c5] at H
   exact absurd H (by simp)
 ·rw [if_neg c4] at H
  exact absurd H (by simp)
def impl_madeBits_at_impl_Counting_bloom_1.l0 : Nat → Int → Int → Int → Int → List Int → Int → List Int → Option (Int × List Int)
 | 0, _, _, _, _, _, _, _ => none
 | k + 1, x9, x10, x4000, x4001, x4002, x666000, x666001 => if x10 < x9 then ((impl_Counting_bloom_1.f x10 x4000 x4001 x4002).bind fun t666 => ((impl_Bits_set.f x666000 x666001 x10 t666).bind fun t667 => (impl_madeBits_at_impl_Counting_bloom_1.l0 k x9 (wrap64 (x10 + 1)) x4000 x4001 x4002 x666000 t667))) else (some (x666000, x666001))
def impl_madeBits_at_impl_Counting_bloom_1.f (k : Nat) (a0 : Int) (a3_0 : Int) (a3_1 : Int) (l3_3 : List Int) : Option (Int × List Int) := (impl_blank.f a0).bind fun bt661 => (impl_madeBits_at_impl_Counting_bloom_1.l0 k a0 0 a3_0 a3_1 l3_3 bt661.1 bt661.2)
theorem impl_madeBits_at_impl_Counting_bloom_1.calls (k : Nat) (a0 : Int)  (g2 : Nat) (g3 : Nat) (a3_0 : Int) (a3_1 : Int) (A3_3 : Option Addr) (c3_3 : Nat) (l3_3 : List Int) (r1 : Int) (r2 : List Int) (w : World) (hb2 : w.heap[g2]? = some (.cells #[.pointer (some ⟨g3, 0, none⟩)] 152 (0, 0))) (hb3 : w.heap[g3]? = some (.cells #[.int .i64 a3_0, .int .i64 a3_1, .slice A3_3 l3_3.length c3_3] 49 (0, 0))) (hr3_3 : Kd.C (Kd.int .i64) w A3_3 l3_3.length l3_3) (hc3_3 : l3_3.length ≤ c3_3) (h : impl_madeBits_at_impl_Counting_bloom_1.f k a0 a3_0 a3_1 l3_3 = some (r1, r2)) :
  Calls Try.prog 141 #[.int .i64 a0, .func (.func 163) #[] #[.pointer (some ⟨g2, 0, none⟩)]] w fun e w' => ∃ v1_ : Value, e = .returned (.agg #[.int .i64 r1, v1_]) ∧ Kd.R (Kd.int .i64) 3 w' w.heap.size (fun _ => True) v1_ r2 ∧ Below w.heap.size w w' := by
 have hu26 := Try.underlying26; have HR3_3 := am hr3_3; have HC3_3 := am hc3_3; clear hr3_3 hc3_3; have BK2 := am hb2; clear hb2; have BK3 := am hb3; clear hb3; have HB := am (Below.refl w.heap.size w); have H : ((impl_blank.f a0).bind fun bt661 => (impl_madeBits_at_impl_Counting_bloom_1.l0 k a0 0 a3_0 a3_1 l3_3 bt661.1 bt661.2)) = some (r1, r2) := h; clear h; obtain ⟨⟨t661, t662⟩, A5, H⟩ := ob H; (try dsimp -simprocs only at H); have H' := am H; clear H
 go_enter Try.func141, Try.ntmps141
 go_wp2_with (first | ((with_reducible refine gate_dst (N := 4) rfl ?_); refine bE 4 #[.int .i64 0, .slice none 0 0] 26 ?_; intro gb660 hg w6 hbox hb; have n0_ := Kb BK2 hb; have n1_ := Kb BK3 hb; have n2_ := Bc HB hb; have n3_ := am (hbox); have n4_ := Gm HB hg; have n5_ := Gm HB hg; have n6_ := Nl BK2 hg; have n7_ := Ng BK2 hg; have n8_ := Nl BK3 hg; have n9_ := Ng BK3 hg; clear BK2 BK3 HB; revert n0_ n1_ n2_ n3_ n4_ n5_ n6_ n7_ n8_ n9_; intro BK2 BK3 HB BK660 GW660 GE660 NB2_660 NB660_2 NB3_660 NB660_3; clear hb hbox hg) | ((with_reducible refine gate_callee (f := 139) rfl ?_); refine gL (some 8) Try.func139 #[.int .i64 a0] ?_; (with_reducible refine (impl_blank.calls a0 t661 t662 _ A5.out).mono ?_); rintro e w7 ⟨v663, rfl, ho0, hb⟩; refine ⟨_, rfl, ?_⟩; have n0_ := Rm ho0 HB; have n1_ := Kb BK2 hb; have n2_ := Kb BK3 hb; have n3_ := Kb BK660 hb; have n4_ := Bc HB hb; clear BK2 BK3 BK660 HB; revert n0_ n1_ n2_ n3_ n4_; intro HO664 BK2 BK3 BK660 HB; (try clear hb); (try clear hb2); (try clear hk); (try clear hi); (try clear ho0)) | ((with_reducible refine gate_dst (N := 5) rfl ?_); refine bE 5 #[.int .i64 0, .slice none 0 0] 26 ?_; intro gb665 hg w8 hbox hb; have n0_ := Rb HO664 hb; have n1_ := Kb BK2 hb; have n2_ := Kb BK3 hb; have n3_ := Kb BK660 hb; have n4_ := Bc HB hb; have n5_ := am (hbox); have n6_ := Gm HB hg; have n7_ := Gm HB hg; have n8_ := Nl BK2 hg; have n9_ := Ng BK2 hg; have n10_ := Nl BK3 hg; have n11_ := Ng BK3 hg; have n12_ := Nl BK660 hg; have n13_ := Ng BK660 hg; clear HO664 BK2 BK3 BK660 HB; revert n0_ n1_ n2_ n3_ n4_ n5_ n6_ n7_ n8_ n9_ n10_ n11_ n12_ n13_; intro HO664 BK2 BK3 BK660 HB BK665 GW665 GE665 NB2_665 NB665_2 NB3_665 NB665_3 NB660_665 NB665_660; clear hb hbox hg; have hnb9 := NB665_2.out; have hnc9 := NB2_665.out; have hnb10 := NB665_3.out; have hnc10 := NB3_665.out; have hnb11 := NB665_660.out; have hnc11 := NB660_665.out; obtain ⟨hcz12_0, hcz12_1, hfz12_0, hfz12_1⟩ := cf2 (w := w8) BK665; obtain ⟨Ao13, co13, eo13⟩ := Kd.R_slice HO664.out; subst eo13))
 (try simp only [aP])
 go_loopg [10] k (fun kq v10 w' => ∃ (x10_1 : Int) (x666001_1 : List Int) (u666001 : Value), v10 = .int .i64 x10_1 ∧ Aside0 (impl_madeBits_at_impl_Counting_bloom_1.l0 kq a0 x10_1 a3_0 a3_1 l3_3 t661 x666001_1 = some (r1, r2)) ∧ Aside0 (kq ≤ k) ∧ Aside0 (Kd.R (Kd.int .i64) 3 w' w.heap.size (fun _ => True) u666001 x666001_1) ∧ Aside0 (w'.heap[g2]? = some (.cells #[.pointer (some ⟨g3, 0, none⟩)] 152 (0, 0))) ∧ Aside0 (w'.heap[g3]? = some (.cells #[.int .i64 a3_0, .int .i64 a3_1, (.slice A3_3 l3_3.length c3_3)] 49 (0, 0))) ∧ Aside0 (w'.heap[gb660]? = some (.cells #[.int .i64 0, (.slice none 0 0)] 26 (0, 0))) ∧ Aside0 (w'.heap[gb665]? = some (.cells #[.int .i64 t661, u666001] 26 (0, 0))) ∧ Aside0 (Below w.heap.size w w'))
 case atStart => exact ⟨(0), (t662), (.slice Ao13 t662.length co13), wZ, H', ⟨Nat.le_refl _⟩, ⟨Rz (Kd.R_mono (Kd.R_far (p := ⟨gb665, 1, none⟩) (Kd.R_far (p := ⟨gb665, 0, none⟩) (Kd.R_types HO664.out BK665.out (by decide)) (fun _ hk => hk.2) (.int .i64 t661)) (fun _ hk => hk.2) (.slice Ao13 t662.length co13)) (fun _ hk => trivial))⟩, ⟨by refine bp ?_; refine blk_far ?_ NB2_665.out _; refine bp ?_; refine blk_far ?_ NB2_665.out _; refine bp ?_; exact BK2.out⟩, ⟨by refine bp ?_; refine blk_far ?_ NB3_665.out _; refine bp ?_; refine blk_far ?_ NB3_665.out _; refine bp ?_; exact BK3.out⟩, ⟨by refine bp ?_; refine blk_far ?_ NB660_665.out _; refine bp ?_; refine blk_far ?_ NB660_665.out _; refine bp ?_; exact BK660.out⟩, ⟨by refine bp ?_; refine blk_put (cs := #[.int .i64 t661, .slice none 0 0]) ?_ 1 _ rfl; refine bp ?_; refine blk_put (cs := #[.int .i64 0, .slice none 0 0]) ?_ 0 _ rfl; refine bp ?_; exact BK665.out⟩, ⟨Bq⟩⟩
 case round =>
  clear H'
  try clear c1
  try clear c2
  try clear p2
  try clear c3
  try clear c9
  try clear c10
  try clear c11
  try clear c13
  obtain ⟨x10_1, x666001_1, u666001, rfl, HA, HK1, HO_666001, BK2, BK3, BK660, BK665, HB⟩ := hrel; cases gk with
  | zero => exact absurd HA.out (by simp [impl_madeBits_at_impl_Counting_bloom_1.l0])
  | succ k1 =>
   have H := HA.out; clear HA
   simp only [impl_madeBits_at_impl_Counting_bloom_1.l0] at H
   by_cases c14 : x10_1 < a0
   ·rw [if_pos c14] at H
    have c14b0 : decide (x10_1 < a0) = true := decide_eq_true c14; clear c14; obtain ⟨t666, A15, H⟩ := ob H; (try dsimp -simprocs only at H); obtain ⟨t667, A16, H⟩ := ob H; (try dsimp -simprocs only at H); have H' := am H; clear H
    go_wp2_with (first | (go_at_call 163; (with_reducible refine (impl_Counting_bloom_1.calls x10_1 g2 g3 a3_0 a3_1 A3_3 c3_3 l3_3 t666 _ ?side1 ?side2 ?side3 ?side4 A15.out).mono ?_); (case side1 => exact Kz BK2.out); (case side2 => exact Kz BK3.out); (case side3 => exact Cz (Kd.C_below HR3_3.out HB.out)); (case side4 => exact HC3_3.out); rintro e w' ⟨rfl, ⟨nd, rfl⟩⟩; obtain ⟨Ao17, co17, eo17⟩ := Kd.R_slice HO_666001.out; subst eo17) | ((with_reducible refine gate_callee (f := 155) rfl ?_); refine gL (some 17) Try.func155 #[.pointer (some ⟨gb665, 0, none⟩), .int .i64 x10_1, .bool t666] ?_; (with_reducible refine (impl_Bits_set.calls gb665 t661 (fun k_ => some k_ = (.slice Ao17 x666001_1.length co17 : Value).ownBlock) (.slice Ao17 x666001_1.length co17) x666001_1 x10_1 t666 t667 w _ ?side1 ?side2 ?side3 A16.out).mono ?_); (case side1 => repeat (first | (with_reducible first | exact HB.out | apply below_alloc | apply pw_below_drewN | apply below_drew1 | refine below_set ?_ GE2.out | refine below_set ?_ GE3.out | refine below_set ?_ GE660.out | refine below_set ?_ GE665.out) | exact HB.out)); (case side2 => exact Kz BK665.out); (case side3 => exact Kd.R_tight rfl HO_666001.out); rintro e w18 ⟨rfl, hy0, hb, hkp⟩; refine ⟨_, rfl, ?_⟩; have n0_ := am (Kd.R_reok rfl hy0 (fun k_ e_ => HO_666001.out.1 k_ e_)); have n1_ := am (blk_kept (Kz BK2.out) hkp (fun hs_ => (fun e_ => (Kd.R_ne HO_666001.out BK2.out (by decide)) e_) hs_)); have n2_ := am (blk_kept (Kz BK3.out) hkp (fun hs_ => (fun e_ => (Kd.R_ne HO_666001.out BK3.out (by decide)) e_) hs_)); have n3_ := am (blk_kept (Kz BK660.out) hkp (fun hs_ => (fun e_ => (Kd.R_ne HO_666001.out BK660.out (by decide)) e_) hs_)); have n4_ := am (blk_kept (Kz BK665.out) hkp (fun hs_ => (fun e_ => (Kd.R_ne HO_666001.out BK665.out (by decide)) e_) hs_)); have n5_ := am (hb); clear HO_666001 BK2 BK3 BK660 BK665 HB; revert n0_ n1_ n2_ n3_ n4_ n5_; intro HO_666001 BK2 BK3 BK660 BK665 HB; (try clear hb); (try clear hkp); (try clear hy0)))
    go_roundg k1
    case measure => have := HK1.out; omega
    case rel => exact ⟨(wrap64 (x10_1 + 1)), (t667), (.slice Ao17 x666001_1.length co17), wZ, H', ⟨by have := HK1.out; omega⟩, ⟨Rz HO_666001.out⟩, ⟨Kz BK2.out⟩, ⟨Kz BK3.out⟩, ⟨Kz BK660.out⟩, ⟨Kz BK665.out⟩, ⟨Bq⟩⟩
   ·rw [if_neg c14] at H
    have c14b0 : decide (x10_1 < a0) = false := decide_eq_false c14; clear c14
    simp only [Option.some.injEq, Prod.mk.injEq] at H
    obtain ⟨rfl, rfl⟩ := H; have hnb19 := NB665_2.out; have hnc19 := NB2_665.out; have hnb20 := NB665_3.out; have hnc20 := NB3_665.out; have hnb21 := NB665_660.out; have hnc21 := NB660_665.out; obtain ⟨hcz22_0, hcz22_1, hfz22_0, hfz22_1⟩ := cf2 (w := wr) BK665; have hnb23 := NB660_2.out; have hnc23 := NB2_660.out; have hnb24 := NB660_3.out; have hnc24 := NB3_660.out; obtain ⟨hcz25_0, hcz25_1, hfz25_0, hfz25_1⟩ := cf2 (w := wr) BK660; obtain ⟨Ao26, co26, eo26⟩ := Kd.R_slice HO_666001.out; subst eo26
    go_wp2
    refine bodyPost_ret (results_cell_row rfl _ _ gb660 26 #[.int .i64 t661, .slice Ao26 x666001_1.length co26] (0, 0) _ rfl (by refine bp ?_; refine blk_put (cs := #[.int .i64 t661, .slice none 0 0]) ?_ 1 _ rfl; refine bp ?_; refine blk_put (cs := #[.int .i64 0, .slice none 0 0]) ?_ 0 _ rfl; exact Kz BK660.out) Try.underlying26 rfl (by kernel_rfl)) rfl ?_; exact ⟨_, eZ, Rz (Kd.R_mono (Kd.R_far (p := ⟨gb660, 1, none⟩) (Kd.R_far (p := ⟨gb660, 0, none⟩) (Kd.R_types HO_666001.out BK660.out (by decide)) (fun _ hk => hk.2) (.int .i64 t661)) (fun _ hk => hk.2) (.slice Ao26 x666001_1.length co26)) (fun _ hk => trivial)), Bq⟩
def impl_Counting_bloom.f (k : Nat) (a0_0 : Int) (a0_1 : Int) (l0_2 : List Int) : Option (Int × Int × Int × List Int) := (impl_madeBits_at_impl_Counting_bloom_1.f k (l0_2.length : Int) a0_0 a0_1 l0_2).bind fun bt672 => (some (a0_0, a0_1, bt672.1, bt672.2))
def impl_Counting_bloom.T1 : Bool × List (List Nat × List Nat) := (true, [([], []), ([0], [0]), ([1], [1]), ([2], [2]), ([], []), ([4], [4]), ([5], [5]), ([6], [6]), ([], []), ([8], [8]), ([9], [9]), ([10], [10]), ([11], [11]), ([], []), ([12, 13], [12, 13]), ([3, 7, 14], [3, 7, 14]), ([15, 14, 0, 1, 2, 3, 4, 5, 6, 7, 8, 9, 10, 11, 12, 13, 14, 15], [15])])
def impl_Counting_bloom.B1 : List Nat := [0, 1, 3, 7, 0, 16, 48, 112, 0, 256, 768, 1792, 3840, 0, 16128, 32767, 65535]
theorem impl_Counting_bloom.tab1 : rtab .any (opsOf Try.f113 1) = impl_Counting_bloom.T1 := by kernel_rfl
theorem impl_Counting_bloom.bits1 : waitsOk impl_Counting_bloom.T1.2 impl_Counting_bloom.B1 = true := by kernel_rfl
theorem impl_Counting_bloom.calls (k : Nat) (g0 : Nat) (a0_0 : Int) (a0_1 : Int) (A0_2 : Option Addr) (c0_2 : Nat) (l0_2 : List Int) (r1 : Int) (r2 : Int) (r3 : Int) (r4 : List Int) (w : World) (hb0 : w.heap[g0]? = some (.cells #[.int .i64 a0_0, .int .i64 a0_1, .slice A0_2 l0_2.length c0_2] 49 (0, 0))) (hr0_2 : Kd.C (Kd.int .i64) w A0_2 l0_2.length l0_2) (hc0_2 : l0_2.length ≤ c0_2) (h : impl_Counting_bloom.f k a0_0 a0_1 l0_2 = some (r1, r2, r3, r4)) :
  Calls Try.prog 113 #[.pointer (some ⟨g0, 0, none⟩)] w fun e w' => ∃ v3_ : Value, e = .returned (.agg #[.int .i64 r1, .int .i64 r2, .int .i64 r3, v3_]) ∧ Kd.R (Kd.int .i64) 3 w' w.heap.size (fun _ => True) v3_ r4 ∧ Below w.heap.size w w' := by
 have hu28 := Try.underlying28; have hu49 := Try.underlying49; have HR0_2 := am hr0_2; have HC0_2 := am hc0_2; clear hr0_2 hc0_2; have BK0 := am hb0; clear hb0; have HB := am (Below.refl w.heap.size w); have H : ((impl_madeBits_at_impl_Counting_bloom_1.f k (l0_2.length : Int) a0_0 a0_1 l0_2).bind fun bt672 => (some (a0_0, a0_1, bt672.1, bt672.2))) = some (r1, r2, r3, r4) := h; clear h; obtain ⟨⟨t672, t673⟩, A5, H⟩ := ob H; (try dsimp -simprocs only at H)
 simp only [Option.some.injEq, Prod.mk.injEq] at H
 obtain ⟨rfl, rfl, rfl, rfl⟩ := H
 go_enter Try.func113, Try.ntmps113
 try go_wp2_with (first | ((with_reducible refine gate_dst (N := 1) rfl ?_); refine bE 1 #[.pointer (some ⟨g0, 0, none⟩)] 152 ?_; intro gb668 hg w6 hbox hb; have n0_ := Kb BK0 hb; have n1_ := Bb HB hb; have n2_ := am (hbox); have n3_ := Gl HB hg; have n4_ := Gl HB hg; have n5_ := Nl BK0 hg; have n6_ := Ng BK0 hg; clear BK0 HB; revert n0_ n1_ n2_ n3_ n4_ n5_ n6_; intro BK0 HB BK668 GW668 GE668 NB0_668 NB668_0; clear hb hbox hg) | ((with_reducible refine gate_dst (N := 2) rfl ?_); refine bE 2 #[.int .i64 0, .int .i64 0, .int .i64 0, .slice none 0 0] 28 ?_; intro gb670 hg w8 hbox hb; have n0_ := Kb BK0 hb; have n1_ := Kb BK668 hb; have n2_ := Bc HB hb; have n3_ := am (hbox); have n4_ := Gm HB hg; have n5_ := Gm HB hg; have n6_ := Nl BK0 hg; have n7_ := Ng BK0 hg; have n8_ := Nl BK668 hg; have n9_ := Ng BK668 hg; clear BK0 BK668 HB; revert n0_ n1_ n2_ n3_ n4_ n5_ n6_ n7_ n8_ n9_; intro BK0 BK668 HB BK670 GW670 GE670 NB0_670 NB670_0 NB668_670 NB670_668; clear hb hbox hg))
 have n0_ := am (blk_drew BK0.out); have n1_ := am (blk_drew BK668.out); have n2_ := am (blk_drew BK670.out); have n3_ := am (below_drew1 HB.out); clear BK0 BK668 BK670 HB; revert n0_ n1_ n2_ n3_; intro BK0 BK668 BK670 HB; refine start_ (n := 17) (S := fun w' => w'.cell? ⟨gb668, 0, none⟩ = some (.pointer (some ⟨g0, 0, none⟩)) ∧ w'.cell? ⟨g0, 0, none⟩ = some (.int .i64 a0_0) ∧ w'.cell? ⟨g0, 1, none⟩ = some (.int .i64 a0_1) ∧ w'.cell? ⟨g0, 2, none⟩ = some (.slice A0_2 l0_2.length c0_2)) (ds := []) (bA 17 0) (by kernel_rfl) rfl rfl ⟨cz BK668 0, cz BK0 0, cz BK0 1, cz BK0 2⟩ (fun hHeld => ?_); refine with_tabW impl_Counting_bloom.tab1 impl_Counting_bloom.bits1 (fun HT_ HW_ => ?_); generalize w8.drew = w15 at BK0 BK668 BK670 HB hHeld ⊢; refine pZ 13 (some 16) (bA 17 8192) HT_.out ?_; refine tZ4 0 (some 3) (bA 17 8193) HT_.out HW_.out hHeld ?_; refine pZ 1 (some 4) (bA 17 8195) HT_.out ?_; refine pZ 2 (some 5) (bA 17 8199) HT_.out ?_; refine tZ4 3 (some 6) (bA 17 8207) HT_.out HW_.out hHeld ?_; refine tZ4 4 (some 7) (bA 17 8223) HT_.out HW_.out hHeld ?_; refine pZ 5 (some 8) (bA 17 8255) HT_.out ?_; refine pZ 6 (some 9) (bA 17 8319) HT_.out ?_; refine tZ4 7 (some 10) (bA 17 8447) HT_.out HW_.out hHeld ?_; refine tZ4 8 (some 11) (bA 17 8703) HT_.out HW_.out hHeld ?_; refine pZ 9 (some 12) (bA 17 9215) HT_.out ?_; refine pZ 10 (some 13) (bA 17 10239) HT_.out ?_; refine tZ4 11 (some 14) (bA 17 12287) HT_.out HW_.out hHeld ?_; refine pZ 12 (some 15) (bA 17 16383) HT_.out ?_; refine oZ 14 (some 17) (bA 17 32767) HT_.out (fun K hK => ?_); refine gZ Try.func141 #[.int .i64 (l0_2.length : Int), .func (.func 163) #[] #[.pointer (some ⟨gb668, 0, none⟩)]] ?_
 with_reducible refine (impl_madeBits_at_impl_Counting_bloom_1.calls k (l0_2.length : Int) gb668 g0 a0_0 a0_1 A0_2 c0_2 l0_2 t672 t673 _ ?side1 ?side2 ?side3 ?side4 A5.out).mono ?_
 (case side1 => exact Kz BK668.out)
 (case side2 => exact Kz BK0.out)
 (case side3 => exact Cz (Kd.C_below HR0_2.out HB.out))
 (case side4 => exact HC0_2.out)
 rintro e w16 ⟨v674, rfl, ho0, hb⟩; refine ⟨_, rfl, ?_⟩; have n0_ := Rm ho0 HB; have n1_ := Kb BK0 hb; have n2_ := Kb BK668 hb; have n3_ := Kb BK670 hb; have n4_ := Bc HB hb; clear BK0 BK668 BK670 HB; revert n0_ n1_ n2_ n3_ n4_; intro HO675 BK0 BK668 BK670 HB
 (try clear hb)
 (try clear ho0)
 obtain ⟨Ao17, co17, eo17⟩ := Kd.R_slice HO675.out; subst eo17; refine hK.out _ _ ⟨cz BK668 0, cz BK0 0, cz BK0 1, cz BK0 2⟩ (fun hHeld => ?_); clear hK K; refine norm_ (a' := ?_) ?_ ?_; rotate_left; show Act.put _ (some 17) _ = _; simp only [aP, i64_w, i32_w]; rfl; refine pZ 15 (some 18) (bA 17 65535) HT_.out ?_; refine oZ 16 none (bA 17 131071) HT_.out (fun K hK => ?_); have hs18 : w16.cell? ⟨gb670, 0, none⟩ = some (.int .i64 0) := cz BK670 0; have hfs18 := blk_frozen BK670.out 0; have hs19 : w16.cell? ⟨gb670, 1, none⟩ = some (.int .i64 0) := cz BK670 1; have hfs19 := blk_frozen BK670.out 1; have hs20 : w16.cell? ⟨gb670, 2, none⟩ = some (.int .i64 0) := cz BK670 2; have hfs20 := blk_frozen BK670.out 2; have hs21 : w16.cell? ⟨gb670, 3, none⟩ = some (.slice none 0 0) := cz BK670 3; have hfs21 := blk_frozen BK670.out 3; have hns18_0 := NB668_670.out; have hns18_1 := NB0_670.out; have hms18_0 := NB670_668.out; have hms18_1 := NB670_0.out; refine skip_ (w1 := ?_) (by rfl) rfl ?_ ?_
 rotate_left
 ·go_simp
  rfl
 refine hK.out _ _ ⟨(cell_far (p := ⟨gb670, _, none⟩) NB668_670.out _).trans ((cell_far (p := ⟨gb670, _, none⟩) NB668_670.out _).trans ((cell_far (p := ⟨gb670, _, none⟩) NB668_670.out _).trans ((cell_far (p := ⟨gb670, _, none⟩) NB668_670.out _).trans (hHeld.1)))), (cell_far (p := ⟨gb670, _, none⟩) NB0_670.out _).trans ((cell_far (p := ⟨gb670, _, none⟩) NB0_670.out _).trans ((cell_far (p := ⟨gb670, _, none⟩) NB0_670.out _).trans ((cell_far (p := ⟨gb670, _, none⟩) NB0_670.out _).trans (hHeld.2.1)))), (cell_far (p := ⟨gb670, _, none⟩) NB0_670.out _).trans ((cell_far (p := ⟨gb670, _, none⟩) NB0_670.out _).trans ((cell_far (p := ⟨gb670, _, none⟩) NB0_670.out _).trans ((cell_far (p := ⟨gb670, _, none⟩) NB0_670.out _).trans (hHeld.2.2.1)))), (cell_far (p := ⟨gb670, _, none⟩) NB0_670.out _).trans ((cell_far (p := ⟨gb670, _, none⟩) NB0_670.out _).trans ((cell_far (p := ⟨gb670, _, none⟩) NB0_670.out _).trans ((cell_far (p := ⟨gb670, _, none⟩) NB0_670.out _).trans (hHeld.2.2.2))))⟩ (fun hHeld => ?_); clear hK K; refine done_ (done_of HT_.out (by kernel_rfl)) ?_
 try go_wp2
 refine bodyPost_ret (results_cell_row rfl _ _ gb670 28 #[.int .i64 a0_0, .int .i64 a0_1, .int .i64 t672, .slice Ao17 t673.length co17] (0, 0) _ rfl (by refine bp ?_; refine blk_put (cs := #[.int .i64 a0_0, .int .i64 a0_1, .int .i64 t672, .slice none 0 0]) ?_ 3 _ rfl; refine bp ?_; refine blk_put (cs := #[.int .i64 a0_0, .int .i64 a0_1, .int .i64 0, .slice none 0 0]) ?_ 2 _ rfl; refine bp ?_; refine blk_put (cs := #[.int .i64 a0_0, .int .i64 0, .int .i64 0, .slice none 0 0]) ?_ 1 _ rfl; refine bp ?_; refine blk_put (cs := #[.int .i64 0, .int .i64 0, .int .i64 0, .slice none 0 0]) ?_ 0 _ rfl; exact Kz BK670.out) Try.underlying28 rfl (by kernel_rfl)) rfl ?_; exact ⟨_, eZ, Rz (Kd.R_mono (Kd.R_far (p := ⟨gb670, 3, none⟩) (Kd.R_far (p := ⟨gb670, 2, none⟩) (Kd.R_far (p := ⟨gb670, 1, none⟩) (Kd.R_far (p := ⟨gb670, 0, none⟩) (Kd.R_types HO675.out BK670.out (by decide)) (fun _ hk => hk.2) (.int .i64 a0_0)) (fun _ hk => hk.2) (.int .i64 a0_1)) (fun _ hk => hk.2) (.int .i64 t672)) (fun _ hk => hk.2) (.slice Ao17 t673.length co17)) (fun _ hk => trivial)), Bq⟩

def impl_Counting_change.l0 : Nat → Int → List Int → Int → Int → Int → Int → List Int → Option (Bool × List Int)
  | 0, _, _, _, _, _, _, _ => none
  | k + 1, x2, x23, x24, x25, x1000, x1001, x1002 => if x25 < x24 then (if 0 ≤ x25 then (if x25 < (x23.length : Int) then (if 0 ≤ (rd x23 x25) then (if (rd x23 x25) < (x1002.length : Int) then (if (rd x1002 (rd x23 x25)) = 15 then (impl_Counting_change.l0 k x2 x23 x24 (wrap64 (x25 + 1)) x1000 x1001 x1002) else ((some (x1002.set ((rd x23 x25) : Int).toNat (wrap64 ((rd x1002 (rd x23 x25)) + x2)) : List Int)).bind fun y285 => (if (rd y285 (rd x23 x25)) < 0 then (some (false, y285)) else (impl_Counting_change.l0 k x2 x23 x24 (wrap64 (x25 + 1)) x1000 x1001 y285)))) else (none)) else (none)) else (none)) else (none)) else (some (true, x1002))
def impl_Counting_change.f (k : Nat) (a0_0 : Int) (a0_1 : Int) (l0_2 : List Int) (a1 : ByteArray) (a2 : Int) : Option (Bool × List Int) := (impl_probesOf.f k a0_0 a0_1 (l0_2.length : Int) a1).bind fun t279 => (impl_Counting_change.l0 k a2 t279 (t279.length : Int) 0 a0_0 a0_1 l0_2)
def impl_Counting_change.T1 : Bool × List (List Nat × List Nat) := (true, [([], []), ([0], [0]), ([1], [1]), ([2], [2]), ([], []), ([4], [4]), ([5], [5]), ([6], [6]), ([], []), ([8], [8]), ([9], [9]), ([10], [10]), ([11], [11]), ([], []), ([3, 7, 12, 13], [3, 7, 12, 13]), ([14], [14]), ([], [])])
def impl_Counting_change.B1 : List Nat := [0, 1, 3, 7, 0, 16, 48, 112, 0, 256, 768, 1792, 3840, 0, 16383, 32767, 0]
theorem impl_Counting_change.tab1 : rtab .any (opsOf Try.f114 1) = impl_Counting_change.T1 := by kernel_rfl
theorem impl_Counting_change.bits1 : waitsOk impl_Counting_change.T1.2 impl_Counting_change.B1 = true := by kernel_rfl
theorem impl_Counting_change.calls (k : Nat) (g0 : Nat) (a0_0 : Int) (a0_1 : Int) (P0_2_ : Nat → Prop) (u9000_ : Value) (l0_2 : List Int) (a1 : ByteArray) (a2 : Int) (r1 : Bool) (r2 : List Int) (w0 w : World) (hB : Below w0.heap.size w0 w) (hb0 : w.heap[g0]? = some (.cells #[.int .i64 a0_0, .int .i64 a0_1, u9000_] 49 (0, 0))) (ho0_2 : Kd.R (Kd.int .i64) 3 w w0.heap.size P0_2_ u9000_ l0_2) (h : impl_Counting_change.f k a0_0 a0_1 l0_2 a1 a2 = some (r1, r2)) :
    Calls Try.prog 114 #[.pointer (some ⟨g0, 0, none⟩), .string a1, .int .i64 a2] w fun e w' => e = .returned (.bool r1) ∧ Kd.R (Kd.int .i64) 3 w' w0.heap.size (fun k_ => (P0_2_ k_ ∨ w.heap.size ≤ k_)) u9000_ r2 ∧ Below w0.heap.size w0 w' ∧ Kept w w' (fun k_ => P0_2_ k_) := by
  have HO0_2 := am (show Kd.R (Kd.int .i64) 3 w w0.heap.size (fun k_ => (P0_2_ k_ ∨ w.heap.size ≤ k_)) u9000_ l0_2 from Kd.R_mono ho0_2 (fun k_ hk => (.inl hk))); have HK := am (Kept.refl w (fun k_ => P0_2_ k_)); have BK0 := am hb0; clear hb0; have HW0 := am hB.size; have HB := am hB; clear hB; have H : ((impl_probesOf.f k a0_0 a0_1 (l0_2.length : Int) a1).bind fun t279 => (impl_Counting_change.l0 k a2 t279 (t279.length : Int) 0 a0_0 a0_1 l0_2)) = some (r1, r2) := h; clear h; obtain ⟨t279, A4, H⟩ := ob H; (try dsimp -simprocs only at H); have H' := am H; clear H
  go_enter Try.func114, Try.ntmps114
  try go_wp2
  have n0_ := am (Kd.R_drew HO0_2.out); have n1_ := am (blk_drew BK0.out); have n2_ := am (Kept.drew HK.out); have n3_ := am (below_drew1 HB.out); clear HO0_2 BK0 HK HB; revert n0_ n1_ n2_ n3_; intro HO0_2 BK0 HK HB; obtain ⟨Ao6, co6, eo6⟩ := Kd.R_slice HO0_2.out
  (first | subst eo6 | (injection eo6 with f1_ f2_ f3_; have f4_ := f1_.symm; have f5_ := f3_.symm; clear f1_ f2_ f3_; subst f4_; subst f5_))
  refine start_ (n := 17) (S := fun w' => w'.cell? ⟨g0, 0, none⟩ = some (.int .i64 a0_0) ∧ w'.cell? ⟨g0, 1, none⟩ = some (.int .i64 a0_1) ∧ w'.cell? ⟨g0, 2, none⟩ = some (.slice Ao6 l0_2.length co6)) (ds := []) (bA 17 0) (by kernel_rfl) rfl rfl ⟨cz BK0 0, cz BK0 1, cz BK0 2⟩ (fun hHeld => ?_); refine with_tabW impl_Counting_change.tab1 impl_Counting_change.bits1 (fun HT_ HW_ => ?_); generalize w.drew = w5 at HO0_2 BK0 HK HB hHeld ⊢; refine pure_ (i := 0) (N := some 9) (v := ?_) (a' := ?_) (bA 17 1) rfl rfl (any_of HT_.out (by kernel_rfl)) (fun _ _ _ h => h) (Or.inl ⟨by rfl, ?_⟩) ?_ ?_
  rotate_left
  · intro w'
    go_simp
    with_reducible rfl
  rotate_left
  · simp only [aP, i64_w, i32_w]
    rfl
  refine pure_ (i := 1) (N := some 10) (v := ?_) (a' := ?_) (bA 17 3) rfl rfl (any_of HT_.out (by kernel_rfl)) (fun _ _ _ h => h) (Or.inl ⟨by rfl, ?_⟩) ?_ ?_
  rotate_left
  · intro w'
    go_simp
    with_reducible rfl
  rotate_left
  · simp only [aP, i64_w, i32_w]
    rfl
  refine pure_ (i := 2) (N := some 11) (v := ?_) (a' := ?_) (bA 17 7) rfl rfl (any_of HT_.out (by kernel_rfl)) (fun _ _ _ h => h) (Or.inl ⟨by rfl, ?_⟩) ?_ ?_
  rotate_left
  · intro w'
    go_simp
    with_reducible rfl
  rotate_left
  · simp only [aP, i64_w, i32_w]
    rfl
  refine pure_ (i := 4) (N := some 13) (v := ?_) (a' := ?_) (bA 17 23) rfl rfl (any_of HT_.out (by kernel_rfl)) (fun _ _ _ h => h) (Or.inl ⟨by rfl, ?_⟩) ?_ ?_
  rotate_left
  · intro w'
    go_simp
    with_reducible rfl
  rotate_left
  · simp only [aP, i64_w, i32_w]
    rfl
  refine pure_ (i := 5) (N := some 14) (v := ?_) (a' := ?_) (bA 17 55) rfl rfl (any_of HT_.out (by kernel_rfl)) (fun _ _ _ h => h) (Or.inl ⟨by rfl, ?_⟩) ?_ ?_
  rotate_left
  · intro w'
    go_simp
    with_reducible rfl
  rotate_left
  · simp only [aP, i64_w, i32_w]
    rfl
  refine pure_ (i := 6) (N := some 15) (v := ?_) (a' := ?_) (bA 17 119) rfl rfl (any_of HT_.out (by kernel_rfl)) (fun _ _ _ h => h) (Or.inl ⟨by rfl, ?_⟩) ?_ ?_
  rotate_left
  · intro w'
    go_simp
    with_reducible rfl
  rotate_left
  · simp only [aP, i64_w, i32_w]
    rfl
  refine pure_ (i := 8) (N := some 17) (v := ?_) (a' := ?_) (bA 17 375) rfl rfl (any_of HT_.out (by kernel_rfl)) (fun _ _ _ h => h) (Or.inl ⟨by rfl, ?_⟩) ?_ ?_
  rotate_left
  · intro w'
    go_simp
    with_reducible rfl
  rotate_left
  · simp only [aP, i64_w, i32_w]
    rfl
  refine pure_ (i := 9) (N := some 18) (v := ?_) (a' := ?_) (bA 17 887) rfl rfl (any_of HT_.out (by kernel_rfl)) (fun _ _ _ h => h) (Or.inl ⟨by rfl, ?_⟩) ?_ ?_
  rotate_left
  · intro w'
    go_simp
    with_reducible rfl
  rotate_left
  · simp only [aP, i64_w, i32_w]
    rfl
  refine pure_ (i := 10) (N := some 19) (v := ?_) (a' := ?_) (bA 17 1911) rfl rfl (any_of HT_.out (by kernel_rfl)) (fun _ _ _ h => h) (Or.inl ⟨by rfl, ?_⟩) ?_ ?_
  rotate_left
  · intro w'
    go_simp
    with_reducible rfl
  rotate_left
  · simp only [aP, i64_w, i32_w]
    rfl
  refine pure_ (i := 13) (N := some 22) (v := ?_) (a' := ?_) (bA 17 10103) rfl rfl (any_of HT_.out (by kernel_rfl)) (fun _ _ _ h => h) (Or.inl ⟨by rfl, ?_⟩) ?_ ?_
  rotate_left
  · intro w'
    go_simp
    with_reducible rfl
  rotate_left
  · simp only [aP, i64_w, i32_w]
    rfl
  refine pure_ (i := 16) (N := some 25) (v := ?_) (a' := ?_) (bA 17 75639) rfl rfl (any_of HT_.out (by kernel_rfl)) (fun _ _ _ h => h) (Or.inl ⟨by rfl, ?_⟩) ?_ ?_
  rotate_left
  · intro w'
    go_simp
    with_reducible rfl
  rotate_left
  · simp only [aP, i64_w, i32_w]
    rfl
  refine take_ (i := 3) (N := some 12) (v := ?_) (a' := ?_) (bA 17 75647) rfl rfl (take_ofW HT_.out HW_.out (by kernel_rfl)) (fun _ _ _ h => h) (Or.inl ⟨by rfl, ?_⟩) hHeld ?_ ?_
  rotate_left
  · rintro w' ⟨s0, s1, s2⟩
    go_simp
    with_reducible rfl
  rotate_left
  · simp only [aP, i64_w, i32_w]
    rfl
  refine take_ (i := 7) (N := some 16) (v := ?_) (a' := ?_) (bA 17 75775) rfl rfl (take_ofW HT_.out HW_.out (by kernel_rfl)) (fun _ _ _ h => h) (Or.inl ⟨by rfl, ?_⟩) hHeld ?_ ?_
  rotate_left
  · rintro w' ⟨s0, s1, s2⟩
    go_simp
    with_reducible rfl
  rotate_left
  · simp only [aP, i64_w, i32_w]
    rfl
  refine take_ (i := 11) (N := some 20) (v := ?_) (a' := ?_) (bA 17 77823) rfl rfl (take_ofW HT_.out HW_.out (by kernel_rfl)) (fun _ _ _ h => h) (Or.inl ⟨by rfl, ?_⟩) hHeld ?_ ?_
  rotate_left
  · rintro w' ⟨s0, s1, s2⟩
    go_simp
    with_reducible rfl
  rotate_left
  · simp only [aP, i64_w, i32_w]
    rfl
  refine pure_ (i := 12) (N := some 21) (v := ?_) (a' := ?_) (bA 17 81919) rfl rfl (any_of HT_.out (by kernel_rfl)) (fun _ _ _ h => h) (Or.inl ⟨by rfl, ?_⟩) ?_ ?_
  rotate_left
  · intro w'
    go_simp
    with_reducible rfl
  rotate_left
  · simp only [aP, i64_w, i32_w]
    rfl
  refine oZ 14 (some 23) (bA 17 98303) HT_.out (fun K hK => ?_); refine gZ Try.func124 #[.int .i64 a0_0, .int .i64 a0_1, .int .i64 (l0_2.length : Int), .string a1] ?_
  with_reducible refine (impl_probesOf.calls k a0_0 a0_1 (l0_2.length : Int) a1 t279 _ A4.out).mono ?_
  rintro e w7 ⟨v280, rfl, ho0, hb⟩; refine ⟨_, rfl, ?_⟩; have n0_ := Re HO0_2 (Kd.R_base ho0) hb; have n1_ := am (Kd.R_lower (Kd.R_new' (Kd.R_newM (M := fun k_ => (P0_2_ k_ ∨ w.heap.size ≤ k_)) ho0 (by first | exact HK.out.1 | exact (show Kept w _ (fun k_ => P0_2_ k_) from by repeat (first | (with_reducible first | exact HK.out | apply Kept.alloc | apply Kept.drewN | apply Kept.drew | refine Kept.setCell ?_ (.inr GW0.out) _) | exact HK.out)).1) (fun k_ h_ => .inr h_)) (Kd.R_lt (Rz HO0_2.out))) (by first | exact below_size (w := w0) (Bq) | exact below_size (w := w) (Bq))); have n2_ := Kb BK0 hb; have n3_ := am (Kept.below (S := (fun k_ => P0_2_ k_)) (by repeat (first | (with_reducible first | exact HK.out | apply Kept.alloc | apply Kept.drewN | apply Kept.drew | refine Kept.setCell ?_ (.inr GW0.out) _) | exact HK.out)) hb); have n4_ := Bc HB hb; clear HO0_2 BK0 HK HB; revert n0_ n1_ n2_ n3_ n4_; intro HO0_2 HO281 BK0 HK HB
  (try clear hb)
  (try clear hb2)
  (try clear hk)
  (try clear hi)
  (try clear ho0)
  obtain ⟨Ao8, co8, eo8⟩ := Kd.R_slice HO281.out
  (first | subst eo8 | (injection eo8 with f1_ f2_ f3_; have f4_ := f1_.symm; have f5_ := f3_.symm; clear f1_ f2_ f3_; subst f4_; subst f5_))
  refine hK.out _ _ ⟨cz BK0 0, cz BK0 1, cz BK0 2⟩ (fun hHeld => ?_); clear hK K; refine norm_ (a' := ?_) ?_ ?_
  rotate_left
  · show Act.put _ (some 23) _ = _
    simp only [aP, i64_w, i32_w]
    rfl
  refine pure_ (i := 15) (N := some 24) (v := ?_) (a' := ?_) (bA 17 131071) rfl rfl (any_of HT_.out (by kernel_rfl)) (fun _ _ _ h => h) (Or.inl ⟨by rfl, ?_⟩) ?_ ?_
  rotate_left
  · intro w'
    go_simp
    with_reducible rfl
  rotate_left
  · simp only [aP, i64_w, i32_w]
    rfl
  refine done_ (done_of HT_.out (by kernel_rfl)) ?_
  try go_wp2
  go_loopg [25] k (fun kq v25 w' => ∃ (x23_1 : List Int) (x25_1 : Int) (x1002_1 : List Int), v25 = .int .i64 x25_1 ∧ Aside0 (impl_Counting_change.l0 kq a2 x23_1 (t279.length : Int) x25_1 a0_0 a0_1 x1002_1 = some (r1, r2)) ∧ Aside0 (kq ≤ k) ∧ Aside0 (Kd.R (Kd.int .i64) 3 w' w0.heap.size (fun k_ => (P0_2_ k_ ∨ w.heap.size ≤ k_) ∧ some k_ ≠ ((.slice Ao6 l0_2.length co6) : Value).ownBlock) (.slice Ao8 t279.length co8) x23_1) ∧ Aside0 (Kd.R (Kd.int .i64) 3 w' w0.heap.size (fun k_ => (P0_2_ k_ ∨ w.heap.size ≤ k_) ∧ some k_ ≠ ((.slice Ao8 t279.length co8) : Value).ownBlock) (.slice Ao6 l0_2.length co6) x1002_1) ∧ Aside0 (w'.heap[g0]? = some (.cells #[.int .i64 a0_0, .int .i64 a0_1, (.slice Ao6 l0_2.length co6)] 49 (0, 0))) ∧ Aside0 (Kept w w' (fun k_ => P0_2_ k_)) ∧ Aside0 (Below w0.heap.size w0 w'))
  case atStart => exact ⟨(t279), (0), (l0_2), wZ, H', ⟨Nat.le_refl _⟩, ⟨Rz (Kd.R_mono HO281.out (fun _ hk => ⟨hk.1.1, hk.2⟩))⟩, ⟨Rz HO0_2.out⟩, ⟨Kz BK0.out⟩, ⟨by repeat (first | (with_reducible first | exact HK.out | apply Kept.alloc | apply Kept.drewN | apply Kept.drew | refine Kept.setCell ?_ (.inr GW0.out) _) | exact HK.out)⟩, ⟨Bq⟩⟩
  case round =>
    clear H'
    try clear c1
    try clear p2
    obtain ⟨x23_1, x25_1, x1002_1, rfl, HA, HK1, HO_23, HO_1002, BK0, HK, HB⟩ := hrel; have hl23_1 := (Kd.R_reads' HO_23.out).1; rw [hl23_1] at HO_23
    (try simp only [hl23_1])
    (try simp only [hl23_1] at BK0)
    (try simp only [hl23_1] at HO_1002)
    have hl1002_1 := (Kd.R_reads' HO_1002.out).1; rw [hl1002_1] at HO_1002
    (try simp only [hl1002_1])
    (try simp only [hl1002_1] at BK0)
    (try simp only [hl1002_1] at HO_23)
    cases gk with
    | zero => exact absurd HA.out (by simp [impl_Counting_change.l0])
    | succ k1 =>
      have H := HA.out; clear HA
      simp only [impl_Counting_change.l0] at H
      by_cases c9 : x25_1 < (t279.length : Int)
      · rw [if_pos c9] at H
        have c9b0 : decide (x25_1 < (t279.length : Int)) = true := decide_eq_true c9; (try simp only [hl23_1, hl1002_1] at c9b0); clear c9
        by_cases c10 : 0 ≤ x25_1
        · rw [if_pos c10] at H
          have c10b0 : decide (0 ≤ x25_1) = true := decide_eq_true c10; clear c10
          by_cases c11 : x25_1 < (x23_1.length : Int)
          · rw [if_pos c11] at H
            have c11b0 : decide (x25_1 < (x23_1.length : Int)) = true := decide_eq_true c11; (try simp only [hl23_1, hl1002_1] at c11b0); clear c11
            by_cases c12 : 0 ≤ (rd x23_1 x25_1)
            · rw [if_pos c12] at H
              have c12b0 : decide (0 ≤ (rd x23_1 x25_1)) = true := decide_eq_true c12; clear c12
              by_cases c13 : (rd x23_1 x25_1) < (x1002_1.length : Int)
              · rw [if_pos c13] at H
                have c13b0 : decide ((rd x23_1 x25_1) < (x1002_1.length : Int)) = true := decide_eq_true c13; (try simp only [hl23_1, hl1002_1] at c13b0); clear c13
                by_cases c14 : (rd x1002_1 (rd x23_1 x25_1)) = 15
                · rw [if_pos c14] at H
                  have c14b0 : ((rd x1002_1 (rd x23_1 x25_1)) == 15) = true := beq_iff_eq.mpr c14; have c14b1 : ((rd x1002_1 (rd x23_1 x25_1)) != 15) = false := bne_eq_false_iff_eq.mpr c14; clear c14; have H' := am H; clear H; obtain ⟨ad282, e282, hx282_0⟩ := Kd.at_int (Kd.R_reads' HO_23.out).2.2 x25_1 dT dT; cases e282; have p282 := eT (0 ≤ (x25_1 : Int)); have q282 := eT (x25_1 < (x23_1.length : Int)); obtain ⟨hcz15_0, hcz15_1, hcz15_2, hfz15_0, hfz15_1, hfz15_2⟩ := cf3 (w := wr) BK0; obtain ⟨ad283, e283, hx283_0⟩ := Kd.at_int (Kd.R_reads' HO_1002.out).2.2 (rd x23_1 x25_1) dT dT; cases e283; have p283 := eT (0 ≤ ((rd x23_1 x25_1) : Int)); have q283 := eT ((rd x23_1 x25_1) < (x1002_1.length : Int))
                  go_wp2
                  (try simp only [← hl23_1, ← hl1002_1])
                  go_roundg k1
                  case measure => have := HK1.out; omega
                  case rel => exact ⟨(x23_1), (wrap64 (x25_1 + 1)), (x1002_1), wZ, H', ⟨by have := HK1.out; omega⟩, ⟨by (try simp only [hl23_1]); (try simp only [hl1002_1]); (with_reducible repeat (first | apply Kd.R_alloc | apply Kd.R_drewN | apply Kd.R_drew)); exact HO_23.out⟩, ⟨by (try simp only [hl23_1]); (try simp only [hl1002_1]); (with_reducible repeat (first | apply Kd.R_alloc | apply Kd.R_drewN | apply Kd.R_drew)); exact HO_1002.out⟩, ⟨by (try simp only [hl23_1]); (try simp only [hl1002_1]); refine bp ?_; exact BK0.out⟩, ⟨by repeat (first | (with_reducible first | exact HK.out | apply Kept.alloc | apply Kept.drewN | apply Kept.drew | refine Kept.setCell ?_ (.inr GW0.out) _) | exact HK.out)⟩, ⟨Bq⟩⟩
                · rw [if_neg c14] at H
                  have c14b0 : ((rd x1002_1 (rd x23_1 x25_1)) == 15) = false := beq_eq_false_iff_ne.mpr c14; have c14b1 : ((rd x1002_1 (rd x23_1 x25_1)) != 15) = true := bne_iff_ne.mpr c14; obtain ⟨y285, hy285⟩ : ∃ y_ : List Int, y_ = (x1002_1.set ((rd x23_1 x25_1) : Int).toNat (wrap64 ((rd x1002_1 (rd x23_1 x25_1)) + a2))) := ⟨_, rfl⟩
                  replace H : (if (rd y285 (rd x23_1 x25_1)) < 0 then (some (false, y285)) else (impl_Counting_change.l0 k1 a2 x23_1 (t279.length : Int) (wrap64 (x25_1 + 1)) a0_0 a0_1 y285)) = some (r1, r2) := by first | (rw [hy285]; with_reducible exact H) | (have H2_ := (Option.bind_some _ _).symm.trans H; rw [hy285]; with_reducible exact H2_) | (have H2_ := (Option.bind_some _ _).symm.trans H; with_reducible exact H2_) | with_reducible exact H | (rw [hy285]; exact H) | exact H
                  have Ny285 := am hy285; clear hy285
                  by_cases c17 : (rd y285 (rd x23_1 x25_1)) < 0
                  · rw [if_pos c17] at H
                    have c17b0 : decide ((rd y285 (rd x23_1 x25_1)) < 0) = true := decide_eq_true c17; clear c17
                    simp only [Option.some.injEq, Prod.mk.injEq] at H
                    obtain ⟨rfl, rfl⟩ := H; obtain ⟨ad282, e282, hx282_0⟩ := Kd.at_int (Kd.R_reads' HO_23.out).2.2 x25_1 dT dT; cases e282; have p282 := eT (0 ≤ (x25_1 : Int)); have q282 := eT (x25_1 < (x23_1.length : Int)); obtain ⟨hcz18_0, hcz18_1, hcz18_2, hfz18_0, hfz18_1, hfz18_2⟩ := cf3 (w := wr) BK0; obtain ⟨ad283, e283, hx283_0⟩ := Kd.at_int (Kd.R_reads' HO_1002.out).2.2 (rd x23_1 x25_1) dT dT; cases e283; have p283 := eT (0 ≤ ((rd x23_1 x25_1) : Int)); have q283 := eT ((rd x23_1 x25_1) < (x1002_1.length : Int)); have p284 : 0 ≤ ((rd x23_1 x25_1) : Int) := dT; have q284 : (rd x23_1 x25_1) < (x1002_1.length : Int) := dT; obtain ⟨ad284, e284, hx284_0⟩ := Kd.at_int (Kd.R_reads' HO_1002.out).2.2 (rd x23_1 x25_1) p284 q284; obtain rfl : ad283 = ad284 := (by injection e284); replace p284 := eq_true p284; replace q284 := eq_true q284; have p16 : 0 ≤ ((rd x23_1 x25_1) : Int) := dT; have q16 : ((rd x23_1 x25_1) : Int) < ((x1002_1.length : Int) : Int) := dT; obtain ⟨go16, co16, eo16, gb16, gl16, cl16, HG16⟩ := Kd.R_form HO_1002.out (by omega)
                    (first | cases eo16 | (injection eo16 with ea_ en_ ec_; (first | subst ea_ | (injection ea_ with ea_; subst ea_)); subst ec_; clear en_))
                    have GB16 := am gb16; have GG16 := am HG16; clear gb16 gl16 HG16; have HMgo16 := am (show (P0_2_ go16 ∨ w.heap.size ≤ go16) from (HO_1002.out.1 _ rfl).1)
                    (first | simp only [add_plain] at hx283_0 | skip)
                    (first | simp only [add_plain] at hx284_0 | skip)
                    obtain ⟨hx16_0, hf16_0⟩ := Kd.R_celln 0 HO_1002.out ((rd x23_1 x25_1) : Int) p16 q16; replace p16 := eq_true p16; replace q16 := eq_true q16; have HP19 := Kd.R_putg HO_1002.out ((rd x23_1 x25_1) : Int) (wrap64 ((rd x1002_1 (rd x23_1 x25_1)) + a2))
                    go_wp2_with (first | ((with_reducible refine gate_store (t := 3) (p := 46) rfl ?_); refine store_event (t := 3) (p := 46) (v := ?vo_w20) (w1 := (wr.setCell ⟨go16, ((rd x23_1 x25_1) : Int).toNat, none⟩ (.int .i64 (wrap64 ((rd x1002_1 (rd x23_1 x25_1)) + a2))))) ?hg ?ho ?hn ?hr ?_; (case ho => rfl); (case hg => rfl); (case hn => rfl); (case hr => first | (go_simp; done) | (go_simp; rfl)); intro w20 hw; have hg : wr.grownBy w20 (some go16) := (by rw [hw]; exact HP19.2); have hp_ : Kd.R (Kd.int .i64) 3 w20 w0.heap.size (fun k_ => (P0_2_ k_ ∨ w.heap.size ≤ k_) ∧ some k_ ≠ (.slice (some ad282) x23_1.length co8 : Value).ownBlock) (.slice (some ⟨go16, 0, none⟩) x1002_1.length co6) y285 := (by rw [hw, Ny285.out]; exact HP19.1); clear HP19; have n0_ := am (Kd.R_after (v := (.slice (some ⟨go16, 0, none⟩) x1002_1.length co6)) (v1 := (.slice (some ⟨go16, 0, none⟩) x1002_1.length co6)) (ok := (fun k_ => (P0_2_ k_ ∨ w.heap.size ≤ k_))) (Rz HO_23.out) hg (.inl rfl)); have n1_ := am (hp_); have n2_ := am (blk_grown (g := g0) (o := .cells #[.int .i64 a0_0, .int .i64 a0_1, .slice (some ⟨go16, 0, none⟩) x1002_1.length co6] 49 (0, 0)) (Kz BK0.out) hg (Kd.R_ne HO_1002.out BK0.out (by decide))); have n3_ := am ((by rw [hw]; exact below_set (HB.out) GB16.out : Below w0.heap.size w0 w20)); have n4_ := am (Kept.of_grown (S := (fun k_ => P0_2_ k_)) hg (by repeat (first | (with_reducible first | exact HK.out | apply Kept.alloc | apply Kept.drewN | apply Kept.drew | refine Kept.setCell ?_ (.inr GW0.out) _) | exact HK.out)) (fun k_ e_ => (HO_1002.out.1 k_ e_).1)); clear HO_23 HO_1002 BK0 HB HK; revert n0_ n1_ n2_ n3_ n4_; intro HO_23 HO_1002 BK0 HB HK; clear hg hw hp_; obtain ⟨hcz21_0, hcz21_1, hcz21_2, hfz21_0, hfz21_1, hfz21_2⟩ := cf3 (w := w20) BK0; have p286 : 0 ≤ ((rd x23_1 x25_1) : Int) := dT; have q286 : (rd x23_1 x25_1) < (y285.length : Int) := (by have h_ : ((rd x23_1 x25_1) : Int) < ((x1002_1.length : Int) : Int) := dT; first | (have e_ := (Kd.R_reads' HO_1002.out).1; omega) | simpa only [Ny285.out, List.length_set] using h_); have ql286 : (((rd x23_1 x25_1) : Int) < ((x1002_1.length : Int) : Int)) = True := eq_true (dT); obtain ⟨ad286, e286, hx286_0⟩ := Kd.at_int (Kd.R_reads' HO_1002.out).2.2 (rd x23_1 x25_1) p286 q286; obtain rfl : (⟨go16, 0, none⟩ : Addr) = ad286 := (by injection e286); (first | simp only [add_plain] at hx286_0 | simp only [add_at] at hx286_0 | simp only [Addr.add, Nat.zero_add] at hx286_0 | skip); replace p286 := eq_true p286; replace q286 := eq_true q286))
                    go_ret
                    exact ⟨eZ, (by first | exact (Rz (Kd.R_mono HO_1002.out (fun _ hk => hk.1))) | (simp only [hl23_1, hl1002_1]; exact (Rz (Kd.R_mono HO_1002.out (fun _ hk => hk.1))))), Bq, by repeat (first | (with_reducible first | exact HK.out | apply Kept.alloc | apply Kept.drewN | apply Kept.drew | refine Kept.setCell ?_ (.inr GW0.out) _) | exact HK.out)⟩
                  · rw [if_neg c17] at H
                    have c17b0 : decide ((rd y285 (rd x23_1 x25_1)) < 0) = false := decide_eq_false c17; clear c17; have H' := am H; clear H; obtain ⟨ad282, e282, hx282_0⟩ := Kd.at_int (Kd.R_reads' HO_23.out).2.2 x25_1 dT dT; cases e282; have p282 := eT (0 ≤ (x25_1 : Int)); have q282 := eT (x25_1 < (x23_1.length : Int)); obtain ⟨hcz22_0, hcz22_1, hcz22_2, hfz22_0, hfz22_1, hfz22_2⟩ := cf3 (w := wr) BK0; obtain ⟨ad283, e283, hx283_0⟩ := Kd.at_int (Kd.R_reads' HO_1002.out).2.2 (rd x23_1 x25_1) dT dT; cases e283; have p283 := eT (0 ≤ ((rd x23_1 x25_1) : Int)); have q283 := eT ((rd x23_1 x25_1) < (x1002_1.length : Int)); have p284 : 0 ≤ ((rd x23_1 x25_1) : Int) := dT; have q284 : (rd x23_1 x25_1) < (x1002_1.length : Int) := dT; obtain ⟨ad284, e284, hx284_0⟩ := Kd.at_int (Kd.R_reads' HO_1002.out).2.2 (rd x23_1 x25_1) p284 q284; obtain rfl : ad283 = ad284 := (by injection e284); replace p284 := eq_true p284; replace q284 := eq_true q284; have p16 : 0 ≤ ((rd x23_1 x25_1) : Int) := dT; have q16 : ((rd x23_1 x25_1) : Int) < ((x1002_1.length : Int) : Int) := dT; obtain ⟨go16, co16, eo16, gb16, gl16, cl16, HG16⟩ := Kd.R_form HO_1002.out (by omega)
                    (first | cases eo16 | (injection eo16 with ea_ en_ ec_; (first | subst ea_ | (injection ea_ with ea_; subst ea_)); subst ec_; clear en_))
                    have GB16 := am gb16; have GG16 := am HG16; clear gb16 gl16 HG16; have HMgo16 := am (show (P0_2_ go16 ∨ w.heap.size ≤ go16) from (HO_1002.out.1 _ rfl).1)
                    (first | simp only [add_plain] at hx283_0 | skip)
                    (first | simp only [add_plain] at hx284_0 | skip)
                    obtain ⟨hx16_0, hf16_0⟩ := Kd.R_celln 0 HO_1002.out ((rd x23_1 x25_1) : Int) p16 q16; replace p16 := eq_true p16; replace q16 := eq_true q16; have HP23 := Kd.R_putg HO_1002.out ((rd x23_1 x25_1) : Int) (wrap64 ((rd x1002_1 (rd x23_1 x25_1)) + a2))
                    go_wp2_with (first | ((with_reducible refine gate_store (t := 3) (p := 46) rfl ?_); refine store_event (t := 3) (p := 46) (v := ?vo_w24) (w1 := (wr.setCell ⟨go16, ((rd x23_1 x25_1) : Int).toNat, none⟩ (.int .i64 (wrap64 ((rd x1002_1 (rd x23_1 x25_1)) + a2))))) ?hg ?ho ?hn ?hr ?_; (case ho => rfl); (case hg => rfl); (case hn => rfl); (case hr => first | (go_simp; done) | (go_simp; rfl)); intro w24 hw; have hg : wr.grownBy w24 (some go16) := (by rw [hw]; exact HP23.2); have hp_ : Kd.R (Kd.int .i64) 3 w24 w0.heap.size (fun k_ => (P0_2_ k_ ∨ w.heap.size ≤ k_) ∧ some k_ ≠ (.slice (some ad282) x23_1.length co8 : Value).ownBlock) (.slice (some ⟨go16, 0, none⟩) x1002_1.length co6) y285 := (by rw [hw, Ny285.out]; exact HP23.1); clear HP23; have n0_ := am (Kd.R_after (v := (.slice (some ⟨go16, 0, none⟩) x1002_1.length co6)) (v1 := (.slice (some ⟨go16, 0, none⟩) x1002_1.length co6)) (ok := (fun k_ => (P0_2_ k_ ∨ w.heap.size ≤ k_))) (Rz HO_23.out) hg (.inl rfl)); have n1_ := am (hp_); have n2_ := am (blk_grown (g := g0) (o := .cells #[.int .i64 a0_0, .int .i64 a0_1, .slice (some ⟨go16, 0, none⟩) x1002_1.length co6] 49 (0, 0)) (Kz BK0.out) hg (Kd.R_ne HO_1002.out BK0.out (by decide))); have n3_ := am ((by rw [hw]; exact below_set (HB.out) GB16.out : Below w0.heap.size w0 w24)); have n4_ := am (Kept.of_grown (S := (fun k_ => P0_2_ k_)) hg (by repeat (first | (with_reducible first | exact HK.out | apply Kept.alloc | apply Kept.drewN | apply Kept.drew | refine Kept.setCell ?_ (.inr GW0.out) _) | exact HK.out)) (fun k_ e_ => (HO_1002.out.1 k_ e_).1)); clear HO_23 HO_1002 BK0 HB HK; revert n0_ n1_ n2_ n3_ n4_; intro HO_23 HO_1002 BK0 HB HK; clear hg hw hp_; obtain ⟨hcz25_0, hcz25_1, hcz25_2, hfz25_0, hfz25_1, hfz25_2⟩ := cf3 (w := w24) BK0; have p286 : 0 ≤ ((rd x23_1 x25_1) : Int) := dT; have q286 : (rd x23_1 x25_1) < (y285.length : Int) := (by have h_ : ((rd x23_1 x25_1) : Int) < ((x1002_1.length : Int) : Int) := dT; first | (have e_ := (Kd.R_reads' HO_1002.out).1; omega) | simpa only [Ny285.out, List.length_set] using h_); have ql286 : (((rd x23_1 x25_1) : Int) < ((x1002_1.length : Int) : Int)) = True := eq_true (dT); obtain ⟨ad286, e286, hx286_0⟩ := Kd.at_int (Kd.R_reads' HO_1002.out).2.2 (rd x23_1 x25_1) p286 q286; obtain rfl : (⟨go16, 0, none⟩ : Addr) = ad286 := (by injection e286); (first | simp only [add_plain] at hx286_0 | simp only [add_at] at hx286_0 | simp only [Addr.add, Nat.zero_add] at hx286_0 | skip); replace p286 := eq_true p286; replace q286 := eq_true q286))
                    (try simp only [← hl23_1, ← hl1002_1])
                    go_roundg k1
                    case measure => have := HK1.out; omega
                    case rel => exact ⟨(x23_1), (wrap64 (x25_1 + 1)), (y285), wZ, H', ⟨by have := HK1.out; omega⟩, ⟨by (try simp only [hl23_1]); (try simp only [hl1002_1]); (with_reducible repeat (first | apply Kd.R_alloc | apply Kd.R_drewN | apply Kd.R_drew)); exact HO_23.out⟩, ⟨by (try simp only [hl23_1]); (try simp only [hl1002_1]); (with_reducible repeat (first | apply Kd.R_alloc | apply Kd.R_drewN | apply Kd.R_drew)); exact HO_1002.out⟩, ⟨by (try simp only [hl23_1]); (try simp only [hl1002_1]); refine bp ?_; exact BK0.out⟩, ⟨by repeat (first | (with_reducible first | exact HK.out | apply Kept.alloc | apply Kept.drewN | apply Kept.drew | refine Kept.setCell ?_ (.inr GW0.out) _) | exact HK.out)⟩, ⟨Bq⟩⟩
              · rw [if_neg c13] at H
                exact absurd H (by simp)
            · rw [if_neg c12] at H
              exact absurd H (by simp)
          · rw [if_neg c11] at H
            exact absurd H (by simp)
        · rw [if_neg c10] at H
          exact absurd H (by simp)
      · rw [if_neg c9] at H
        have c9b0 : decide (x25_1 < (t279.length : Int)) = false := decide_eq_false c9; (try simp only [hl23_1, hl1002_1] at c9b0); clear c9
        simp only [Option.some.injEq, Prod.mk.injEq] at H
        obtain ⟨rfl, rfl⟩ := H
        go_wp2
        go_ret
        exact ⟨eZ, (by first | exact (Rz (Kd.R_mono HO_1002.out (fun _ hk => hk.1))) | (simp only [hl23_1, hl1002_1]; exact (Rz (Kd.R_mono HO_1002.out (fun _ hk => hk.1))))), Bq, by repeat (first | (with_reducible first | exact HK.out | apply Kept.alloc | apply Kept.drewN | apply Kept.drew | refine Kept.setCell ?_ (.inr GW0.out) _) | exact HK.out)⟩

def impl_CountingRemove.j0 : Nat → ByteArray → Bool → Int → Int → List Int → Option (Int × Int × List Int × Bool)
  | 0, _, _, _, _, _ => none
  | k + 1, x1, x15, x288000, x288001, x288002 => if x15 = true then (some (0, 0, ([] : List Int), false)) else ((impl_cloneCounting.f x288000 x288001 x288002).bind fun bt291 => ((impl_Counting_bloom.f k x288000 x288001 x288002).bind fun bt296 => ((impl_Bloom_says.f k bt296.1 bt296.2.1 bt296.2.2.1 bt296.2.2.2 x1).bind fun t304 => (if t304 = true then ((impl_Counting_change.f k bt291.1 bt291.2.1 bt291.2.2 x1 (-1)).bind fun bt305 => (if bt305.1 = true then (some (bt291.1, bt291.2.1, bt305.2, true)) else (some (0, 0, ([] : List Int), false)))) else (some (0, 0, ([] : List Int), false))))))
def impl_CountingRemove.f (k : Nat) (a0_0 : Int) (a0_1 : Int) (l0_2 : List Int) (a1 : ByteArray) : Option (Int × Int × List Int × Bool) := (impl_IsCounting.f k a0_0 a0_1 l0_2).bind fun t289 => (if t289 = true then ((impl_IsKey.f k a1).bind fun t290 => (impl_CountingRemove.j0 k a1 (!t290) a0_0 a0_1 l0_2)) else (impl_CountingRemove.j0 k a1 true a0_0 a0_1 l0_2))
theorem impl_CountingRemove.calls (k : Nat) (a0_0 : Int) (a0_1 : Int) (A0_2 : Option Addr) (c0_2 : Nat) (l0_2 : List Int) (a1 : ByteArray) (r1 : Int) (r2 : Int) (r3 : List Int) (r4 : Bool) (w : World) (hr0_2 : Kd.C (Kd.int .i64) w A0_2 l0_2.length l0_2) (hc0_2 : l0_2.length ≤ c0_2) (h : impl_CountingRemove.f k a0_0 a0_1 l0_2 a1 = some (r1, r2, r3, r4)) :
    Calls Try.prog 32 #[.agg #[.int .i64 a0_0, .int .i64 a0_1, .slice A0_2 l0_2.length c0_2], .string a1] w fun e w' => ∃ v2_ : Value, e = .returned (.tuple #[.agg #[.int .i64 r1, .int .i64 r2, v2_], .bool r4]) ∧ Kd.R (Kd.int .i64) 3 w' w.heap.size (fun _ => True) v2_ r3 ∧ Below w.heap.size w w' := by
  have hu49 := Try.underlying49; have hu28 := Try.underlying28; have HR0_2 := am hr0_2; have HC0_2 := am hc0_2; clear hr0_2 hc0_2; have HB := am (Below.refl w.heap.size w); have H : ((impl_IsCounting.f k a0_0 a0_1 l0_2).bind fun t289 => (if t289 = true then ((impl_IsKey.f k a1).bind fun t290 => (impl_CountingRemove.j0 k a1 (!t290) a0_0 a0_1 l0_2)) else (impl_CountingRemove.j0 k a1 true a0_0 a0_1 l0_2))) = some (r1, r2, r3, r4) := h; clear h; have HC3 := am H; clear H
  go_enter Try.func32, Try.ntmps32
  go_upto_region 1 with (first | ((with_reducible refine gate_dst (N := 2) rfl ?_); refine bE 2 #[.int .i64 a0_0, .int .i64 a0_1, .slice A0_2 l0_2.length c0_2] 49 ?_; intro gb287 hg w4 hbox hb; have n0_ := Bb HB hb; have n1_ := am (hbox); have n2_ := Gl HB hg; have n3_ := Gl HB hg; clear HB; revert n0_ n1_ n2_ n3_; intro HB BK287 GW287 GE287; clear hb hbox hg) | ((with_reducible refine gate_dst (N := 4) rfl ?_); refine bE 4 #[.int .i64 0, .int .i64 0, .slice none 0 0] 49 ?_; intro gb288 hg w5 hbox hb; have n0_ := Kb BK287 hb; have n1_ := Bc HB hb; have n2_ := am (hbox); have n3_ := Gm HB hg; have n4_ := Gm HB hg; have n5_ := Nl BK287 hg; have n6_ := Ng BK287 hg; clear BK287 HB; revert n0_ n1_ n2_ n3_ n4_ n5_ n6_; intro BK287 HB BK288 GW288 GE288 NB287_288 NB288_287; clear hb hbox hg))
  (try simp only [aP])
  go_cut [15] (fun v15 wc => ∃ (kq : Nat) (x15_2 : Bool), v15 = .bool x15_2 ∧ Aside0 (impl_CountingRemove.j0 kq a1 x15_2 a0_0 a0_1 l0_2 = some (r1, r2, r3, r4)) ∧ Aside0 (kq ≤ k) ∧ Aside0 (wc.heap[gb287]? = some (.cells #[.int .i64 a0_0, .int .i64 a0_1, (.slice A0_2 l0_2.length c0_2)] 49 (0, 0))) ∧ Aside0 (wc.heap[gb288]? = some (.cells #[.int .i64 0, .int .i64 0, (.slice none 0 0)] 49 (0, 0))) ∧ Aside0 (Below w.heap.size w wc))
  case first =>
    have H := HC3.out; clear HC3; obtain ⟨t289, A6, H⟩ := ob H; (try dsimp -simprocs only at H)
    by_cases c7 : t289 = true
    · subst c7
      rw [if_pos rfl] at H; obtain ⟨t290, A8, H⟩ := ob H; (try dsimp -simprocs only at H); have H' := am H; clear H; have hnb9 := NB287_288.out; have hnc9 := NB288_287.out; obtain ⟨hcz10_0, hcz10_1, hcz10_2, hfz10_0, hfz10_1, hfz10_2⟩ := cf3 (w := w5) BK287
      go_wp2_with (first | ((with_reducible refine gate_callee (f := 67) rfl ?_); refine gL (some 9) Try.func67 #[.agg #[.int .i64 a0_0, .int .i64 a0_1, .slice A0_2 l0_2.length c0_2]] ?_; (with_reducible refine (impl_IsCounting.calls k a0_0 a0_1 _ _ l0_2 true _ ?side1 ?side2 A6.out).mono ?_); (case side1 => exact Cz (Kd.C_below HR0_2.out HB.out)); (case side2 => exact HC0_2.out); rintro e w11 ⟨rfl, hb⟩; refine ⟨_, rfl, ?_⟩; have n0_ := Kb BK287 hb; have n1_ := Kb BK288 hb; have n2_ := Bc HB hb; clear BK287 BK288 HB; revert n0_ n1_ n2_; intro BK287 BK288 HB; (try clear hb); (try clear hb2); (try clear hk); (try clear hi)) | (go_at_call 98; (with_reducible refine (impl_IsKey.calls k a1 t290 _ A8.out).mono ?_); rintro e w' ⟨rfl, ⟨nd, rfl⟩⟩))
      go_meet
      case rel => exact ⟨_, (!t290), wZ, H', ⟨by first | omega | exact Nat.le_refl _⟩, ⟨Kz BK287.out⟩, ⟨Kz BK288.out⟩, ⟨Bq⟩⟩
    · replace c7 := Bool.eq_false_iff.mpr c7
      subst c7
      rw [if_neg (show ¬ (false = true) by decide)] at H; have H' := am H; clear H; have hnb12 := NB287_288.out; have hnc12 := NB288_287.out; obtain ⟨hcz13_0, hcz13_1, hcz13_2, hfz13_0, hfz13_1, hfz13_2⟩ := cf3 (w := w5) BK287
      go_wp2_with (first | ((with_reducible refine gate_callee (f := 67) rfl ?_); refine gL (some 9) Try.func67 #[.agg #[.int .i64 a0_0, .int .i64 a0_1, .slice A0_2 l0_2.length c0_2]] ?_; (with_reducible refine (impl_IsCounting.calls k a0_0 a0_1 _ _ l0_2 false _ ?side1 ?side2 A6.out).mono ?_); (case side1 => exact Cz (Kd.C_below HR0_2.out HB.out)); (case side2 => exact HC0_2.out); rintro e w14 ⟨rfl, hb⟩; refine ⟨_, rfl, ?_⟩; have n0_ := Kb BK287 hb; have n1_ := Kb BK288 hb; have n2_ := Bc HB hb; clear BK287 BK288 HB; revert n0_ n1_ n2_; intro BK287 BK288 HB; (try clear hb); (try clear hb2); (try clear hk); (try clear hi)))
      go_meet
      case rel => exact ⟨_, (true), wZ, H', ⟨by first | omega | exact Nat.le_refl _⟩, ⟨Kz BK287.out⟩, ⟨Kz BK288.out⟩, ⟨Bq⟩⟩
  case rest =>
    clear HC3
    try clear c1
    try clear p2
    try clear c3
    try clear c6
    try clear c7
    try clear c9
    try clear c12
    obtain ⟨kq, x15_2, rfl, HA, HJ2, BK287, BK288, HB⟩ := hcut; cases kq with
    | zero => exact absurd HA.out (by simp [impl_CountingRemove.j0])
    | succ kj2 =>
      have H := HA.out; clear HA
      simp only [impl_CountingRemove.j0] at H
      by_cases c15 : x15_2 = true
      · subst c15
        rw [if_pos rfl] at H
        simp only [Option.some.injEq, Prod.mk.injEq] at H
        obtain ⟨rfl, rfl, rfl, rfl⟩ := H; have hnb16 := NB288_287.out; have hnc16 := NB287_288.out; obtain ⟨hcz17_0, hcz17_1, hcz17_2, hfz17_0, hfz17_1, hfz17_2⟩ := cf3 (w := wc) BK288
        go_wp2
        refine bodyPost_ret (results_ct rfl _ _ gb288 49 #[.int .i64 0, .int .i64 0, .slice none 0 0] (0, 0) _ rfl (by refine bp ?_; refine blk_put (cs := #[.int .i64 0, .int .i64 0, .slice none 0 0]) ?_ 2 _ rfl; refine bp ?_; refine blk_put (cs := #[.int .i64 0, .int .i64 0, .slice none 0 0]) ?_ 1 _ rfl; refine bp ?_; refine blk_put (cs := #[.int .i64 0, .int .i64 0, .slice none 0 0]) ?_ 0 _ rfl; exact Kz BK288.out) Try.underlying49 rfl (by kernel_rfl)) rfl ?_; exact ⟨_, eZ, nZ, Bq⟩
      · replace c15 := Bool.eq_false_iff.mpr c15
        subst c15
        rw [if_neg (show ¬ (false = true) by decide)] at H; obtain ⟨⟨t291, t292, t293⟩, A18, H⟩ := ob H; (try dsimp -simprocs only at H); obtain ⟨⟨t296, t297, t298, t299⟩, A19, H⟩ := ob H; (try dsimp -simprocs only at H); obtain ⟨t304, A20, H⟩ := ob H; (try dsimp -simprocs only at H)
        by_cases c21 : t304 = true
        · subst c21
          rw [if_pos rfl] at H; obtain ⟨⟨t305, t306⟩, A22, H⟩ := ob H; (try dsimp -simprocs only at H)
          by_cases c23 : t305 = true
          · subst c23
            rw [if_pos rfl] at H
            simp only [Option.some.injEq, Prod.mk.injEq] at H
            obtain ⟨rfl, rfl, rfl, rfl⟩ := H; have hnb24 := NB287_288.out; have hnc24 := NB288_287.out; obtain ⟨hcz25_0, hcz25_1, hcz25_2, hfz25_0, hfz25_1, hfz25_2⟩ := cf3 (w := wc) BK287
            go_wp2_with (first | ((with_reducible refine gate_callee (f := 112) rfl ?_); refine gL (some 18) Try.func112 #[.agg #[.int .i64 a0_0, .int .i64 a0_1, .slice A0_2 l0_2.length c0_2]] ?_; (with_reducible refine (impl_cloneCounting.calls a0_0 a0_1 _ _ l0_2 t291 t292 t293 _ ?side1 ?side2 A18.out).mono ?_); (case side1 => exact Cz (Kd.C_below HR0_2.out HB.out)); (case side2 => exact HC0_2.out); rintro e w26 ⟨v294, rfl, ho0, hb⟩; refine ⟨_, rfl, ?_⟩; have n0_ := Rm ho0 HB; have n1_ := Kb BK287 hb; have n2_ := Kb BK288 hb; have n3_ := Bc HB hb; clear BK287 BK288 HB; revert n0_ n1_ n2_ n3_; intro HO295 BK287 BK288 HB; (try clear hb); (try clear hb2); (try clear hk); (try clear hi); (try clear ho0)) | ((with_reducible refine gate_callee (f := 113) rfl ?_); refine gL (some 19) Try.func113 #[.pointer (some ⟨gb287, 0, none⟩)] ?_; (with_reducible refine (impl_Counting_bloom.calls kj2 gb287 a0_0 a0_1 A0_2 c0_2 l0_2 t296 t297 t298 t299 _ ?side1 ?side2 ?side3 A19.out).mono ?_); (case side1 => exact Kz BK287.out); (case side2 => exact Cz (Kd.C_below HR0_2.out HB.out)); (case side3 => exact HC0_2.out); rintro e w27 ⟨v300, rfl, ho0, hb⟩; refine ⟨_, rfl, ?_⟩; have n0_ := Re HO295 (Kd.R_base ho0) hb; have n1_ := Rm (Kd.R_new' ho0 (Kd.R_lt (Rz HO295.out))) HB; have n2_ := Kb BK287 hb; have n3_ := Kb BK288 hb; have n4_ := Bc HB hb; clear HO295 BK287 BK288 HB; revert n0_ n1_ n2_ n3_ n4_; intro HO295 HO301 BK287 BK288 HB; (try clear hb); (try clear hb2); (try clear hk); (try clear hi); (try clear ho0)) | ((with_reducible refine gate_dst (N := 6) rfl ?_); refine bE 6 #[.int .i64 0, .int .i64 0, .slice none 0 0] 49 ?_; intro gb302 hg w28 hbox hb; have n0_ := Rb HO295 hb; have n1_ := Rb HO301 hb; have n2_ := Kb BK287 hb; have n3_ := Kb BK288 hb; have n4_ := Bc HB hb; have n5_ := am (hbox); have n6_ := Gm HB hg; have n7_ := Gm HB hg; have n8_ := Nl BK287 hg; have n9_ := Ng BK287 hg; have n10_ := Nl BK288 hg; have n11_ := Ng BK288 hg; clear HO295 HO301 BK287 BK288 HB; revert n0_ n1_ n2_ n3_ n4_ n5_ n6_ n7_ n8_ n9_ n10_ n11_; intro HO295 HO301 BK287 BK288 HB BK302 GW302 GE302 NB287_302 NB302_287 NB288_302 NB302_288; clear hb hbox hg) | ((with_reducible refine gate_dst (N := 7) rfl ?_); refine bE 7 #[.int .i64 0, .int .i64 0, .int .i64 0, .slice none 0 0] 28 ?_; intro gb303 hg w29 hbox hb; have n0_ := Rb HO295 hb; have n1_ := Rb HO301 hb; have n2_ := Kb BK287 hb; have n3_ := Kb BK288 hb; have n4_ := Kb BK302 hb; have n5_ := Bc HB hb; have n6_ := am (hbox); have n7_ := Gm HB hg; have n8_ := Gm HB hg; have n9_ := Nl BK287 hg; have n10_ := Ng BK287 hg; have n11_ := Nl BK288 hg; have n12_ := Ng BK288 hg; have n13_ := Nl BK302 hg; have n14_ := Ng BK302 hg; clear HO295 HO301 BK287 BK288 BK302 HB; revert n0_ n1_ n2_ n3_ n4_ n5_ n6_ n7_ n8_ n9_ n10_ n11_ n12_ n13_ n14_; intro HO295 HO301 BK287 BK288 BK302 HB BK303 GW303 GE303 NB287_303 NB303_287 NB288_303 NB303_288 NB302_303 NB303_302; clear hb hbox hg; have hnb30 := NB302_287.out; have hnc30 := NB287_302.out; have hnb31 := NB302_288.out; have hnc31 := NB288_302.out; have hnb32 := NB302_303.out; have hnc32 := NB303_302.out; obtain ⟨hcz33_0, hcz33_1, hcz33_2, hfz33_0, hfz33_1, hfz33_2⟩ := cf3 (w := w29) BK302; obtain ⟨Ao34, co34, eo34⟩ := Kd.R_slice HO295.out; subst eo34; have hnb35 := NB303_287.out; have hnc35 := NB287_303.out; have hnb36 := NB303_288.out; have hnc36 := NB288_303.out; obtain ⟨hcz37_0, hcz37_1, hcz37_2, hcz37_3, hfz37_0, hfz37_1, hfz37_2, hfz37_3⟩ := cf4 (w := w29) BK303; obtain ⟨Ao38, co38, eo38⟩ := Kd.R_slice HO301.out; subst eo38) | ((with_reducible refine gate_callee (f := 105) rfl ?_); refine gL (some 21) Try.func105 #[.pointer (some ⟨gb303, 0, none⟩), .string a1] ?_; (with_reducible refine (impl_Bloom_says.calls kj2 gb303 t296 t297 t298 Ao38 co38 t299 a1 true _ ?side1 ?side2 ?side3 A20.out).mono ?_); (case side1 => refine bp ?_; refine blk_put (cs := #[.int .i64 t296, .int .i64 t297, .int .i64 t298, .slice none 0 0]) ?_ 3 _ rfl; refine bp ?_; refine blk_put (cs := #[.int .i64 t296, .int .i64 t297, .int .i64 0, .slice none 0 0]) ?_ 2 _ rfl; refine bp ?_; refine blk_put (cs := #[.int .i64 t296, .int .i64 0, .int .i64 0, .slice none 0 0]) ?_ 1 _ rfl; refine bp ?_; refine blk_put (cs := #[.int .i64 0, .int .i64 0, .int .i64 0, .slice none 0 0]) ?_ 0 _ rfl; refine bp ?_; refine blk_far ?_ NB303_302.out _; refine bp ?_; refine blk_far ?_ NB303_302.out _; refine bp ?_; refine blk_far ?_ NB303_302.out _; exact Kz BK303.out); (case side2 => refine (Kd.R_reads' (e := 3) (base := w.heap.size) (ok := fun k_ => (True ∧ some k_ ≠ (.slice Ao34 t293.length co34 : Value).ownBlock)) (n := t299.length) (c := co38) ?_).2.2; exact (Rz (Kd.R_mono (Kd.R_mono (Kd.R_far (p := ⟨gb303, 3, none⟩) (Kd.R_far (p := ⟨gb303, 2, none⟩) (Kd.R_far (p := ⟨gb303, 1, none⟩) (Kd.R_far (p := ⟨gb303, 0, none⟩) (Kd.R_far (p := ⟨gb302, 2, none⟩) (Kd.R_far (p := ⟨gb302, 1, none⟩) (Kd.R_far (p := ⟨gb302, 0, none⟩) (Kd.R_types (Kd.R_types HO301.out BK302.out (by decide)) BK303.out (by decide)) (fun _ hk => hk.1.2) (.int .i64 t291)) (fun _ hk => hk.1.2) (.int .i64 t292)) (fun _ hk => hk.1.2) (.slice Ao34 t293.length co34)) (fun _ hk => hk.2) (.int .i64 t296)) (fun _ hk => hk.2) (.int .i64 t297)) (fun _ hk => hk.2) (.int .i64 t298)) (fun _ hk => hk.2) (.slice Ao38 t299.length co38)) (fun _ h_ => h_.1)) (fun _ h_ => h_.1)))); (case side3 => exact (Kd.R_reads' HO301.out).2.1); rintro e w39 ⟨rfl, hb⟩; refine ⟨_, rfl, ?_⟩; have n0_ := am (Kd.R_below (Rz (Kd.R_mono (Kd.R_mono (Kd.R_far (p := ⟨gb303, 3, none⟩) (Kd.R_far (p := ⟨gb303, 2, none⟩) (Kd.R_far (p := ⟨gb303, 1, none⟩) (Kd.R_far (p := ⟨gb303, 0, none⟩) (Kd.R_far (p := ⟨gb302, 2, none⟩) (Kd.R_far (p := ⟨gb302, 1, none⟩) (Kd.R_far (p := ⟨gb302, 0, none⟩) (Kd.R_types (Kd.R_types HO295.out BK302.out (by decide)) BK303.out (by decide)) (fun _ hk => hk.1.2) (.int .i64 t291)) (fun _ hk => hk.1.2) (.int .i64 t292)) (fun _ hk => hk.1.2) (.slice Ao34 t293.length co34)) (fun _ hk => hk.2) (.int .i64 t296)) (fun _ hk => hk.2) (.int .i64 t297)) (fun _ hk => hk.2) (.int .i64 t298)) (fun _ hk => hk.2) (.slice Ao38 t299.length co38)) (fun _ h_ => h_.1)) (fun _ h_ => h_.1))) hb); have n1_ := am (Kd.R_below (Rz (Kd.R_mono (Kd.R_mono (Kd.R_far (p := ⟨gb303, 3, none⟩) (Kd.R_far (p := ⟨gb303, 2, none⟩) (Kd.R_far (p := ⟨gb303, 1, none⟩) (Kd.R_far (p := ⟨gb303, 0, none⟩) (Kd.R_far (p := ⟨gb302, 2, none⟩) (Kd.R_far (p := ⟨gb302, 1, none⟩) (Kd.R_far (p := ⟨gb302, 0, none⟩) (Kd.R_types (Kd.R_types HO301.out BK302.out (by decide)) BK303.out (by decide)) (fun _ hk => hk.1.2) (.int .i64 t291)) (fun _ hk => hk.1.2) (.int .i64 t292)) (fun _ hk => hk.1.2) (.slice Ao34 t293.length co34)) (fun _ hk => hk.2) (.int .i64 t296)) (fun _ hk => hk.2) (.int .i64 t297)) (fun _ hk => hk.2) (.int .i64 t298)) (fun _ hk => hk.2) (.slice Ao38 t299.length co38)) (fun _ h_ => h_.1)) (fun _ h_ => h_.1))) hb); have n2_ := am (blk_below (g := gb287) (o := .cells #[.int .i64 a0_0, .int .i64 a0_1, .slice A0_2 l0_2.length c0_2] 49 (0, 0)) (by refine bp ?_; refine blk_far ?_ NB287_303.out _; refine bp ?_; refine blk_far ?_ NB287_303.out _; refine bp ?_; refine blk_far ?_ NB287_303.out _; refine bp ?_; refine blk_far ?_ NB287_303.out _; refine bp ?_; refine blk_far ?_ NB287_302.out _; refine bp ?_; refine blk_far ?_ NB287_302.out _; refine bp ?_; refine blk_far ?_ NB287_302.out _; exact Kz BK287.out) hb); have n3_ := am (blk_below (g := gb288) (o := .cells #[.int .i64 0, .int .i64 0, .slice none 0 0] 49 (0, 0)) (by refine bp ?_; refine blk_far ?_ NB288_303.out _; refine bp ?_; refine blk_far ?_ NB288_303.out _; refine bp ?_; refine blk_far ?_ NB288_303.out _; refine bp ?_; refine blk_far ?_ NB288_303.out _; refine bp ?_; refine blk_far ?_ NB288_302.out _; refine bp ?_; refine blk_far ?_ NB288_302.out _; refine bp ?_; refine blk_far ?_ NB288_302.out _; exact Kz BK288.out) hb); have n4_ := am (blk_below (g := gb302) (o := .cells #[.int .i64 t291, .int .i64 t292, .slice Ao34 t293.length co34] 49 (0, 0)) (by refine bp ?_; refine blk_far ?_ NB302_303.out _; refine bp ?_; refine blk_far ?_ NB302_303.out _; refine bp ?_; refine blk_far ?_ NB302_303.out _; refine bp ?_; refine blk_far ?_ NB302_303.out _; refine bp ?_; refine blk_put (cs := #[.int .i64 t291, .int .i64 t292, .slice none 0 0]) ?_ 2 _ rfl; refine bp ?_; refine blk_put (cs := #[.int .i64 t291, .int .i64 0, .slice none 0 0]) ?_ 1 _ rfl; refine bp ?_; refine blk_put (cs := #[.int .i64 0, .int .i64 0, .slice none 0 0]) ?_ 0 _ rfl; exact Kz BK302.out) hb); have n5_ := am (blk_below (g := gb303) (o := .cells #[.int .i64 t296, .int .i64 t297, .int .i64 t298, .slice Ao38 t299.length co38] 28 (0, 0)) (by refine bp ?_; refine blk_put (cs := #[.int .i64 t296, .int .i64 t297, .int .i64 t298, .slice none 0 0]) ?_ 3 _ rfl; refine bp ?_; refine blk_put (cs := #[.int .i64 t296, .int .i64 t297, .int .i64 0, .slice none 0 0]) ?_ 2 _ rfl; refine bp ?_; refine blk_put (cs := #[.int .i64 t296, .int .i64 0, .int .i64 0, .slice none 0 0]) ?_ 1 _ rfl; refine bp ?_; refine blk_put (cs := #[.int .i64 0, .int .i64 0, .int .i64 0, .slice none 0 0]) ?_ 0 _ rfl; refine bp ?_; refine blk_far ?_ NB303_302.out _; refine bp ?_; refine blk_far ?_ NB303_302.out _; refine bp ?_; refine blk_far ?_ NB303_302.out _; exact Kz BK303.out) hb); have n6_ := Bc HB hb; clear HO295 HO301 BK287 BK288 BK302 BK303 HB; revert n0_ n1_ n2_ n3_ n4_ n5_ n6_; intro HO295 HO301 BK287 BK288 BK302 BK303 HB; (try clear hb); (try clear hb2); (try clear hk); (try clear hi)) | (go_at_call 114; (with_reducible refine (impl_Counting_change.calls kj2 gb302 t291 t292 (fun k_ => some k_ = (.slice Ao34 t293.length co34 : Value).ownBlock) (.slice Ao34 t293.length co34) t293 a1 (-1) true t306 w _ ?side1 ?side2 ?side3 A22.out).mono ?_); (case side1 => repeat (first | (with_reducible first | exact HB.out | apply below_alloc | apply pw_below_drewN | apply below_drew1 | refine below_set ?_ GE287.out | refine below_set ?_ GE288.out | refine below_set ?_ GE302.out | refine below_set ?_ GE303.out) | exact HB.out)); (case side2 => exact Kz BK302.out); (case side3 => exact Kd.R_tight rfl HO295.out); rintro e w40 ⟨rfl, hy0, hb, hkp⟩; have n0_ := am (blk_kept (Kz BK287.out) hkp (fun hs_ => (fun e_ => (Kd.R_ne HO295.out BK287.out (by decide)) e_) hs_)); have n1_ := am (blk_kept (Kz BK288.out) hkp (fun hs_ => (fun e_ => (Kd.R_ne HO295.out BK288.out (by decide)) e_) hs_)); have n2_ := am (Kd.R_reok rfl hy0 (fun k_ e_ => HO295.out.1 k_ e_)); have n3_ := am (Kd.R_mono (ok' := fun k_ => some k_ ≠ (.slice Ao34 t293.length co34 : Value).ownBlock) (Kd.R_keptB (HO301.out) hkp (fun k_ hk_ hs_ => (hk_.2) hs_)) (fun k_ hk_ => hk_.1.2)); have n4_ := am (blk_kept (Kz BK302.out) hkp (fun hs_ => (fun e_ => (Kd.R_ne HO295.out BK302.out (by decide)) e_) hs_)); have n5_ := am (blk_kept (Kz BK303.out) hkp (fun hs_ => (fun e_ => (Kd.R_ne HO295.out BK303.out (by decide)) e_) hs_)); have n6_ := am (hb); clear BK287 BK288 HO295 HO301 BK302 BK303 HB; revert n0_ n1_ n2_ n3_ n4_ n5_ n6_; intro BK287 BK288 HO295 HO301 BK302 BK303 HB; (try clear hb); (try clear hkp); (try clear hy0); obtain ⟨hcz41_0, hcz41_1, hcz41_2, hfz41_0, hfz41_1, hfz41_2⟩ := cf3 (w := w40) BK302; obtain ⟨hcz42_0, hcz42_1, hcz42_2, hfz42_0, hfz42_1, hfz42_2⟩ := cf3 (w := w40) BK288))
            refine bodyPost_ret (results_ct rfl _ _ gb288 49 #[.int .i64 t291, .int .i64 t292, .slice Ao34 t293.length co34] (0, 0) _ rfl (by refine bp ?_; refine blk_put (cs := #[.int .i64 t291, .int .i64 t292, .slice none 0 0]) ?_ 2 _ rfl; refine bp ?_; refine blk_put (cs := #[.int .i64 t291, .int .i64 0, .slice none 0 0]) ?_ 1 _ rfl; refine bp ?_; refine blk_put (cs := #[.int .i64 0, .int .i64 0, .slice none 0 0]) ?_ 0 _ rfl; exact Kz BK288.out) Try.underlying49 rfl (by kernel_rfl)) rfl ?_; exact ⟨_, eZ, Rz (Kd.R_mono (Kd.R_far (p := ⟨gb288, 2, none⟩) (Kd.R_far (p := ⟨gb288, 1, none⟩) (Kd.R_far (p := ⟨gb288, 0, none⟩) (Kd.R_types HO295.out BK288.out (by decide)) (fun _ hk => hk.2) (.int .i64 t291)) (fun _ hk => hk.2) (.int .i64 t292)) (fun _ hk => hk.2) (.slice Ao34 t293.length co34)) (fun _ hk => trivial)), Bq⟩
          · replace c23 := Bool.eq_false_iff.mpr c23
            subst c23
            rw [if_neg (show ¬ (false = true) by decide)] at H
            simp only [Option.some.injEq, Prod.mk.injEq] at H
            obtain ⟨rfl, rfl, rfl, rfl⟩ := H; have hnb43 := NB287_288.out; have hnc43 := NB288_287.out; obtain ⟨hcz44_0, hcz44_1, hcz44_2, hfz44_0, hfz44_1, hfz44_2⟩ := cf3 (w := wc) BK287
            go_wp2_with (first | ((with_reducible refine gate_callee (f := 112) rfl ?_); refine gL (some 18) Try.func112 #[.agg #[.int .i64 a0_0, .int .i64 a0_1, .slice A0_2 l0_2.length c0_2]] ?_; (with_reducible refine (impl_cloneCounting.calls a0_0 a0_1 _ _ l0_2 t291 t292 t293 _ ?side1 ?side2 A18.out).mono ?_); (case side1 => exact Cz (Kd.C_below HR0_2.out HB.out)); (case side2 => exact HC0_2.out); rintro e w45 ⟨v294, rfl, ho0, hb⟩; refine ⟨_, rfl, ?_⟩; have n0_ := Rm ho0 HB; have n1_ := Kb BK287 hb; have n2_ := Kb BK288 hb; have n3_ := Bc HB hb; clear BK287 BK288 HB; revert n0_ n1_ n2_ n3_; intro HO295 BK287 BK288 HB; (try clear hb); (try clear hb2); (try clear hk); (try clear hi); (try clear ho0)) | ((with_reducible refine gate_callee (f := 113) rfl ?_); refine gL (some 19) Try.func113 #[.pointer (some ⟨gb287, 0, none⟩)] ?_; (with_reducible refine (impl_Counting_bloom.calls kj2 gb287 a0_0 a0_1 A0_2 c0_2 l0_2 t296 t297 t298 t299 _ ?side1 ?side2 ?side3 A19.out).mono ?_); (case side1 => exact Kz BK287.out); (case side2 => exact Cz (Kd.C_below HR0_2.out HB.out)); (case side3 => exact HC0_2.out); rintro e w46 ⟨v300, rfl, ho0, hb⟩; refine ⟨_, rfl, ?_⟩; have n0_ := Re HO295 (Kd.R_base ho0) hb; have n1_ := Rm (Kd.R_new' ho0 (Kd.R_lt (Rz HO295.out))) HB; have n2_ := Kb BK287 hb; have n3_ := Kb BK288 hb; have n4_ := Bc HB hb; clear HO295 BK287 BK288 HB; revert n0_ n1_ n2_ n3_ n4_; intro HO295 HO301 BK287 BK288 HB; (try clear hb); (try clear hb2); (try clear hk); (try clear hi); (try clear ho0)) | ((with_reducible refine gate_dst (N := 6) rfl ?_); refine bE 6 #[.int .i64 0, .int .i64 0, .slice none 0 0] 49 ?_; intro gb302 hg w47 hbox hb; have n0_ := Rb HO295 hb; have n1_ := Rb HO301 hb; have n2_ := Kb BK287 hb; have n3_ := Kb BK288 hb; have n4_ := Bc HB hb; have n5_ := am (hbox); have n6_ := Gm HB hg; have n7_ := Gm HB hg; have n8_ := Nl BK287 hg; have n9_ := Ng BK287 hg; have n10_ := Nl BK288 hg; have n11_ := Ng BK288 hg; clear HO295 HO301 BK287 BK288 HB; revert n0_ n1_ n2_ n3_ n4_ n5_ n6_ n7_ n8_ n9_ n10_ n11_; intro HO295 HO301 BK287 BK288 HB BK302 GW302 GE302 NB287_302 NB302_287 NB288_302 NB302_288; clear hb hbox hg) | ((with_reducible refine gate_dst (N := 7) rfl ?_); refine bE 7 #[.int .i64 0, .int .i64 0, .int .i64 0, .slice none 0 0] 28 ?_; intro gb303 hg w48 hbox hb; have n0_ := Rb HO295 hb; have n1_ := Rb HO301 hb; have n2_ := Kb BK287 hb; have n3_ := Kb BK288 hb; have n4_ := Kb BK302 hb; have n5_ := Bc HB hb; have n6_ := am (hbox); have n7_ := Gm HB hg; have n8_ := Gm HB hg; have n9_ := Nl BK287 hg; have n10_ := Ng BK287 hg; have n11_ := Nl BK288 hg; have n12_ := Ng BK288 hg; have n13_ := Nl BK302 hg; have n14_ := Ng BK302 hg; clear HO295 HO301 BK287 BK288 BK302 HB; revert n0_ n1_ n2_ n3_ n4_ n5_ n6_ n7_ n8_ n9_ n10_ n11_ n12_ n13_ n14_; intro HO295 HO301 BK287 BK288 BK302 HB BK303 GW303 GE303 NB287_303 NB303_287 NB288_303 NB303_288 NB302_303 NB303_302; clear hb hbox hg; have hnb49 := NB302_287.out; have hnc49 := NB287_302.out; have hnb50 := NB302_288.out; have hnc50 := NB288_302.out; have hnb51 := NB302_303.out; have hnc51 := NB303_302.out; obtain ⟨hcz52_0, hcz52_1, hcz52_2, hfz52_0, hfz52_1, hfz52_2⟩ := cf3 (w := w48) BK302; obtain ⟨Ao53, co53, eo53⟩ := Kd.R_slice HO295.out; subst eo53; have hnb54 := NB303_287.out; have hnc54 := NB287_303.out; have hnb55 := NB303_288.out; have hnc55 := NB288_303.out; obtain ⟨hcz56_0, hcz56_1, hcz56_2, hcz56_3, hfz56_0, hfz56_1, hfz56_2, hfz56_3⟩ := cf4 (w := w48) BK303; obtain ⟨Ao57, co57, eo57⟩ := Kd.R_slice HO301.out; subst eo57) | ((with_reducible refine gate_callee (f := 105) rfl ?_); refine gL (some 21) Try.func105 #[.pointer (some ⟨gb303, 0, none⟩), .string a1] ?_; (with_reducible refine (impl_Bloom_says.calls kj2 gb303 t296 t297 t298 Ao57 co57 t299 a1 true _ ?side1 ?side2 ?side3 A20.out).mono ?_); (case side1 => refine bp ?_; refine blk_put (cs := #[.int .i64 t296, .int .i64 t297, .int .i64 t298, .slice none 0 0]) ?_ 3 _ rfl; refine bp ?_; refine blk_put (cs := #[.int .i64 t296, .int .i64 t297, .int .i64 0, .slice none 0 0]) ?_ 2 _ rfl; refine bp ?_; refine blk_put (cs := #[.int .i64 t296, .int .i64 0, .int .i64 0, .slice none 0 0]) ?_ 1 _ rfl; refine bp ?_; refine blk_put (cs := #[.int .i64 0, .int .i64 0, .int .i64 0, .slice none 0 0]) ?_ 0 _ rfl; refine bp ?_; refine blk_far ?_ NB303_302.out _; refine bp ?_; refine blk_far ?_ NB303_302.out _; refine bp ?_; refine blk_far ?_ NB303_302.out _; exact Kz BK303.out); (case side2 => refine (Kd.R_reads' (e := 3) (base := w.heap.size) (ok := fun k_ => (True ∧ some k_ ≠ (.slice Ao53 t293.length co53 : Value).ownBlock)) (n := t299.length) (c := co57) ?_).2.2; exact (Rz (Kd.R_mono (Kd.R_mono (Kd.R_far (p := ⟨gb303, 3, none⟩) (Kd.R_far (p := ⟨gb303, 2, none⟩) (Kd.R_far (p := ⟨gb303, 1, none⟩) (Kd.R_far (p := ⟨gb303, 0, none⟩) (Kd.R_far (p := ⟨gb302, 2, none⟩) (Kd.R_far (p := ⟨gb302, 1, none⟩) (Kd.R_far (p := ⟨gb302, 0, none⟩) (Kd.R_types (Kd.R_types HO301.out BK302.out (by decide)) BK303.out (by decide)) (fun _ hk => hk.1.2) (.int .i64 t291)) (fun _ hk => hk.1.2) (.int .i64 t292)) (fun _ hk => hk.1.2) (.slice Ao53 t293.length co53)) (fun _ hk => hk.2) (.int .i64 t296)) (fun _ hk => hk.2) (.int .i64 t297)) (fun _ hk => hk.2) (.int .i64 t298)) (fun _ hk => hk.2) (.slice Ao57 t299.length co57)) (fun _ h_ => h_.1)) (fun _ h_ => h_.1)))); (case side3 => exact (Kd.R_reads' HO301.out).2.1); rintro e w58 ⟨rfl, hb⟩; refine ⟨_, rfl, ?_⟩; have n0_ := am (Kd.R_below (Rz (Kd.R_mono (Kd.R_mono (Kd.R_far (p := ⟨gb303, 3, none⟩) (Kd.R_far (p := ⟨gb303, 2, none⟩) (Kd.R_far (p := ⟨gb303, 1, none⟩) (Kd.R_far (p := ⟨gb303, 0, none⟩) (Kd.R_far (p := ⟨gb302, 2, none⟩) (Kd.R_far (p := ⟨gb302, 1, none⟩) (Kd.R_far (p := ⟨gb302, 0, none⟩) (Kd.R_types (Kd.R_types HO295.out BK302.out (by decide)) BK303.out (by decide)) (fun _ hk => hk.1.2) (.int .i64 t291)) (fun _ hk => hk.1.2) (.int .i64 t292)) (fun _ hk => hk.1.2) (.slice Ao53 t293.length co53)) (fun _ hk => hk.2) (.int .i64 t296)) (fun _ hk => hk.2) (.int .i64 t297)) (fun _ hk => hk.2) (.int .i64 t298)) (fun _ hk => hk.2) (.slice Ao57 t299.length co57)) (fun _ h_ => h_.1)) (fun _ h_ => h_.1))) hb); have n1_ := am (Kd.R_below (Rz (Kd.R_mono (Kd.R_mono (Kd.R_far (p := ⟨gb303, 3, none⟩) (Kd.R_far (p := ⟨gb303, 2, none⟩) (Kd.R_far (p := ⟨gb303, 1, none⟩) (Kd.R_far (p := ⟨gb303, 0, none⟩) (Kd.R_far (p := ⟨gb302, 2, none⟩) (Kd.R_far (p := ⟨gb302, 1, none⟩) (Kd.R_far (p := ⟨gb302, 0, none⟩) (Kd.R_types (Kd.R_types HO301.out BK302.out (by decide)) BK303.out (by decide)) (fun _ hk => hk.1.2) (.int .i64 t291)) (fun _ hk => hk.1.2) (.int .i64 t292)) (fun _ hk => hk.1.2) (.slice Ao53 t293.length co53)) (fun _ hk => hk.2) (.int .i64 t296)) (fun _ hk => hk.2) (.int .i64 t297)) (fun _ hk => hk.2) (.int .i64 t298)) (fun _ hk => hk.2) (.slice Ao57 t299.length co57)) (fun _ h_ => h_.1)) (fun _ h_ => h_.1))) hb); have n2_ := am (blk_below (g := gb287) (o := .cells #[.int .i64 a0_0, .int .i64 a0_1, .slice A0_2 l0_2.length c0_2] 49 (0, 0)) (by refine bp ?_; refine blk_far ?_ NB287_303.out _; refine bp ?_; refine blk_far ?_ NB287_303.out _; refine bp ?_; refine blk_far ?_ NB287_303.out _; refine bp ?_; refine blk_far ?_ NB287_303.out _; refine bp ?_; refine blk_far ?_ NB287_302.out _; refine bp ?_; refine blk_far ?_ NB287_302.out _; refine bp ?_; refine blk_far ?_ NB287_302.out _; exact Kz BK287.out) hb); have n3_ := am (blk_below (g := gb288) (o := .cells #[.int .i64 0, .int .i64 0, .slice none 0 0] 49 (0, 0)) (by refine bp ?_; refine blk_far ?_ NB288_303.out _; refine bp ?_; refine blk_far ?_ NB288_303.out _; refine bp ?_; refine blk_far ?_ NB288_303.out _; refine bp ?_; refine blk_far ?_ NB288_303.out _; refine bp ?_; refine blk_far ?_ NB288_302.out _; refine bp ?_; refine blk_far ?_ NB288_302.out _; refine bp ?_; refine blk_far ?_ NB288_302.out _; exact Kz BK288.out) hb); have n4_ := am (blk_below (g := gb302) (o := .cells #[.int .i64 t291, .int .i64 t292, .slice Ao53 t293.length co53] 49 (0, 0)) (by refine bp ?_; refine blk_far ?_ NB302_303.out _; refine bp ?_; refine blk_far ?_ NB302_303.out _; refine bp ?_; refine blk_far ?_ NB302_303.out _; refine bp ?_; refine blk_far ?_ NB302_303.out _; refine bp ?_; refine blk_put (cs := #[.int .i64 t291, .int .i64 t292, .slice none 0 0]) ?_ 2 _ rfl; refine bp ?_; refine blk_put (cs := #[.int .i64 t291, .int .i64 0, .slice none 0 0]) ?_ 1 _ rfl; refine bp ?_; refine blk_put (cs := #[.int .i64 0, .int .i64 0, .slice none 0 0]) ?_ 0 _ rfl; exact Kz BK302.out) hb); have n5_ := am (blk_below (g := gb303) (o := .cells #[.int .i64 t296, .int .i64 t297, .int .i64 t298, .slice Ao57 t299.length co57] 28 (0, 0)) (by refine bp ?_; refine blk_put (cs := #[.int .i64 t296, .int .i64 t297, .int .i64 t298, .slice none 0 0]) ?_ 3 _ rfl; refine bp ?_; refine blk_put (cs := #[.int .i64 t296, .int .i64 t297, .int .i64 0, .slice none 0 0]) ?_ 2 _ rfl; refine bp ?_; refine blk_put (cs := #[.int .i64 t296, .int .i64 0, .int .i64 0, .slice none 0 0]) ?_ 1 _ rfl; refine bp ?_; refine blk_put (cs := #[.int .i64 0, .int .i64 0, .int .i64 0, .slice none 0 0]) ?_ 0 _ rfl; refine bp ?_; refine blk_far ?_ NB303_302.out _; refine bp ?_; refine blk_far ?_ NB303_302.out _; refine bp ?_; refine blk_far ?_ NB303_302.out _; exact Kz BK303.out) hb); have n6_ := Bc HB hb; clear HO295 HO301 BK287 BK288 BK302 BK303 HB; revert n0_ n1_ n2_ n3_ n4_ n5_ n6_; intro HO295 HO301 BK287 BK288 BK302 BK303 HB; (try clear hb); (try clear hb2); (try clear hk); (try clear hi)) | (go_at_call 114; (with_reducible refine (impl_Counting_change.calls kj2 gb302 t291 t292 (fun k_ => some k_ = (.slice Ao53 t293.length co53 : Value).ownBlock) (.slice Ao53 t293.length co53) t293 a1 (-1) false t306 w _ ?side1 ?side2 ?side3 A22.out).mono ?_); (case side1 => repeat (first | (with_reducible first | exact HB.out | apply below_alloc | apply pw_below_drewN | apply below_drew1 | refine below_set ?_ GE287.out | refine below_set ?_ GE288.out | refine below_set ?_ GE302.out | refine below_set ?_ GE303.out) | exact HB.out)); (case side2 => exact Kz BK302.out); (case side3 => exact Kd.R_tight rfl HO295.out); rintro e w59 ⟨rfl, hy0, hb, hkp⟩; have n0_ := am (blk_kept (Kz BK287.out) hkp (fun hs_ => (fun e_ => (Kd.R_ne HO295.out BK287.out (by decide)) e_) hs_)); have n1_ := am (blk_kept (Kz BK288.out) hkp (fun hs_ => (fun e_ => (Kd.R_ne HO295.out BK288.out (by decide)) e_) hs_)); have n2_ := am (Kd.R_reok rfl hy0 (fun k_ e_ => HO295.out.1 k_ e_)); have n3_ := am (Kd.R_mono (ok' := fun k_ => some k_ ≠ (.slice Ao53 t293.length co53 : Value).ownBlock) (Kd.R_keptB (HO301.out) hkp (fun k_ hk_ hs_ => (hk_.2) hs_)) (fun k_ hk_ => hk_.1.2)); have n4_ := am (blk_kept (Kz BK302.out) hkp (fun hs_ => (fun e_ => (Kd.R_ne HO295.out BK302.out (by decide)) e_) hs_)); have n5_ := am (blk_kept (Kz BK303.out) hkp (fun hs_ => (fun e_ => (Kd.R_ne HO295.out BK303.out (by decide)) e_) hs_)); have n6_ := am (hb); clear BK287 BK288 HO295 HO301 BK302 BK303 HB; revert n0_ n1_ n2_ n3_ n4_ n5_ n6_; intro BK287 BK288 HO295 HO301 BK302 BK303 HB; (try clear hb); (try clear hkp); (try clear hy0); obtain ⟨hcz60_0, hcz60_1, hcz60_2, hfz60_0, hfz60_1, hfz60_2⟩ := cf3 (w := w59) BK288))
            refine bodyPost_ret (results_ct rfl _ _ gb288 49 #[.int .i64 0, .int .i64 0, .slice none 0 0] (0, 0) _ rfl (by refine bp ?_; refine blk_put (cs := #[.int .i64 0, .int .i64 0, .slice none 0 0]) ?_ 2 _ rfl; refine bp ?_; refine blk_put (cs := #[.int .i64 0, .int .i64 0, .slice none 0 0]) ?_ 1 _ rfl; refine bp ?_; refine blk_put (cs := #[.int .i64 0, .int .i64 0, .slice none 0 0]) ?_ 0 _ rfl; exact Kz BK288.out) Try.underlying49 rfl (by kernel_rfl)) rfl ?_; exact ⟨_, eZ, nZ, Bq⟩
        · replace c21 := Bool.eq_false_iff.mpr c21
          subst c21
          rw [if_neg (show ¬ (false = true) by decide)] at H
          simp only [Option.some.injEq, Prod.mk.injEq] at H
          obtain ⟨rfl, rfl, rfl, rfl⟩ := H; have hnb61 := NB287_288.out; have hnc61 := NB288_287.out; obtain ⟨hcz62_0, hcz62_1, hcz62_2, hfz62_0, hfz62_1, hfz62_2⟩ := cf3 (w := wc) BK287
          go_wp2_with (first | ((with_reducible refine gate_callee (f := 112) rfl ?_); refine gL (some 18) Try.func112 #[.agg #[.int .i64 a0_0, .int .i64 a0_1, .slice A0_2 l0_2.length c0_2]] ?_; (with_reducible refine (impl_cloneCounting.calls a0_0 a0_1 _ _ l0_2 t291 t292 t293 _ ?side1 ?side2 A18.out).mono ?_); (case side1 => exact Cz (Kd.C_below HR0_2.out HB.out)); (case side2 => exact HC0_2.out); rintro e w63 ⟨v294, rfl, ho0, hb⟩; refine ⟨_, rfl, ?_⟩; have n0_ := Rm ho0 HB; have n1_ := Kb BK287 hb; have n2_ := Kb BK288 hb; have n3_ := Bc HB hb; clear BK287 BK288 HB; revert n0_ n1_ n2_ n3_; intro HO295 BK287 BK288 HB; (try clear hb); (try clear hb2); (try clear hk); (try clear hi); (try clear ho0)) | ((with_reducible refine gate_callee (f := 113) rfl ?_); refine gL (some 19) Try.func113 #[.pointer (some ⟨gb287, 0, none⟩)] ?_; (with_reducible refine (impl_Counting_bloom.calls kj2 gb287 a0_0 a0_1 A0_2 c0_2 l0_2 t296 t297 t298 t299 _ ?side1 ?side2 ?side3 A19.out).mono ?_); (case side1 => exact Kz BK287.out); (case side2 => exact Cz (Kd.C_below HR0_2.out HB.out)); (case side3 => exact HC0_2.out); rintro e w64 ⟨v300, rfl, ho0, hb⟩; refine ⟨_, rfl, ?_⟩; have n0_ := Re HO295 (Kd.R_base ho0) hb; have n1_ := Rm (Kd.R_new' ho0 (Kd.R_lt (Rz HO295.out))) HB; have n2_ := Kb BK287 hb; have n3_ := Kb BK288 hb; have n4_ := Bc HB hb; clear HO295 BK287 BK288 HB; revert n0_ n1_ n2_ n3_ n4_; intro HO295 HO301 BK287 BK288 HB; (try clear hb); (try clear hb2); (try clear hk); (try clear hi); (try clear ho0)) | ((with_reducible refine gate_dst (N := 6) rfl ?_); refine bE 6 #[.int .i64 0, .int .i64 0, .slice none 0 0] 49 ?_; intro gb302 hg w65 hbox hb; have n0_ := Rb HO295 hb; have n1_ := Rb HO301 hb; have n2_ := Kb BK287 hb; have n3_ := Kb BK288 hb; have n4_ := Bc HB hb; have n5_ := am (hbox); have n6_ := Gm HB hg; have n7_ := Gm HB hg; have n8_ := Nl BK287 hg; have n9_ := Ng BK287 hg; have n10_ := Nl BK288 hg; have n11_ := Ng BK288 hg; clear HO295 HO301 BK287 BK288 HB; revert n0_ n1_ n2_ n3_ n4_ n5_ n6_ n7_ n8_ n9_ n10_ n11_; intro HO295 HO301 BK287 BK288 HB BK302 GW302 GE302 NB287_302 NB302_287 NB288_302 NB302_288; clear hb hbox hg) | ((with_reducible refine gate_dst (N := 7) rfl ?_); refine bE 7 #[.int .i64 0, .int .i64 0, .int .i64 0, .slice none 0 0] 28 ?_; intro gb303 hg w66 hbox hb; have n0_ := Rb HO295 hb; have n1_ := Rb HO301 hb; have n2_ := Kb BK287 hb; have n3_ := Kb BK288 hb; have n4_ := Kb BK302 hb; have n5_ := Bc HB hb; have n6_ := am (hbox); have n7_ := Gm HB hg; have n8_ := Gm HB hg; have n9_ := Nl BK287 hg; have n10_ := Ng BK287 hg; have n11_ := Nl BK288 hg; have n12_ := Ng BK288 hg; have n13_ := Nl BK302 hg; have n14_ := Ng BK302 hg; clear HO295 HO301 BK287 BK288 BK302 HB; revert n0_ n1_ n2_ n3_ n4_ n5_ n6_ n7_ n8_ n9_ n10_ n11_ n12_ n13_ n14_; intro HO295 HO301 BK287 BK288 BK302 HB BK303 GW303 GE303 NB287_303 NB303_287 NB288_303 NB303_288 NB302_303 NB303_302; clear hb hbox hg; have hnb67 := NB302_287.out; have hnc67 := NB287_302.out; have hnb68 := NB302_288.out; have hnc68 := NB288_302.out; have hnb69 := NB302_303.out; have hnc69 := NB303_302.out; obtain ⟨hcz70_0, hcz70_1, hcz70_2, hfz70_0, hfz70_1, hfz70_2⟩ := cf3 (w := w66) BK302; obtain ⟨Ao71, co71, eo71⟩ := Kd.R_slice HO295.out; subst eo71; have hnb72 := NB303_287.out; have hnc72 := NB287_303.out; have hnb73 := NB303_288.out; have hnc73 := NB288_303.out; obtain ⟨hcz74_0, hcz74_1, hcz74_2, hcz74_3, hfz74_0, hfz74_1, hfz74_2, hfz74_3⟩ := cf4 (w := w66) BK303; obtain ⟨Ao75, co75, eo75⟩ := Kd.R_slice HO301.out; subst eo75) | ((with_reducible refine gate_callee (f := 105) rfl ?_); refine gL (some 21) Try.func105 #[.pointer (some ⟨gb303, 0, none⟩), .string a1] ?_; (with_reducible refine (impl_Bloom_says.calls kj2 gb303 t296 t297 t298 Ao75 co75 t299 a1 false _ ?side1 ?side2 ?side3 A20.out).mono ?_); (case side1 => refine bp ?_; refine blk_put (cs := #[.int .i64 t296, .int .i64 t297, .int .i64 t298, .slice none 0 0]) ?_ 3 _ rfl; refine bp ?_; refine blk_put (cs := #[.int .i64 t296, .int .i64 t297, .int .i64 0, .slice none 0 0]) ?_ 2 _ rfl; refine bp ?_; refine blk_put (cs := #[.int .i64 t296, .int .i64 0, .int .i64 0, .slice none 0 0]) ?_ 1 _ rfl; refine bp ?_; refine blk_put (cs := #[.int .i64 0, .int .i64 0, .int .i64 0, .slice none 0 0]) ?_ 0 _ rfl; refine bp ?_; refine blk_far ?_ NB303_302.out _; refine bp ?_; refine blk_far ?_ NB303_302.out _; refine bp ?_; refine blk_far ?_ NB303_302.out _; exact Kz BK303.out); (case side2 => refine (Kd.R_reads' (e := 3) (base := w.heap.size) (ok := fun k_ => (True ∧ some k_ ≠ (.slice Ao71 t293.length co71 : Value).ownBlock)) (n := t299.length) (c := co75) ?_).2.2; exact (Rz (Kd.R_mono (Kd.R_mono (Kd.R_far (p := ⟨gb303, 3, none⟩) (Kd.R_far (p := ⟨gb303, 2, none⟩) (Kd.R_far (p := ⟨gb303, 1, none⟩) (Kd.R_far (p := ⟨gb303, 0, none⟩) (Kd.R_far (p := ⟨gb302, 2, none⟩) (Kd.R_far (p := ⟨gb302, 1, none⟩) (Kd.R_far (p := ⟨gb302, 0, none⟩) (Kd.R_types (Kd.R_types HO301.out BK302.out (by decide)) BK303.out (by decide)) (fun _ hk => hk.1.2) (.int .i64 t291)) (fun _ hk => hk.1.2) (.int .i64 t292)) (fun _ hk => hk.1.2) (.slice Ao71 t293.length co71)) (fun _ hk => hk.2) (.int .i64 t296)) (fun _ hk => hk.2) (.int .i64 t297)) (fun _ hk => hk.2) (.int .i64 t298)) (fun _ hk => hk.2) (.slice Ao75 t299.length co75)) (fun _ h_ => h_.1)) (fun _ h_ => h_.1)))); (case side3 => exact (Kd.R_reads' HO301.out).2.1); rintro e w76 ⟨rfl, hb⟩; refine ⟨_, rfl, ?_⟩; have n0_ := am (Kd.R_below (Rz (Kd.R_mono (Kd.R_mono (Kd.R_far (p := ⟨gb303, 3, none⟩) (Kd.R_far (p := ⟨gb303, 2, none⟩) (Kd.R_far (p := ⟨gb303, 1, none⟩) (Kd.R_far (p := ⟨gb303, 0, none⟩) (Kd.R_far (p := ⟨gb302, 2, none⟩) (Kd.R_far (p := ⟨gb302, 1, none⟩) (Kd.R_far (p := ⟨gb302, 0, none⟩) (Kd.R_types (Kd.R_types HO295.out BK302.out (by decide)) BK303.out (by decide)) (fun _ hk => hk.1.2) (.int .i64 t291)) (fun _ hk => hk.1.2) (.int .i64 t292)) (fun _ hk => hk.1.2) (.slice Ao71 t293.length co71)) (fun _ hk => hk.2) (.int .i64 t296)) (fun _ hk => hk.2) (.int .i64 t297)) (fun _ hk => hk.2) (.int .i64 t298)) (fun _ hk => hk.2) (.slice Ao75 t299.length co75)) (fun _ h_ => h_.1)) (fun _ h_ => h_.1))) hb); have n1_ := am (Kd.R_below (Rz (Kd.R_mono (Kd.R_mono (Kd.R_far (p := ⟨gb303, 3, none⟩) (Kd.R_far (p := ⟨gb303, 2, none⟩) (Kd.R_far (p := ⟨gb303, 1, none⟩) (Kd.R_far (p := ⟨gb303, 0, none⟩) (Kd.R_far (p := ⟨gb302, 2, none⟩) (Kd.R_far (p := ⟨gb302, 1, none⟩) (Kd.R_far (p := ⟨gb302, 0, none⟩) (Kd.R_types (Kd.R_types HO301.out BK302.out (by decide)) BK303.out (by decide)) (fun _ hk => hk.1.2) (.int .i64 t291)) (fun _ hk => hk.1.2) (.int .i64 t292)) (fun _ hk => hk.1.2) (.slice Ao71 t293.length co71)) (fun _ hk => hk.2) (.int .i64 t296)) (fun _ hk => hk.2) (.int .i64 t297)) (fun _ hk => hk.2) (.int .i64 t298)) (fun _ hk => hk.2) (.slice Ao75 t299.length co75)) (fun _ h_ => h_.1)) (fun _ h_ => h_.1))) hb); have n2_ := am (blk_below (g := gb287) (o := .cells #[.int .i64 a0_0, .int .i64 a0_1, .slice A0_2 l0_2.length c0_2] 49 (0, 0)) (by refine bp ?_; refine blk_far ?_ NB287_303.out _; refine bp ?_; refine blk_far ?_ NB287_303.out _; refine bp ?_; refine blk_far ?_ NB287_303.out _; refine bp ?_; refine blk_far ?_ NB287_303.out _; refine bp ?_; refine blk_far ?_ NB287_302.out _; refine bp ?_; refine blk_far ?_ NB287_302.out _; refine bp ?_; refine blk_far ?_ NB287_302.out _; exact Kz BK287.out) hb); have n3_ := am (blk_below (g := gb288) (o := .cells #[.int .i64 0, .int .i64 0, .slice none 0 0] 49 (0, 0)) (by refine bp ?_; refine blk_far ?_ NB288_303.out _; refine bp ?_; refine blk_far ?_ NB288_303.out _; refine bp ?_; refine blk_far ?_ NB288_303.out _; refine bp ?_; refine blk_far ?_ NB288_303.out _; refine bp ?_; refine blk_far ?_ NB288_302.out _; refine bp ?_; refine blk_far ?_ NB288_302.out _; refine bp ?_; refine blk_far ?_ NB288_302.out _; exact Kz BK288.out) hb); have n4_ := am (blk_below (g := gb302) (o := .cells #[.int .i64 t291, .int .i64 t292, .slice Ao71 t293.length co71] 49 (0, 0)) (by refine bp ?_; refine blk_far ?_ NB302_303.out _; refine bp ?_; refine blk_far ?_ NB302_303.out _; refine bp ?_; refine blk_far ?_ NB302_303.out _; refine bp ?_; refine blk_far ?_ NB302_303.out _; refine bp ?_; refine blk_put (cs := #[.int .i64 t291, .int .i64 t292, .slice none 0 0]) ?_ 2 _ rfl; refine bp ?_; refine blk_put (cs := #[.int .i64 t291, .int .i64 0, .slice none 0 0]) ?_ 1 _ rfl; refine bp ?_; refine blk_put (cs := #[.int .i64 0, .int .i64 0, .slice none 0 0]) ?_ 0 _ rfl; exact Kz BK302.out) hb); have n5_ := am (blk_below (g := gb303) (o := .cells #[.int .i64 t296, .int .i64 t297, .int .i64 t298, .slice Ao75 t299.length co75] 28 (0, 0)) (by refine bp ?_; refine blk_put (cs := #[.int .i64 t296, .int .i64 t297, .int .i64 t298, .slice none 0 0]) ?_ 3 _ rfl; refine bp ?_; refine blk_put (cs := #[.int .i64 t296, .int .i64 t297, .int .i64 0, .slice none 0 0]) ?_ 2 _ rfl; refine bp ?_; refine blk_put (cs := #[.int .i64 t296, .int .i64 0, .int .i64 0, .slice none 0 0]) ?_ 1 _ rfl; refine bp ?_; refine blk_put (cs := #[.int .i64 0, .int .i64 0, .int .i64 0, .slice none 0 0]) ?_ 0 _ rfl; refine bp ?_; refine blk_far ?_ NB303_302.out _; refine bp ?_; refine blk_far ?_ NB303_302.out _; refine bp ?_; refine blk_far ?_ NB303_302.out _; exact Kz BK303.out) hb); have n6_ := Bc HB hb; clear HO295 HO301 BK287 BK288 BK302 BK303 HB; revert n0_ n1_ n2_ n3_ n4_ n5_ n6_; intro HO295 HO301 BK287 BK288 BK302 BK303 HB; (try clear hb); (try clear hb2); (try clear hk); (try clear hi); obtain ⟨hcz77_0, hcz77_1, hcz77_2, hfz77_0, hfz77_1, hfz77_2⟩ := cf3 (w := w76) BK288))
          refine bodyPost_ret (results_ct rfl _ _ gb288 49 #[.int .i64 0, .int .i64 0, .slice none 0 0] (0, 0) _ rfl (by refine bp ?_; refine blk_put (cs := #[.int .i64 0, .int .i64 0, .slice none 0 0]) ?_ 2 _ rfl; refine bp ?_; refine blk_put (cs := #[.int .i64 0, .int .i64 0, .slice none 0 0]) ?_ 1 _ rfl; refine bp ?_; refine blk_put (cs := #[.int .i64 0, .int .i64 0, .slice none 0 0]) ?_ 0 _ rfl; exact Kz BK288.out) Try.underlying49 rfl (by kernel_rfl)) rfl ?_; exact ⟨_, eZ, nZ, Bq⟩

end Go.Proofs.Ytpkpjikkfikejaa.PD
