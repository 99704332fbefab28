import Derived.Test.YtmehagedoaopeaaCR1
import Derived.Test.YtmehagedoaopeaaCR2
import Derived.Test.YtmehagedoaopeaaCR3
import Derived.Test.YtmehagedoaopeaaCR4
import Derived.Test.YtmehagedoaopeaaCR0
import Derived.Lib.Bytes
namespace Go.Proofs.Ytmehagedoaopeaa.PR
open Go.RowKit Go.Proofs.YtmehagedoaopeaaW.PrintWords Go.Proofs.YtmehagedoaopeaaW.PrintLast Go.Proofs.YtmehagedoaopeaaW.PrintMore Go.Proofs.YtmehagedoaopeaaSq
attribute [local go_sem] max2_int min2_int max_two min_two max_three min_three max_four min_four   -- for this text's walks alone
attribute [local go_sem] Go.Proofs.YtmehagedoaopeaaGp.str_geq Go.Proofs.YtmehagedoaopeaaGp.str_gtr Go.Proofs.YtmehagedoaopeaaGp.str_leq
set_option linter.unusedVariables false
set_option linter.unusedSimpArgs false

set_option maxHeartbeats 8000000
set_option maxRecDepth 100000
mutual
def spec_l1Cur_texts.l0 : Nat → List ByteArray → List ByteArray → Int → List Int → Int → Int → Option (List ByteArray × Int × Int)
 | 0, _, _, _, _, _, _ => none
 | k + 1, x1, x5, x6, x1000, x1001, x1002 => if x6 > 0 then (if (x1.length : Int) > 0 then ((spec_l1Cur_one.f x1000 x1001 x1002 4).bind fun bt703 => (spec_l1Cur_texts.j1 k x1 x5 x6 bt703.1 x1000 bt703.2.1 bt703.2.2)) else (spec_l1Cur_texts.j1 k x1 x5 x6 false x1000 x1001 x1002)) else ((spec_l1Cur_one.f x1000 x1001 x1002 12).bind fun bt718 => (if bt718.1 = true then ((spec_l1Cur_text.f k x1000 bt718.2.1 bt718.2.2).bind fun bt721 => (if x5.length < 8796093022208 then (spec_l1Cur_texts.j2 k (x5 ++ [bt721.1]) x1000 bt721.2.1 bt721.2.2) else (none))) else (spec_l1Cur_texts.j2 k x5 x1000 bt718.2.1 bt718.2.2)))
def spec_l1Cur_texts.j1 : Nat → List ByteArray → List ByteArray → Int → Bool → List Int → Int → Int → Option (List ByteArray × Int × Int)
 | 0, _, _, _, _, _, _, _ => none
 | k + 1, x1, x5, x6, x23, x1000, x1001, x1002 => if x23 = true then ((spec_l1Cur_of.f x1000 x1001 x1002 x1).bind fun bt706 => (if x5.length < 8796093022208 then (spec_l1Cur_texts.l0 k x1 (x5 ++ [bt706.1]) (wrap64 (x6 - 1)) x1000 bt706.2.1 bt706.2.2) else (none))) else ((spec_l1Cur_key.f k x1000 x1001 x1002).bind fun bt712 => (if x5.length < 8796093022208 then (spec_l1Cur_texts.l0 k x1 (x5 ++ [bt712.1]) (wrap64 (x6 - 1)) x1000 bt712.2.1 bt712.2.2) else (none)))
def spec_l1Cur_texts.j2 : Nat → List ByteArray → List Int → Int → Int → Option (List ByteArray × Int × Int)
 | 0, _, _, _, _ => none
 | k + 1, x5, x1000, x1001, x1002 => (spec_l1Cur_one.f x1000 x1001 x1002 20).bind fun bt727 => (if bt727.1 = true then ((spec_l1Cur_pick.f x1000 bt727.2.1 bt727.2.2 2).bind fun bt730 => (spec_l1Cur_texts.l1 k x5 (wrap64 (300 + bt730.1)) x1000 bt730.2.1 bt730.2.2)) else (some (x5, bt727.2.1, bt727.2.2)))
def spec_l1Cur_texts.l1 : Nat → List ByteArray → Int → List Int → Int → Int → Option (List ByteArray × Int × Int)
 | 0, _, _, _, _, _ => none
 | k + 1, x5, x7, x1000, x1001, x1002 => if (x5.length : Int) < x7 then ((spec_l1Cur_key.f k x1000 x1001 x1002).bind fun bt733 => (if x5.length < 8796093022208 then (spec_l1Cur_texts.l1 k (x5 ++ [bt733.1]) x7 x1000 bt733.2.1 bt733.2.2) else (none))) else (some (x5, x1001, x1002))
end
def spec_l1Cur_texts.f (k : Nat) (s0_0 : List Int) (s0_1 : Int) (s0_2 : Int) (l1 : List ByteArray) : Option (List ByteArray × Int × Int) := (spec_l1Cur_among.f s0_0 s0_1 s0_2 (([4, 12, 30] : List Int))).bind fun bt697 => ((spec_l1Cur_pick.f s0_0 bt697.2.1 bt697.2.2 bt697.1).bind fun bt700 => (spec_l1Cur_texts.l0 k l1 ([] : List ByteArray) bt700.1 s0_0 bt700.2.1 bt700.2.2))
theorem spec_l1Cur_texts.calls (k : Nat) (g : Nat) (s0_0 : List Int) (s0_1 : Int) (s0_2 : Int) (A1 : Option Addr) (c1 : Nat) (l1 : List ByteArray) (r1 : List ByteArray) (r2 : Int) (r3 : Int) (w0 w : World) (hI : IsS90 w0 w g s0_0 s0_1 s0_2) (hB : Below w0.heap.size w0 w) (hr1 : Kd.C Kd.string w A1 l1.length l1) (hc1 : l1.length ≤ c1) (hf1 : ∀ ad, A1 = some ad → 0 < l1.length → ad.block ≠ g) (h : spec_l1Cur_texts.f k s0_0 s0_1 s0_2 l1 = some (r1, r2, r3)) :
  Calls Try.prog 122 #[.pointer (some ⟨g, 0, none⟩), .slice A1 l1.length c1] w fun e w' => ∃ v0_ : Value, e = .returned (v0_) ∧ Kd.R Kd.string 9 w' w.heap.size (fun _ => True) v0_ r1 ∧ IsS90 w0 w' g s0_0 r2 r3 ∧ Below w0.heap.size w0 w' ∧ KeepBut w w' g none := by
 have HR1 := am hr1; have HC1 := am hc1; clear hr1 hc1; have HI0 := am hI; have HK := am (KeepBut.refl w g none); have HL := am hB.size; clear hI; have HW0 := am hB.size; have HB := am hB; clear hB; have H : ((spec_l1Cur_among.f s0_0 s0_1 s0_2 (([4, 12, 30] : List Int))).bind fun bt697 => ((spec_l1Cur_pick.f s0_0 bt697.2.1 bt697.2.2 bt697.1).bind fun bt700 => (spec_l1Cur_texts.l0 k l1 ([] : List ByteArray) bt700.1 s0_0 bt700.2.1 bt700.2.2))) = some (r1, r2, r3) := h; clear h; obtain ⟨y694, hy694⟩ : ∃ y_ : List Int, y_ = (([4, 12, 30] : List Int)) := ⟨_, rfl⟩
 replace H : ((spec_l1Cur_among.f s0_0 s0_1 s0_2 y694).bind fun bt697 => ((spec_l1Cur_pick.f s0_0 bt697.2.1 bt697.2.2 bt697.1).bind fun bt700 => (spec_l1Cur_texts.l0 k l1 ([] : List ByteArray) bt700.1 s0_0 bt700.2.1 bt700.2.2))) = some (r1, r2, r3) := by (try rw [hy694]); first | with_reducible exact H | exact (Option.bind_some _ _).symm.trans H | exact H
 have Ny694 := am hy694; clear hy694; obtain ⟨⟨t697, t698, t699⟩, A3, H⟩ := ob H; (try dsimp -simprocs only at H); obtain ⟨⟨t700, t701, t702⟩, A4, H⟩ := ob H; (try dsimp -simprocs only at H); have H' := am H; clear H
 go_enter Try.func122, Try.ntmps122
 go_wp2_with (first | ((with_reducible refine gate_dst (N := 10) rfl ?_); refine Kd.R_lit (Kd.int .i64) _ 3 ?hg (N := 10) ?hd (xs := ([4, 12, 30] : List Int)) (inner := [.int .i64 4, .int .i64 12, .int .i64 30]) (ok := fun _ => True) (okp := fun _ => True) ?hr ?hp (fun _ hk => hk) trivial (Below.refl _ _) (Nat.le_refl _) (by simp) ?_; (case hd => rfl); (case hg => rfl); (case hr => first | (go_simp; done) | (go_simp; rfl)); (case hp => exact (Reps.one (show Kd.M (Kd.int .i64) _ _ _ 4 [.int .i64 4] from rfl) (Reps.one (show Kd.M (Kd.int .i64) _ _ _ 12 [.int .i64 12] from rfl) (Reps.one (show Kd.M (Kd.int .i64) _ _ _ 30 [.int .i64 30] from rfl) (Reps.none _ _))))); intro v695 w5 ho6 hb hg_ hnew_; clear hg_ hnew_; (first | rw [← Ny694.out] at ho6 | (simp only [Int.reduceToNat] at ho6; rw [← Ny694.out] at ho6)); have n0_ := am (Kd.R_lower ho6 (keep_size (w := w) (g := g) (row := none) (Kq))); have n1_ := am (IsS90.below (IsS90.z) hb); have n2_ := am (KeepBut.trans (Kq) (KeepBut.of_below hb g none) (.inl rfl)); have n3_ := am (below_step (by repeat (first | (with_reducible first | exact HB.out | apply below_alloc | apply pw_below_drewN | apply below_drew1 | refine below_set ?_ (IsS90.ge HI0.out)) | exact HB.out)) hb); clear HI0 HK HB; revert n0_ n1_ n2_ n3_; intro HO696 HI0 HK HB; clear hb ho6; obtain ⟨Ao7, co7, eo7⟩ := Kd.R_slice HO696.out; subst eo7) | ((with_reducible refine gate_callee (f := 89) rfl ?_); refine gL (some 11) Try.func89 #[.pointer (some ⟨g, 0, none⟩), .slice Ao7 y694.length co7] ?_; (with_reducible refine (spec_l1Cur_among.calls g s0_0 s0_1 s0_2 _ _ y694 t697 t698 t699 w0 _ ?side1 ?side2 ?side3 ?side4 ?side5 A3.out).mono ?_); (case side1 => exact (IsS90.z)); (case side2 => repeat (first | (with_reducible first | exact HB.out | apply below_alloc | apply pw_below_drewN | apply below_drew1 | refine below_set ?_ (IsS90.ge HI0.out)) | exact HB.out)); (case side3 => exact Cz ((Kd.R_reads' HO696.out).2.2)); (case side4 => exact (Kd.R_reads' HO696.out).2.1); (case side5 => exact far_slice (IsS90.own_ne HI0.out HO696.out (by decide))); rintro e w8 ⟨rfl, hi, hb, hk⟩; refine ⟨_, rfl, ?_⟩; have n0_ := am (Kd.R_mono (Kd.R_keep (IsS90.apart (show IsS90 w0 _ g s0_0 s0_1 s0_2 from IsS90.z) (Rz HO696.out) (by decide)) hk (fun _ h => h.2)) (fun _ h => h.1)); have n1_ := am (KeepBut.trans (Kq) hk (.inl rfl)); have n2_ := am (hb); have n3_ := am (hi); clear HO696 HK HB HI0; revert n0_ n1_ n2_ n3_; intro HO696 HK HB HI0; (try clear hb); (try clear hb2); (try clear hk); (try clear hi)) | ((with_reducible refine gate_callee (f := 72) rfl ?_); refine gL (some 12) Try.func72 #[.pointer (some ⟨g, 0, none⟩), .int .i64 t697] ?_; (with_reducible refine (spec_l1Cur_pick.calls g s0_0 t698 t699 t697 t700 t701 t702 w0 _ ?side1 ?side2 A4.out).mono ?_); (case side1 => exact (IsS90.z)); (case side2 => repeat (first | (with_reducible first | exact HB.out | apply below_alloc | apply pw_below_drewN | apply below_drew1 | refine below_set ?_ (IsS90.ge HI0.out)) | exact HB.out)); rintro e w9 ⟨rfl, hi, hb, hk⟩; refine ⟨_, rfl, ?_⟩; have n0_ := am (Kd.R_mono (Kd.R_keep (IsS90.apart (show IsS90 w0 _ g s0_0 t698 t699 from IsS90.z) (Rz HO696.out) (by decide)) hk (fun _ h => h.2)) (fun _ h => h.1)); have n1_ := am (KeepBut.trans (Kq) hk (.inl rfl)); have n2_ := am (hb); have n3_ := am (hi); clear HO696 HK HB HI0; revert n0_ n1_ n2_ n3_; intro HO696 HK HB HI0; (try clear hb); (try clear hb2); (try clear hk); (try clear hi)))
 (try simp only [aP])
 go_loopg [5, 6] k (fun kq v5 v6 w' => ∃ (x5_1 : List ByteArray) (x6_1 : Int) (x1001_1 : Int) (x1002_1 : Int), v6 = .int .i64 x6_1 ∧ Aside0 (spec_l1Cur_texts.l0 kq l1 x5_1 x6_1 s0_0 x1001_1 x1002_1 = some (r1, r2, r3)) ∧ Aside0 (kq ≤ k) ∧ Aside0 (Kd.R Kd.string 9 w' w.heap.size (fun _ => True) v5 x5_1) ∧ Aside0 (IsS90 w0 w' g s0_0 x1001_1 x1002_1) ∧ Aside0 (KeepBut w w' g none) ∧ Aside0 (Below w0.heap.size w0 w'))
 case atStart => exact ⟨(([] : List ByteArray)), (t700), (t701), (t702), wZ, H', ⟨Nat.le_refl _⟩, ⟨nZ⟩, ⟨IsS90.z⟩, ⟨Kq⟩, ⟨by repeat (first | (with_reducible first | exact HB.out | apply below_alloc | apply pw_below_drewN | apply below_drew1 | refine below_set ?_ (IsS90.ge HI0.out)) | exact HB.out)⟩⟩
 case round =>
  clear H'
  try clear c1
  try clear p2
  try clear c7
  try clear c8
  obtain ⟨x5_1, x6_1, x1001_1, x1002_1, rfl, HA, HK1, HO_5, HI0, HK, HB⟩ := hrel; cases gk with
  | zero => exact absurd HA.out (by simp [spec_l1Cur_texts.l0])
  | succ k1 =>
   have H := HA.out; clear HA
   simp only [spec_l1Cur_texts.l0] at H
   by_cases c10 : x6_1 > 0
   ·rw [if_pos c10] at H
    have c10b0 : decide (0 < x6_1) = true := decide_eq_true c10; clear c10; have HC11 := am H; clear H
    go_upto_region 5 with (fail)
    go_cut [23] (fun v23 wc => ∃ (kq : Nat) (x23_10 : Bool) (x1001_10 : Int) (x1002_10 : Int), v23 = .bool x23_10 ∧ Aside0 (spec_l1Cur_texts.j1 kq l1 x5_1 x6_1 x23_10 s0_0 x1001_10 x1002_10 = some (r1, r2, r3)) ∧ Aside0 (kq ≤ k1) ∧ Aside0 (Kd.R Kd.string 9 wc w.heap.size (fun _ => True) u5 x5_1) ∧ Aside0 (IsS90 w0 wc g s0_0 x1001_10 x1002_10) ∧ Aside0 (KeepBut w wc g none) ∧ Aside0 (Below w0.heap.size w0 wc))
    case first =>
     have H := HC11.out; clear HC11
     by_cases c12 : (l1.length : Int) > 0
     ·rw [if_pos c12] at H
      have c12b0 : decide (0 < (l1.length : Int)) = true := decide_eq_true c12; have c12b1 : decide (0 < l1.length) = true := decide_eq_true (by omega); clear c12
      (first | rw [c12b0] | (simp only [i64_w, i32_w]; rw [c12b0]) | skip)
      obtain ⟨⟨t703, t704, t705⟩, A13, H⟩ := ob H; (try dsimp -simprocs only at H); have H' := am H; clear H
      go_wp2_with (first | (go_at_call 71; (with_reducible refine (spec_l1Cur_one.calls g s0_0 x1001_1 x1002_1 4 t703 t704 t705 w0 _ ?side1 ?side2 A13.out).mono ?_); (case side1 => exact (IsS90.z)); (case side2 => repeat (first | (with_reducible first | exact HB.out | apply below_alloc | apply pw_below_drewN | apply below_drew1 | refine below_set ?_ (IsS90.ge HI0.out)) | exact HB.out)); rintro e w14 ⟨rfl, hi, hb, hk⟩; have n0_ := am (Kd.R_mono (Kd.R_keep (IsS90.apart (show IsS90 w0 _ g s0_0 x1001_1 x1002_1 from IsS90.z) (Rz HO_5.out) (by decide)) hk (fun _ h => h.2)) (fun _ h => h.1)); have n1_ := am (KeepBut.trans (Kq) hk (.inl rfl)); have n2_ := am (hb); have n3_ := am (hi); clear HO_5 HK HB HI0; revert n0_ n1_ n2_ n3_; intro HO_5 HK HB HI0; (try clear hb); (try clear hb2); (try clear hk); (try clear hi)))
      go_meet
      case rel => exact ⟨_, (t703), (t704), (t705), wZ, H', ⟨by have := HK1.out; first | omega | exact Nat.le_refl _⟩, ⟨Rz HO_5.out⟩, ⟨IsS90.z⟩, ⟨Kq⟩, ⟨by repeat (first | (with_reducible first | exact HB.out | apply below_alloc | apply pw_below_drewN | apply below_drew1 | refine below_set ?_ (IsS90.ge HI0.out)) | exact HB.out)⟩⟩
     ·rw [if_neg c12] at H
      have c12b0 : decide (0 < (l1.length : Int)) = false := decide_eq_false c12; have c12b1 : decide (0 < l1.length) = false := decide_eq_false (by omega); clear c12
      (first | rw [c12b0] | (simp only [i64_w, i32_w]; rw [c12b0]) | skip)
      have H' := am H; clear H
      go_wp2
      go_meet
      case rel => exact ⟨_, (false), (x1001_1), (x1002_1), wZ, H', ⟨by have := HK1.out; first | omega | exact Nat.le_refl _⟩, ⟨Rz HO_5.out⟩, ⟨IsS90.z⟩, ⟨Kq⟩, ⟨by repeat (first | (with_reducible first | exact HB.out | apply below_alloc | apply pw_below_drewN | apply below_drew1 | refine below_set ?_ (IsS90.ge HI0.out)) | exact HB.out)⟩⟩
    case rest =>
     clear HC11
     try clear c1
     try clear p2
     try clear c7
     try clear c8
     try clear c10
     try clear c10b0
     try clear c12
     try clear c12b0
     try clear c12b1
     try clear p2
     obtain ⟨kq, x23_10, x1001_10, x1002_10, rfl, HA, HJ10, HO_5, HI0, HK, HB⟩ := hcut; cases kq with
     | zero => exact absurd HA.out (by simp [spec_l1Cur_texts.j1])
     | succ kj10 =>
      have H := HA.out; clear HA
      simp only [spec_l1Cur_texts.j1] at H
      by_cases c15 : x23_10 = true
      ·subst c15
       rw [if_pos rfl] at H; obtain ⟨⟨t706, t707, t708⟩, A16, H⟩ := ob H; (try dsimp -simprocs only at H)
       by_cases c17 : x5_1.length < 8796093022208
       ·rw [if_pos c17] at H
        have LMc17 := am c17; clear c17; obtain ⟨y709, hy709⟩ : ∃ y_ : List ByteArray, y_ = (x5_1 ++ [t706]) := ⟨_, rfl⟩
        replace H : (spec_l1Cur_texts.l0 kj10 l1 y709 (wrap64 (x6_1 - 1)) s0_0 t707 t708) = some (r1, r2, r3) := by (try rw [hy709]); first | with_reducible exact H | exact (Option.bind_some _ _).symm.trans H | exact H
        have Ny709 := am hy709; clear hy709; have H' := am H; clear H
        go_wp2_with (first | ((with_reducible refine gate_callee (f := 130) rfl ?_); refine gL (some 27) Try.func130 #[.pointer (some ⟨g, 0, none⟩), .slice A1 l1.length c1] ?_; (with_reducible refine (spec_l1Cur_of.calls g s0_0 x1001_10 x1002_10 _ _ l1 t706 t707 t708 w0 _ ?side1 ?side2 ?side3 ?side4 ?side5 A16.out).mono ?_); (case side1 => exact (IsS90.z)); (case side2 => repeat (first | (with_reducible first | exact HB.out | apply below_alloc | apply pw_below_drewN | apply below_drew1 | refine below_set ?_ (IsS90.ge HI0.out)) | exact HB.out)); (case side3 => exact Kd.C_keep (⟨#[]⟩ : ByteArray) HR1.out (Kq) hf1); (case side4 => exact HC1.out); (case side5 => exact hf1); rintro e w18 ⟨rfl, hi, hb, hk⟩; refine ⟨_, rfl, ?_⟩; have n0_ := am (Kd.R_mono (Kd.R_keep (IsS90.apart (show IsS90 w0 _ g s0_0 x1001_10 x1002_10 from IsS90.z) (Rz HO_5.out) (by decide)) hk (fun _ h => h.2)) (fun _ h => h.1)); have n1_ := am (KeepBut.trans (Kq) hk (.inl rfl)); have n2_ := am (hb); have n3_ := am (hi); clear HO_5 HK HB HI0; revert n0_ n1_ n2_ n3_; intro HO_5 HK HB HI0; (try clear hb); (try clear hb2); (try clear hk); (try clear hi)) | ((with_reducible refine gate_builtin (b := .append) (xs := #[.tmp 24, .tmp 28]) rfl ?_); at_builtin; refine Kd.R_append Kd.string w.heap.size rfl (.tmp 24) (.tmp 28) 36 9 (.string ⟨#[]⟩) 16 rfl Try.underlying36 info9 rfl (by decide) (by omega) u5 x5_1 t706 [.string t706] (fun _ => True) (fun _ => False) rfl rfl ?aP (fun _ hk => hk.elim) ?aF ?aO (Below.refl _ _) ?aS ?aL ?_; (case aP => exact rfl); (case aF => exact (fun _ _ => trivial)); (case aO => exact (Rz HO_5.out)); (case aS => exact (keep_size (w := w) (g := g) (row := none) (Kq))); (case aL => have := LMc17.out; omega); intro v710 w19 ho hb hg hat; rw [← Ny709.out] at ho; have n0_ := am (IsS90.grown (IsS90.z) hg (IsS90.own_ne HI0.out HO_5.out (by decide))); have n1_ := am (below_weaken (by repeat (first | (with_reducible first | exact HB.out | apply below_alloc | apply pw_below_drewN | apply below_drew1 | refine below_set ?_ (IsS90.ge HI0.out)) | exact HB.out)) HL.out hb); have n2_ := am (KeepBut.trans (Kq) (KeepBut.of_grown hg g) (Kd.R_base2 HO_5.out)); have n3_ := am (ho); clear HI0 HB HK HO_5; revert n0_ n1_ n2_ n3_; intro HI0 HB HK HO711; clear ho hb hg hat))
        go_roundg kj10
        case measure => have := HK1.out; have := HJ10.out; omega
        case rel => exact ⟨(y709), (wrap64 (x6_1 - 1)), (t707), (t708), wZ, H', ⟨by have := HK1.out; have := HJ10.out; omega⟩, ⟨Rz HO711.out⟩, ⟨IsS90.z⟩, ⟨Kq⟩, ⟨by repeat (first | (with_reducible first | exact HB.out | apply below_alloc | apply pw_below_drewN | apply below_drew1 | refine below_set ?_ (IsS90.ge HI0.out)) | exact HB.out)⟩⟩
       ·rw [if_neg c17] at H
        exact absurd H (by simp)
      ·replace c15 := Bool.eq_false_iff.mpr c15
       subst c15
       rw [if_neg Bool.false_ne_true] at H; obtain ⟨⟨t712, t713, t714⟩, A20, H⟩ := ob H; (try dsimp -simprocs only at H)
       by_cases c21 : x5_1.length < 8796093022208
       ·rw [if_pos c21] at H
        have LMc21 := am c21; clear c21; obtain ⟨y715, hy715⟩ : ∃ y_ : List ByteArray, y_ = (x5_1 ++ [t712]) := ⟨_, rfl⟩
        replace H : (spec_l1Cur_texts.l0 kj10 l1 y715 (wrap64 (x6_1 - 1)) s0_0 t713 t714) = some (r1, r2, r3) := by (try rw [hy715]); first | with_reducible exact H | exact (Option.bind_some _ _).symm.trans H | exact H
        have Ny715 := am hy715; clear hy715; have H' := am H; clear H
        go_wp2_with (first | ((with_reducible refine gate_callee (f := 171) rfl ?_); refine gL (some 32) Try.func171 #[.pointer (some ⟨g, 0, none⟩)] ?_; (with_reducible refine (spec_l1Cur_key.calls kj10 g s0_0 x1001_10 x1002_10 t712 t713 t714 w0 _ ?side1 ?side2 A20.out).mono ?_); (case side1 => exact (IsS90.z)); (case side2 => repeat (first | (with_reducible first | exact HB.out | apply below_alloc | apply pw_below_drewN | apply below_drew1 | refine below_set ?_ (IsS90.ge HI0.out)) | exact HB.out)); rintro e w22 ⟨rfl, hi, hb, hk⟩; refine ⟨_, rfl, ?_⟩; have n0_ := am (Kd.R_mono (Kd.R_keep (IsS90.apart (show IsS90 w0 _ g s0_0 x1001_10 x1002_10 from IsS90.z) (Rz HO_5.out) (by decide)) hk (fun _ h => h.2)) (fun _ h => h.1)); have n1_ := am (KeepBut.trans (Kq) hk (.inl rfl)); have n2_ := am (hb); have n3_ := am (hi); clear HO_5 HK HB HI0; revert n0_ n1_ n2_ n3_; intro HO_5 HK HB HI0; (try clear hb); (try clear hb2); (try clear hk); (try clear hi)) | ((with_reducible refine gate_builtin (b := .append) (xs := #[.tmp 30, .tmp 33]) rfl ?_); at_builtin; refine Kd.R_append Kd.string w.heap.size rfl (.tmp 30) (.tmp 33) 36 9 (.string ⟨#[]⟩) 16 rfl Try.underlying36 info9 rfl (by decide) (by omega) u5 x5_1 t712 [.string t712] (fun _ => True) (fun _ => False) rfl rfl ?aP (fun _ hk => hk.elim) ?aF ?aO (Below.refl _ _) ?aS ?aL ?_; (case aP => exact rfl); (case aF => exact (fun _ _ => trivial)); (case aO => exact (Rz HO_5.out)); (case aS => exact (keep_size (w := w) (g := g) (row := none) (Kq))); (case aL => have := LMc21.out; omega); intro v716 w23 ho hb hg hat; rw [← Ny715.out] at ho; have n0_ := am (IsS90.grown (IsS90.z) hg (IsS90.own_ne HI0.out HO_5.out (by decide))); have n1_ := am (below_weaken (by repeat (first | (with_reducible first | exact HB.out | apply below_alloc | apply pw_below_drewN | apply below_drew1 | refine below_set ?_ (IsS90.ge HI0.out)) | exact HB.out)) HL.out hb); have n2_ := am (KeepBut.trans (Kq) (KeepBut.of_grown hg g) (Kd.R_base2 HO_5.out)); have n3_ := am (ho); clear HI0 HB HK HO_5; revert n0_ n1_ n2_ n3_; intro HI0 HB HK HO717; clear ho hb hg hat))
        go_roundg kj10
        case measure => have := HK1.out; have := HJ10.out; omega
        case rel => exact ⟨(y715), (wrap64 (x6_1 - 1)), (t713), (t714), wZ, H', ⟨by have := HK1.out; have := HJ10.out; omega⟩, ⟨Rz HO717.out⟩, ⟨IsS90.z⟩, ⟨Kq⟩, ⟨by repeat (first | (with_reducible first | exact HB.out | apply below_alloc | apply pw_below_drewN | apply below_drew1 | refine below_set ?_ (IsS90.ge HI0.out)) | exact HB.out)⟩⟩
       ·rw [if_neg c21] at H
        exact absurd H (by simp)
   ·rw [if_neg c10] at H
    have c10b0 : decide (0 < x6_1) = false := decide_eq_false c10; clear c10; obtain ⟨⟨t718, t719, t720⟩, A24, H⟩ := ob H; (try dsimp -simprocs only at H); have HC25 := am H; clear H
    go_upto_if 36 with (first | ((with_reducible refine gate_callee (f := 71) rfl ?_); refine gL (some 36) Try.func71 #[.pointer (some ⟨g, 0, none⟩), .int .i64 12] ?_; (with_reducible refine (spec_l1Cur_one.calls g s0_0 x1001_1 x1002_1 12 t718 t719 t720 w0 _ ?side1 ?side2 A24.out).mono ?_); (case side1 => exact (IsS90.z)); (case side2 => repeat (first | (with_reducible first | exact HB.out | apply below_alloc | apply pw_below_drewN | apply below_drew1 | refine below_set ?_ (IsS90.ge HI0.out)) | exact HB.out)); rintro e w26 ⟨rfl, hi, hb, hk⟩; refine ⟨_, rfl, ?_⟩; have n0_ := am (Kd.R_mono (Kd.R_keep (IsS90.apart (show IsS90 w0 _ g s0_0 x1001_1 x1002_1 from IsS90.z) (Rz HO_5.out) (by decide)) hk (fun _ h => h.2)) (fun _ h => h.1)); have n1_ := am (KeepBut.trans (Kq) hk (.inl rfl)); have n2_ := am (hb); have n3_ := am (hi); clear HO_5 HK HB HI0; revert n0_ n1_ n2_ n3_; intro HO_5 HK HB HI0; (try clear hb); (try clear hb2); (try clear hk); (try clear hi)))
    (try simp only [aP])
    go_cut [5] (fun v5 wc => ∃ (kq : Nat) (x5_24 : List ByteArray) (x1001_24 : Int) (x1002_24 : Int), Aside0 (spec_l1Cur_texts.j2 kq x5_24 s0_0 x1001_24 x1002_24 = some (r1, r2, r3)) ∧ Aside0 (kq ≤ k1) ∧ Aside0 (Kd.R Kd.string 9 wc w.heap.size (fun _ => True) v5 x5_24) ∧ Aside0 (IsS90 w0 wc g s0_0 x1001_24 x1002_24) ∧ Aside0 (KeepBut w wc g none) ∧ Aside0 (Below w0.heap.size w0 wc))
    case first =>
     have H := HC25.out; clear HC25
     by_cases c27 : t718 = true
     ·subst c27
      rw [if_pos rfl] at H; obtain ⟨⟨t721, t722, t723⟩, A28, H⟩ := ob H; (try dsimp -simprocs only at H)
      by_cases c29 : x5_1.length < 8796093022208
      ·rw [if_pos c29] at H
       have LMc29 := am c29; clear c29; obtain ⟨y724, hy724⟩ : ∃ y_ : List ByteArray, y_ = (x5_1 ++ [t721]) := ⟨_, rfl⟩
       replace H : (spec_l1Cur_texts.j2 k1 y724 s0_0 t722 t723) = some (r1, r2, r3) := by (try rw [hy724]); first | with_reducible exact H | exact (Option.bind_some _ _).symm.trans H | exact H
       have Ny724 := am hy724; clear hy724; have H' := am H; clear H
       go_wp2_with (first | ((with_reducible refine gate_callee (f := 131) rfl ?_); refine gL (some 39) Try.func131 #[.pointer (some ⟨g, 0, none⟩)] ?_; (with_reducible refine (spec_l1Cur_text.calls k1 g s0_0 t719 t720 t721 t722 t723 w0 _ ?side1 ?side2 A28.out).mono ?_); (case side1 => exact (IsS90.z)); (case side2 => repeat (first | (with_reducible first | exact HB.out | apply below_alloc | apply pw_below_drewN | apply below_drew1 | refine below_set ?_ (IsS90.ge HI0.out)) | exact HB.out)); rintro e w30 ⟨rfl, hi, hb, hk⟩; refine ⟨_, rfl, ?_⟩; have n0_ := am (Kd.R_mono (Kd.R_keep (IsS90.apart (show IsS90 w0 _ g s0_0 t719 t720 from IsS90.z) (Rz HO_5.out) (by decide)) hk (fun _ h => h.2)) (fun _ h => h.1)); have n1_ := am (KeepBut.trans (Kq) hk (.inl rfl)); have n2_ := am (hb); have n3_ := am (hi); clear HO_5 HK HB HI0; revert n0_ n1_ n2_ n3_; intro HO_5 HK HB HI0; (try clear hb); (try clear hb2); (try clear hk); (try clear hi)) | ((with_reducible refine gate_builtin (b := .append) (xs := #[.tmp 37, .tmp 40]) rfl ?_); at_builtin; refine Kd.R_append Kd.string w.heap.size rfl (.tmp 37) (.tmp 40) 36 9 (.string ⟨#[]⟩) 16 rfl Try.underlying36 info9 rfl (by decide) (by omega) u5 x5_1 t721 [.string t721] (fun _ => True) (fun _ => False) rfl rfl ?aP (fun _ hk => hk.elim) ?aF ?aO (Below.refl _ _) ?aS ?aL ?_; (case aP => exact rfl); (case aF => exact (fun _ _ => trivial)); (case aO => exact (Rz HO_5.out)); (case aS => exact (keep_size (w := w) (g := g) (row := none) (Kq))); (case aL => have := LMc29.out; omega); intro v725 w31 ho hb hg hat; rw [← Ny724.out] at ho; have n0_ := am (IsS90.grown (IsS90.z) hg (IsS90.own_ne HI0.out HO_5.out (by decide))); have n1_ := am (below_weaken (by repeat (first | (with_reducible first | exact HB.out | apply below_alloc | apply pw_below_drewN | apply below_drew1 | refine below_set ?_ (IsS90.ge HI0.out)) | exact HB.out)) HL.out hb); have n2_ := am (KeepBut.trans (Kq) (KeepBut.of_grown hg g) (Kd.R_base2 HO_5.out)); have n3_ := am (ho); clear HI0 HB HK HO_5; revert n0_ n1_ n2_ n3_; intro HI0 HB HK HO726; clear ho hb hg hat))
       go_meet
       case rel => exact ⟨_, (y724), (t722), (t723), H', ⟨by have := HK1.out; first | omega | exact Nat.le_refl _⟩, ⟨Rz HO726.out⟩, ⟨IsS90.z⟩, ⟨Kq⟩, ⟨by repeat (first | (with_reducible first | exact HB.out | apply below_alloc | apply pw_below_drewN | apply below_drew1 | refine below_set ?_ (IsS90.ge HI0.out)) | exact HB.out)⟩⟩
      ·rw [if_neg c29] at H
       exact absurd H (by simp)
     ·replace c27 := Bool.eq_false_iff.mpr c27
      subst c27
      rw [if_neg Bool.false_ne_true] at H; have H' := am H; clear H
      go_wp2
      go_meet
      case rel => exact ⟨_, (x5_1), (t719), (t720), H', ⟨by have := HK1.out; first | omega | exact Nat.le_refl _⟩, ⟨Rz HO_5.out⟩, ⟨IsS90.z⟩, ⟨Kq⟩, ⟨by repeat (first | (with_reducible first | exact HB.out | apply below_alloc | apply pw_below_drewN | apply below_drew1 | refine below_set ?_ (IsS90.ge HI0.out)) | exact HB.out)⟩⟩
    case rest =>
     clear HC25
     try clear c1
     try clear c2
     try clear p2
     try clear p6
     try clear c7
     try clear c8
     try clear c10
     try clear c10b0
     try clear c12
     try clear c12b0
     try clear c12b1
     try clear c13
     try clear c15
     try clear c17
     try clear c21
     try clear c27
     try clear c29
     try clear p2
     obtain ⟨kq, x5_24, x1001_24, x1002_24, HA, HJ24, HO_5, HI0, HK, HB⟩ := hcut; cases kq with
     | zero => exact absurd HA.out (by simp [spec_l1Cur_texts.j2])
     | succ kj24 =>
      have H := HA.out; clear HA
      simp only [spec_l1Cur_texts.j2] at H
      obtain ⟨⟨t727, t728, t729⟩, A32, H⟩ := ob H; (try dsimp -simprocs only at H)
      by_cases c33 : t727 = true
      ·subst c33
       rw [if_pos rfl] at H; obtain ⟨⟨t730, t731, t732⟩, A34, H⟩ := ob H; (try dsimp -simprocs only at H); have H' := am H; clear H
       go_wp2_with (first | ((with_reducible refine gate_callee (f := 71) rfl ?_); refine gL (some 43) Try.func71 #[.pointer (some ⟨g, 0, none⟩), .int .i64 20] ?_; (with_reducible refine (spec_l1Cur_one.calls g s0_0 x1001_24 x1002_24 20 true t728 t729 w0 _ ?side1 ?side2 A32.out).mono ?_); (case side1 => exact (IsS90.z)); (case side2 => repeat (first | (with_reducible first | exact HB.out | apply below_alloc | apply pw_below_drewN | apply below_drew1 | refine below_set ?_ (IsS90.ge HI0.out)) | exact HB.out)); rintro e w35 ⟨rfl, hi, hb, hk⟩; refine ⟨_, rfl, ?_⟩; have n0_ := am (Kd.R_mono (Kd.R_keep (IsS90.apart (show IsS90 w0 _ g s0_0 x1001_24 x1002_24 from IsS90.z) (Rz HO_5.out) (by decide)) hk (fun _ h => h.2)) (fun _ h => h.1)); have n1_ := am (KeepBut.trans (Kq) hk (.inl rfl)); have n2_ := am (hb); have n3_ := am (hi); clear HO_5 HK HB HI0; revert n0_ n1_ n2_ n3_; intro HO_5 HK HB HI0; (try clear hb); (try clear hb2); (try clear hk); (try clear hi)) | ((with_reducible refine gate_callee (f := 72) rfl ?_); refine gL (some 45) Try.func72 #[.pointer (some ⟨g, 0, none⟩), .int .i64 2] ?_; (with_reducible refine (spec_l1Cur_pick.calls g s0_0 t728 t729 2 t730 t731 t732 w0 _ ?side1 ?side2 A34.out).mono ?_); (case side1 => exact (IsS90.z)); (case side2 => repeat (first | (with_reducible first | exact HB.out | apply below_alloc | apply pw_below_drewN | apply below_drew1 | refine below_set ?_ (IsS90.ge HI0.out)) | exact HB.out)); rintro e w36 ⟨rfl, hi, hb, hk⟩; refine ⟨_, rfl, ?_⟩; have n0_ := am (Kd.R_mono (Kd.R_keep (IsS90.apart (show IsS90 w0 _ g s0_0 t728 t729 from IsS90.z) (Rz HO_5.out) (by decide)) hk (fun _ h => h.2)) (fun _ h => h.1)); have n1_ := am (KeepBut.trans (Kq) hk (.inl rfl)); have n2_ := am (hb); have n3_ := am (hi); clear HO_5 HK HB HI0; revert n0_ n1_ n2_ n3_; intro HO_5 HK HB HI0; (try clear hb); (try clear hb2); (try clear hk); (try clear hi)))
       (try simp only [aP])
       go_loopg [5] kj24 (fun kq v5 w' => ∃ (x5_3 : List ByteArray) (x1001_3 : Int) (x1002_3 : Int), Aside0 (spec_l1Cur_texts.l1 kq x5_3 (wrap64 (300 + t730)) s0_0 x1001_3 x1002_3 = some (r1, r2, r3)) ∧ Aside0 (kq ≤ kj24) ∧ Aside0 (Kd.R Kd.string 9 w' w.heap.size (fun _ => True) v5 x5_3) ∧ Aside0 (IsS90 w0 w' g s0_0 x1001_3 x1002_3) ∧ Aside0 (KeepBut w w' g none) ∧ Aside0 (Below w0.heap.size w0 w'))
       case atStart => exact ⟨(x5_24), (t731), (t732), H', ⟨Nat.le_refl _⟩, ⟨Rz HO_5.out⟩, ⟨IsS90.z⟩, ⟨Kq⟩, ⟨by repeat (first | (with_reducible first | exact HB.out | apply below_alloc | apply pw_below_drewN | apply below_drew1 | refine below_set ?_ (IsS90.ge HI0.out)) | exact HB.out)⟩⟩
       case round =>
        clear H'
        try clear c1
        try clear c2
        try clear p2
        try clear c3
        try clear p6
        try clear c7
        try clear c8
        try clear c10
        try clear c10b0
        try clear c12
        try clear c12b0
        try clear c12b1
        try clear c13
        try clear c15
        try clear c17
        try clear c21
        try clear c27
        try clear c29
        try clear c33
        try clear p2
        try clear p6
        obtain ⟨x5_3, x1001_3, x1002_3, HA, HK3, HO_5, HI0, HK, HB⟩ := hrel; cases gk with
        | zero => exact absurd HA.out (by simp [spec_l1Cur_texts.l1])
        | succ k3 =>
         have H := HA.out; clear HA
         simp only [spec_l1Cur_texts.l1] at H
         by_cases c37 : (x5_3.length : Int) < (wrap64 (300 + t730))
         ·rw [if_pos c37] at H
          have c37b0 : decide ((x5_3.length : Int) < (wrap64 (300 + t730))) = true := decide_eq_true c37; clear c37; obtain ⟨⟨t733, t734, t735⟩, A38, H⟩ := ob H; (try dsimp -simprocs only at H)
          by_cases c39 : x5_3.length < 8796093022208
          ·rw [if_pos c39] at H
           have LMc39 := am c39; clear c39; obtain ⟨y736, hy736⟩ : ∃ y_ : List ByteArray, y_ = (x5_3 ++ [t733]) := ⟨_, rfl⟩
           replace H : (spec_l1Cur_texts.l1 k3 y736 (wrap64 (300 + t730)) s0_0 t734 t735) = some (r1, r2, r3) := by (try rw [hy736]); first | with_reducible exact H | exact (Option.bind_some _ _).symm.trans H | exact H
           have Ny736 := am hy736; clear hy736; have H' := am H; clear H; obtain ⟨Ao40, co40, eo40⟩ := Kd.R_slice HO_5.out; subst eo40
           go_wp2_with (first | ((with_reducible refine gate_callee (f := 171) rfl ?_); refine gL (some 53) Try.func171 #[.pointer (some ⟨g, 0, none⟩)] ?_; (with_reducible refine (spec_l1Cur_key.calls k3 g s0_0 x1001_3 x1002_3 t733 t734 t735 w0 _ ?side1 ?side2 A38.out).mono ?_); (case side1 => exact (IsS90.z)); (case side2 => repeat (first | (with_reducible first | exact HB.out | apply below_alloc | apply pw_below_drewN | apply below_drew1 | refine below_set ?_ (IsS90.ge HI0.out)) | exact HB.out)); rintro e w41 ⟨rfl, hi, hb, hk⟩; refine ⟨_, rfl, ?_⟩; have n0_ := am (Kd.R_mono (Kd.R_keep (IsS90.apart (show IsS90 w0 _ g s0_0 x1001_3 x1002_3 from IsS90.z) (Rz HO_5.out) (by decide)) hk (fun _ h => h.2)) (fun _ h => h.1)); have n1_ := am (KeepBut.trans (Kq) hk (.inl rfl)); have n2_ := am (hb); have n3_ := am (hi); clear HO_5 HK HB HI0; revert n0_ n1_ n2_ n3_; intro HO_5 HK HB HI0; (try clear hb); (try clear hb2); (try clear hk); (try clear hi)) | ((with_reducible refine gate_builtin (b := .append) (xs := #[.tmp 51, .tmp 54]) rfl ?_); at_builtin; refine Kd.R_append Kd.string w.heap.size rfl (.tmp 51) (.tmp 54) 36 9 (.string ⟨#[]⟩) 16 rfl Try.underlying36 info9 rfl (by decide) (by omega) (.slice Ao40 x5_3.length co40) x5_3 t733 [.string t733] (fun _ => True) (fun _ => False) rfl rfl ?aP (fun _ hk => hk.elim) ?aF ?aO (Below.refl _ _) ?aS ?aL ?_; (case aP => exact rfl); (case aF => exact (fun _ _ => trivial)); (case aO => exact (Rz HO_5.out)); (case aS => exact (keep_size (w := w) (g := g) (row := none) (Kq))); (case aL => have := LMc39.out; omega); intro v737 w42 ho hb hg hat; rw [← Ny736.out] at ho; have n0_ := am (IsS90.grown (IsS90.z) hg (IsS90.own_ne HI0.out HO_5.out (by decide))); have n1_ := am (below_weaken (by repeat (first | (with_reducible first | exact HB.out | apply below_alloc | apply pw_below_drewN | apply below_drew1 | refine below_set ?_ (IsS90.ge HI0.out)) | exact HB.out)) HL.out hb); have n2_ := am (KeepBut.trans (Kq) (KeepBut.of_grown hg g) (Kd.R_base2 HO_5.out)); have n3_ := am (ho); clear HI0 HB HK HO_5; revert n0_ n1_ n2_ n3_; intro HI0 HB HK HO738; clear ho hb hg hat))
           go_roundg k3
           case measure => have := HK1.out; have := HJ24.out; have := HK3.out; omega
           case rel => exact ⟨(y736), (t734), (t735), H', ⟨by have := HK1.out; have := HJ24.out; have := HK3.out; omega⟩, ⟨Rz HO738.out⟩, ⟨IsS90.z⟩, ⟨Kq⟩, ⟨by repeat (first | (with_reducible first | exact HB.out | apply below_alloc | apply pw_below_drewN | apply below_drew1 | refine below_set ?_ (IsS90.ge HI0.out)) | exact HB.out)⟩⟩
          ·rw [if_neg c39] at H
           exact absurd H (by simp)
         ·rw [if_neg c37] at H
          have c37b0 : decide ((x5_3.length : Int) < (wrap64 (300 + t730))) = false := decide_eq_false c37; clear c37
          simp only [Option.some.injEq, Prod.mk.injEq] at H
          obtain ⟨rfl, rfl, rfl⟩ := H; obtain ⟨Ao43, co43, eo43⟩ := Kd.R_slice HO_5.out; subst eo43
          go_wp2
          go_ret
          exact ⟨_, eZ, Rz HO_5.out, IsS90.z, by repeat (first | (with_reducible first | exact HB.out | apply below_alloc | apply pw_below_drewN | apply below_drew1 | refine below_set ?_ (IsS90.ge HI0.out)) | exact HB.out), Kq⟩
      ·replace c33 := Bool.eq_false_iff.mpr c33
       subst c33
       rw [if_neg Bool.false_ne_true] at H
       simp only [Option.some.injEq, Prod.mk.injEq] at H
       obtain ⟨rfl, rfl, rfl⟩ := H
       go_wp2_with (first | ((with_reducible refine gate_callee (f := 71) rfl ?_); refine gL (some 43) Try.func71 #[.pointer (some ⟨g, 0, none⟩), .int .i64 20] ?_; (with_reducible refine (spec_l1Cur_one.calls g s0_0 x1001_24 x1002_24 20 false t728 t729 w0 _ ?side1 ?side2 A32.out).mono ?_); (case side1 => exact (IsS90.z)); (case side2 => repeat (first | (with_reducible first | exact HB.out | apply below_alloc | apply pw_below_drewN | apply below_drew1 | refine below_set ?_ (IsS90.ge HI0.out)) | exact HB.out)); rintro e w44 ⟨rfl, hi, hb, hk⟩; refine ⟨_, rfl, ?_⟩; have n0_ := am (Kd.R_mono (Kd.R_keep (IsS90.apart (show IsS90 w0 _ g s0_0 x1001_24 x1002_24 from IsS90.z) (Rz HO_5.out) (by decide)) hk (fun _ h => h.2)) (fun _ h => h.1)); have n1_ := am (KeepBut.trans (Kq) hk (.inl rfl)); have n2_ := am (hb); have n3_ := am (hi); clear HO_5 HK HB HI0; revert n0_ n1_ n2_ n3_; intro HO_5 HK HB HI0; (try clear hb); (try clear hb2); (try clear hk); (try clear hi)))
       go_ret
       exact ⟨_, eZ, Rz HO_5.out, IsS90.z, by repeat (first | (with_reducible first | exact HB.out | apply below_alloc | apply pw_below_drewN | apply below_drew1 | refine below_set ?_ (IsS90.ge HI0.out)) | exact HB.out), Kq⟩

mutual
def spec_DrawPrintFalse.j0 : Nat → List ByteArray → Bool → List Int → Int → Int → Int → Int → Int → List Int → Option (Int × Int × Int × List Int × List ByteArray × List ByteArray)
 | 0, _, _, _, _, _, _, _, _, _ => none
 | k + 1, x6, x26, x741000, x741001, x741002, x755000, x755001, x755002, x755003 => if x26 = true then (spec_DrawPrintFalse.l0 k x6 ([] : List Int) x6 (x6.length : Int) 0 x741000 x741001 x741002 x755000 x755001 x755002 x755003) else (spec_DrawPrintFalse.j2 k x6 x741000 x741001 x741002 x755000 x755001 x755002 x755003)
def spec_DrawPrintFalse.j2 : Nat → List ByteArray → List Int → Int → Int → Int → Int → Int → List Int → Option (Int × Int × Int × List Int × List ByteArray × List ByteArray)
 | 0, _, _, _, _, _, _, _, _ => none
 | k + 1, x6, x741000, x741001, x741002, x755000, x755001, x755002, x755003 => (spec_l1Cur_texts.f k x741000 x741001 x741002 x6).bind fun bt772 => (some (x755000, x755001, x755002, x755003, x6, bt772.1))
def spec_DrawPrintFalse.l0 : Nat → List ByteArray → List Int → List ByteArray → Int → Int → List Int → Int → Int → Int → Int → Int → List Int → Option (Int × Int × Int × List Int × List ByteArray × List ByteArray)
 | 0, _, _, _, _, _, _, _, _, _, _, _, _ => none
 | k + 1, x6, x8, x27, x28, x29, x741000, x741001, x741002, x755000, x755001, x755002, x755003 => if x29 < x28 then (if 0 ≤ x29 then (if x29 < (x27.length : Int) then ((spec_fiPrint.f k 3 2 (rdOf ByteArray.empty x27 x29)).bind fun t760 => (if x8.length < 17592186044416 then (spec_DrawPrintFalse.l0 k x6 (x8 ++ [t760]) x27 x28 (wrap64 (x29 + 1)) x741000 x741001 x741002 x755000 x755001 x755002 x755003) else (none))) else (none)) else (none)) else ((spec_rePeeled.f k 3 x6 x8 (wrap64 (1 + (wrap64 ((x6.length : Int) / 2)))) 2).bind fun bt764 => (if bt764.2.2.2.2 = true then (spec_DrawPrintFalse.j2 k x6 x741000 x741001 x741002 bt764.1 bt764.2.1 bt764.2.2.1 bt764.2.2.2.1) else (spec_DrawPrintFalse.j2 k x6 x741000 x741001 x741002 x755000 x755001 x755002 x755003)))
end
def spec_DrawPrintFalse.f (k : Nat) (l0 : List Int) : Option (Int × Int × Int × List Int × List ByteArray × List ByteArray) := (spec_l1Cur_anyKeys.f k l0 0 0 8).bind fun bt741 => ((spec_l1Cur_table.f k l0 bt741.2.1 bt741.2.2).bind fun bt746 => ((spec_biKeys.f k bt741.1).bind fun t755 => (if t755 = true then ((spec_l1Cur_one.f l0 bt746.2.2.2.2.1 bt746.2.2.2.2.2 4).bind fun bt756 => (spec_DrawPrintFalse.j0 k bt741.1 (!bt756.1) l0 bt756.2.1 bt756.2.2 bt746.1 bt746.2.1 bt746.2.2.1 bt746.2.2.2.1)) else (spec_DrawPrintFalse.j0 k bt741.1 false l0 bt746.2.2.2.2.1 bt746.2.2.2.2.2 bt746.1 bt746.2.1 bt746.2.2.1 bt746.2.2.2.1))))
def spec_DrawPrintFalse.T14 : Bool × List (List Nat × List Nat) := (true, [([], []), ([], []), ([], []), ([], []), ([2, 3], [2, 3]), ([0, 4, 0], [0]), ([1, 5, 0, 1, 5], [1]), ([4, 6, 0, 1, 2, 3, 4, 5, 6], [4])])
def spec_DrawPrintFalse.B14 : List Nat := [0, 0, 0, 0, 12, 29, 63, 127]
theorem spec_DrawPrintFalse.tab14 : rtab .any (opsOf Try.f45 14) = spec_DrawPrintFalse.T14 := by kernel_rfl
theorem spec_DrawPrintFalse.bits14 : waitsOk spec_DrawPrintFalse.T14.2 spec_DrawPrintFalse.B14 = true := by kernel_rfl
theorem spec_DrawPrintFalse.calls (k : Nat) (A0 : Option Addr) (c0 : Nat) (l0 : List Int) (r1 : Int) (r2 : Int) (r3 : Int) (r4 : List Int) (r5 : List ByteArray) (r6 : List ByteArray) (w : World) (hr0 : Kd.C (Kd.int .u8) w A0 l0.length l0) (hc0 : l0.length ≤ c0) (h : spec_DrawPrintFalse.f k l0 = some (r1, r2, r3, r4, r5, r6)) :
  Calls Try.prog 45 #[.slice A0 l0.length c0] w fun e w' => ∃ v3_ v4_ v5_ : Value, e = .returned (.tuple #[.agg #[.int .i64 r1, .int .i64 r2, .int .i64 r3, v3_], v4_, v5_]) ∧ Kd.R (Kd.int .i64) 3 w' w.heap.size (fun _ => True) v3_ r4 ∧ Kd.R Kd.string 9 w' w.heap.size (fun k_ => some k_ ≠ (v5_ : Value).ownBlock) v4_ r5 ∧ Kd.R Kd.string 9 w' w.heap.size (fun k_ => some k_ ≠ (v4_ : Value).ownBlock) v5_ r6 ∧ Below w.heap.size w w' := by
 have hu71 := Try.underlying71; have hu90 := Try.underlying90; have HR0 := am hr0; have HC0 := am hc0; clear hr0 hc0; have HB := am (Below.refl w.heap.size w); have H : ((spec_l1Cur_anyKeys.f k l0 0 0 8).bind fun bt741 => ((spec_l1Cur_table.f k l0 bt741.2.1 bt741.2.2).bind fun bt746 => ((spec_biKeys.f k bt741.1).bind fun t755 => (if t755 = true then ((spec_l1Cur_one.f l0 bt746.2.2.2.2.1 bt746.2.2.2.2.2 4).bind fun bt756 => (spec_DrawPrintFalse.j0 k bt741.1 (!bt756.1) l0 bt756.2.1 bt756.2.2 bt746.1 bt746.2.1 bt746.2.2.1 bt746.2.2.2.1)) else (spec_DrawPrintFalse.j0 k bt741.1 false l0 bt746.2.2.2.2.1 bt746.2.2.2.2.2 bt746.1 bt746.2.1 bt746.2.2.1 bt746.2.2.2.1))))) = some (r1, r2, r3, r4, r5, r6) := h; clear h; obtain ⟨⟨t741, t744, t745⟩, A2, H⟩ := ob H; (try dsimp -simprocs only at H); obtain ⟨⟨t746, t747, t748, t749, t752, t753⟩, A3, H⟩ := ob H; (try dsimp -simprocs only at H); have HC4 := am H; clear H
 go_enter Try.func45, Try.ntmps45
 go_upto_region 4 with (first | ((with_reducible refine gate_dst (N := 2) rfl ?_); refine bE 2 #[.int .i64 0, .int .i64 0, .int .i64 0, .slice none 0 0] 71 ?_; intro gb739 hg w5 hbox hb; have n0_ := Bb HB hb; have n1_ := am (hbox); have n2_ := Gl HB hg; have n3_ := Gl HB hg; clear HB; revert n0_ n1_ n2_ n3_; intro HB BK739 GW739 GE739; clear hb hbox hg) | ((with_reducible refine gate_dst (N := 15) rfl ?_); refine bE 15 #[.slice A0 l0.length c0, .int .i64 0, .int .u64 0] 90 ?_; intro gb740 hg w6 hbox hb; have n0_ := Kb BK739 hb; have n1_ := Bc HB hb; have n2_ := am (hbox); have n3_ := Gm HB hg; have n4_ := Gm HB hg; have n5_ := Nl BK739 hg; have n6_ := Ng BK739 hg; clear BK739 HB; revert n0_ n1_ n2_ n3_ n4_ n5_ n6_; intro BK739 HB BK740 GW740 GE740 NB739_740 NB740_739; clear hb hbox hg; have HI740 := am (show IsS90 w _ gb740 l0 0 0 from ⟨A0, c0, BK740.out, GE740.out, HR0.out⟩); clear BK740) | ((with_reducible refine gate_callee (f := 70) rfl ?_); refine gL (some 17) Try.func70 #[.pointer (some ⟨gb740, 0, none⟩), .int .i64 8] ?_; (with_reducible refine (spec_l1Cur_anyKeys.calls k gb740 l0 0 0 8 t741 t744 t745 w _ ?side1 ?side2 A2.out).mono ?_); (case side1 => repeat (first | (with_reducible first | exact HI740.out | apply IsS90.alloc | apply IsS90.drewN | apply IsS90.drew | apply IsS90.set_1 | apply IsS90.set_2 | refine IsS90.far ?_ NB740_739.out _) | exact HI740.out)); (case side2 => repeat (first | (with_reducible first | exact HB.out | apply below_alloc | apply pw_below_drewN | apply below_drew1 | refine below_set ?_ (IsS90.ge HI740.out) | refine below_set ?_ GE739.out) | exact HB.out)); rintro e w7 ⟨v742, rfl, ho0, hi, hb, hk⟩; refine ⟨_, rfl, ?_⟩; have n0_ := am (KeepBut.blk hk (g' := gb739) (o := .cells #[.int .i64 0, .int .i64 0, .int .i64 0, .slice none 0 0] 71 (0, 0)) (Kz BK739.out) NB739_740.out (by simp)); have n1_ := am (Kd.R_lower ho0 (below_size (by repeat (first | (with_reducible first | exact HB.out | apply below_alloc | apply pw_below_drewN | apply below_drew1 | refine below_set ?_ (IsS90.ge HI740.out) | refine below_set ?_ GE739.out) | exact HB.out)))); have n2_ := am (hb); have n3_ := am (hi); clear BK739 HB HI740; revert n0_ n1_ n2_ n3_; intro BK739 HO743 HB HI740; (try clear hb); (try clear hb2); (try clear hk); (try clear hi); (try clear ho0)) | ((with_reducible refine gate_callee (f := 121) rfl ?_); refine gL (some 19) Try.func121 #[.pointer (some ⟨gb740, 0, none⟩)] ?_; (with_reducible refine (spec_l1Cur_table.calls k gb740 l0 t744 t745 t746 t747 t748 t749 t752 t753 w _ ?side1 ?side2 A3.out).mono ?_); (case side1 => repeat (first | (with_reducible first | exact HI740.out | apply IsS90.alloc | apply IsS90.drewN | apply IsS90.drew | apply IsS90.set_1 | apply IsS90.set_2 | refine IsS90.far ?_ NB740_739.out _) | exact HI740.out)); (case side2 => repeat (first | (with_reducible first | exact HB.out | apply below_alloc | apply pw_below_drewN | apply below_drew1 | refine below_set ?_ (IsS90.ge HI740.out) | refine below_set ?_ GE739.out) | exact HB.out)); rintro e w8 ⟨v750, rfl, ho0, hi, hb, hk⟩; refine ⟨_, rfl, ?_⟩; have n0_ := am (KeepBut.blk hk (g' := gb739) (o := .cells #[.int .i64 0, .int .i64 0, .int .i64 0, .slice none 0 0] 71 (0, 0)) (Kz BK739.out) NB739_740.out (by simp)); have n1_ := am (Kd.R_mono (Kd.R_keep (IsS90.apart (show IsS90 w _ gb740 l0 t744 t745 from by repeat (first | (with_reducible first | exact HI740.out | apply IsS90.alloc | apply IsS90.drewN | apply IsS90.drew | apply IsS90.set_1 | apply IsS90.set_2 | refine IsS90.far ?_ NB740_739.out _) | exact HI740.out)) (Rz HO743.out) (by decide)) hk (fun _ h => h.2)) (fun _ h => h.1)); have n2_ := am (Kd.R_lower ho0 (below_size (by repeat (first | (with_reducible first | exact HB.out | apply below_alloc | apply pw_below_drewN | apply below_drew1 | refine below_set ?_ (IsS90.ge HI740.out) | refine below_set ?_ GE739.out) | exact HB.out)))); have n3_ := am (hb); have n4_ := am (hi); clear BK739 HO743 HB HI740; revert n0_ n1_ n2_ n3_ n4_; intro BK739 HO743 HO751 HB HI740; (try clear hb); (try clear hb2); (try clear hk); (try clear hi); (try clear ho0)) | ((with_reducible refine gate_dst (N := 7) rfl ?_); refine bE 7 #[.int .i64 0, .int .i64 0, .int .i64 0, .slice none 0 0] 71 ?_; intro gb754 hg w9 hbox hb; have n0_ := Rb HO743 hb; have n1_ := Rb HO751 hb; have n2_ := Kb BK739 hb; have n3_ := am (IsS90.below (by repeat (first | (with_reducible first | exact HI740.out | apply IsS90.alloc | apply IsS90.drewN | apply IsS90.drew | apply IsS90.set_1 | apply IsS90.set_2 | refine IsS90.far ?_ NB740_739.out _) | exact HI740.out)) hb); have n4_ := am (below_step (by repeat (first | (with_reducible first | exact HB.out | apply below_alloc | apply pw_below_drewN | apply below_drew1 | refine below_set ?_ (IsS90.ge HI740.out) | refine below_set ?_ GE739.out) | exact HB.out)) hb); have n5_ := am (hbox); have n6_ := am ((by rw [hg]; exact (below_size (by repeat (first | (with_reducible first | exact HB.out | apply below_alloc | apply pw_below_drewN | apply below_drew1 | refine below_set ?_ (IsS90.ge HI740.out) | refine below_set ?_ GE739.out) | exact HB.out))) : w.heap.size ≤ gb754)); have n7_ := am ((by rw [hg]; exact (below_size (by repeat (first | (with_reducible first | exact HB.out | apply below_alloc | apply pw_below_drewN | apply below_drew1 | refine below_set ?_ (IsS90.ge HI740.out) | refine below_set ?_ GE739.out) | exact HB.out))) : w.heap.size ≤ gb754)); have n8_ := Nl BK739 hg; have n9_ := Ng BK739 hg; have n10_ := am ((by rw [hg]; exact Nat.ne_of_lt (IsS90.lt (show IsS90 w _ gb740 l0 t752 t753 from by repeat (first | (with_reducible first | exact HI740.out | apply IsS90.alloc | apply IsS90.drewN | apply IsS90.drew | apply IsS90.set_1 | apply IsS90.set_2 | refine IsS90.far ?_ NB740_739.out _) | exact HI740.out))) : gb740 ≠ gb754)); have n11_ := am ((by rw [hg]; exact Nat.ne_of_gt (IsS90.lt (show IsS90 w _ gb740 l0 t752 t753 from by repeat (first | (with_reducible first | exact HI740.out | apply IsS90.alloc | apply IsS90.drewN | apply IsS90.drew | apply IsS90.set_1 | apply IsS90.set_2 | refine IsS90.far ?_ NB740_739.out _) | exact HI740.out))) : gb754 ≠ gb740)); clear HO743 HO751 BK739 HI740 HB; revert n0_ n1_ n2_ n3_ n4_ n5_ n6_ n7_ n8_ n9_ n10_ n11_; intro HO743 HO751 BK739 HI740 HB BK754 GW754 GE754 NB739_754 NB754_739 NB740_754 NB754_740; clear hb hbox hg; have hnb10 := NB754_739.out; have hnc10 := NB739_754.out; have hnb11 := NB754_740.out; have hnc11 := NB740_754.out; obtain ⟨hcz12_0, hcz12_1, hcz12_2, hcz12_3, hfz12_0, hfz12_1, hfz12_2, hfz12_3⟩ := cf4 (w := w9) BK754; obtain ⟨Ao13, co13, eo13⟩ := Kd.R_slice HO751.out; subst eo13))
 (try simp only [aP])
 go_cut [26] (fun v26 wc => ∃ (kq : Nat) (x26_3 : Bool) (x741001_3 : Int) (x741002_3 : Int), v26 = .bool x26_3 ∧ Aside0 (spec_DrawPrintFalse.j0 kq t741 x26_3 l0 x741001_3 x741002_3 t746 t747 t748 t749 = some (r1, r2, r3, r4, r5, r6)) ∧ Aside0 (kq ≤ k) ∧ Aside0 (Kd.R Kd.string 9 wc w.heap.size (fun _ => True) v742 t741) ∧ Aside0 (Kd.R (Kd.int .i64) 3 wc w.heap.size (fun _ => True) (.slice Ao13 t749.length co13) t749) ∧ Aside0 (wc.heap[gb739]? = some (.cells #[.int .i64 0, .int .i64 0, .int .i64 0, (.slice none 0 0)] 71 (0, 0))) ∧ Aside0 (wc.heap[gb754]? = some (.cells #[.int .i64 t746, .int .i64 t747, .int .i64 t748, (.slice Ao13 t749.length co13)] 71 (0, 0))) ∧ Aside0 (IsS90 w wc gb740 l0 x741001_3 x741002_3) ∧ Aside0 (Below w.heap.size w wc))
 case first =>
  have H := HC4.out; clear HC4; obtain ⟨t755, A14, H⟩ := ob H; (try dsimp -simprocs only at H)
  by_cases c15 : t755 = true
  ·subst c15
   rw [if_pos rfl] at H; obtain ⟨⟨t756, t757, t758⟩, A16, H⟩ := ob H; (try dsimp -simprocs only at H); have H' := am H; clear H; obtain ⟨Ao17, co17, eo17⟩ := Kd.R_slice HO743.out; subst eo17
   go_wp2_with (first | ((with_reducible refine gate_callee (f := 96) rfl ?_); refine gL (some 21) Try.func96 #[.slice Ao17 t741.length co17] ?_; (with_reducible refine (spec_biKeys.calls k _ _ t741 true _ ?side1 ?side2 A14.out).mono ?_); (case side1 => refine (Kd.R_reads' (e := 9) (base := w.heap.size) (ok := fun k_ => True) (n := t741.length) (c := co17) ?_).2.2; exact (Rz (Kd.R_mono (Kd.R_far (p := ⟨gb754, 3, none⟩) (Kd.R_far (p := ⟨gb754, 2, none⟩) (Kd.R_far (p := ⟨gb754, 1, none⟩) (Kd.R_far (p := ⟨gb754, 0, none⟩) (Kd.R_types HO743.out BK754.out (by decide)) (fun _ hk => hk.2) (.int .i64 t746)) (fun _ hk => hk.2) (.int .i64 t747)) (fun _ hk => hk.2) (.int .i64 t748)) (fun _ hk => hk.2) (.slice Ao13 t749.length co13)) (fun _ h_ => h_.1)))); (case side2 => exact (Kd.R_reads' HO743.out).2.1); rintro e w' ⟨rfl, ⟨nd, rfl⟩⟩; refine ⟨_, rfl, ?_⟩) | (go_at_call 71; (with_reducible refine (spec_l1Cur_one.calls gb740 l0 t752 t753 4 t756 t757 t758 w _ ?side1 ?side2 A16.out).mono ?_); (case side1 => repeat (first | (with_reducible first | exact HI740.out | apply IsS90.alloc | apply IsS90.drewN | apply IsS90.drew | apply IsS90.set_1 | apply IsS90.set_2 | refine IsS90.far ?_ NB740_739.out _ | refine IsS90.far ?_ NB740_754.out _) | exact HI740.out)); (case side2 => repeat (first | (with_reducible first | exact HB.out | apply below_alloc | apply pw_below_drewN | apply below_drew1 | refine below_set ?_ (IsS90.ge HI740.out) | refine below_set ?_ GE739.out | refine below_set ?_ GE754.out) | exact HB.out)); rintro e w18 ⟨rfl, hi, hb, hk⟩; have n0_ := am (KeepBut.blk hk (g' := gb739) (o := .cells #[.int .i64 0, .int .i64 0, .int .i64 0, .slice none 0 0] 71 (0, 0)) (by refine bp ?_; refine blk_far ?_ NB739_754.out _; refine bp ?_; refine blk_far ?_ NB739_754.out _; refine bp ?_; refine blk_far ?_ NB739_754.out _; refine bp ?_; refine blk_far ?_ NB739_754.out _; exact Kz BK739.out) NB739_740.out (by simp)); have n1_ := am (Kd.R_mono (Kd.R_keep (IsS90.apart (show IsS90 w _ gb740 l0 t752 t753 from by repeat (first | (with_reducible first | exact HI740.out | apply IsS90.alloc | apply IsS90.drewN | apply IsS90.drew | apply IsS90.set_1 | apply IsS90.set_2 | refine IsS90.far ?_ NB740_739.out _ | refine IsS90.far ?_ NB740_754.out _) | exact HI740.out)) (Rz (Kd.R_mono (Kd.R_far (p := ⟨gb754, 3, none⟩) (Kd.R_far (p := ⟨gb754, 2, none⟩) (Kd.R_far (p := ⟨gb754, 1, none⟩) (Kd.R_far (p := ⟨gb754, 0, none⟩) (Kd.R_types HO743.out BK754.out (by decide)) (fun _ hk => hk.2) (.int .i64 t746)) (fun _ hk => hk.2) (.int .i64 t747)) (fun _ hk => hk.2) (.int .i64 t748)) (fun _ hk => hk.2) (.slice Ao13 t749.length co13)) (fun _ h_ => h_.1))) (by decide)) hk (fun _ h => h.2)) (fun _ h => h.1)); have n2_ := am (Kd.R_mono (Kd.R_keep (IsS90.apart (show IsS90 w _ gb740 l0 t752 t753 from by repeat (first | (with_reducible first | exact HI740.out | apply IsS90.alloc | apply IsS90.drewN | apply IsS90.drew | apply IsS90.set_1 | apply IsS90.set_2 | refine IsS90.far ?_ NB740_739.out _ | refine IsS90.far ?_ NB740_754.out _) | exact HI740.out)) (Rz (Kd.R_mono (Kd.R_far (p := ⟨gb754, 3, none⟩) (Kd.R_far (p := ⟨gb754, 2, none⟩) (Kd.R_far (p := ⟨gb754, 1, none⟩) (Kd.R_far (p := ⟨gb754, 0, none⟩) (Kd.R_types HO751.out BK754.out (by decide)) (fun _ hk => hk.2) (.int .i64 t746)) (fun _ hk => hk.2) (.int .i64 t747)) (fun _ hk => hk.2) (.int .i64 t748)) (fun _ hk => hk.2) (.slice Ao13 t749.length co13)) (fun _ h_ => h_.1))) (by decide)) hk (fun _ h => h.2)) (fun _ h => h.1)); have n3_ := am (KeepBut.blk hk (g' := gb754) (o := .cells #[.int .i64 t746, .int .i64 t747, .int .i64 t748, .slice Ao13 t749.length co13] 71 (0, 0)) (by refine bp ?_; refine blk_put (cs := #[.int .i64 t746, .int .i64 t747, .int .i64 t748, .slice none 0 0]) ?_ 3 _ rfl; refine bp ?_; refine blk_put (cs := #[.int .i64 t746, .int .i64 t747, .int .i64 0, .slice none 0 0]) ?_ 2 _ rfl; refine bp ?_; refine blk_put (cs := #[.int .i64 t746, .int .i64 0, .int .i64 0, .slice none 0 0]) ?_ 1 _ rfl; refine bp ?_; refine blk_put (cs := #[.int .i64 0, .int .i64 0, .int .i64 0, .slice none 0 0]) ?_ 0 _ rfl; exact Kz BK754.out) NB754_740.out (by simp)); have n4_ := am (hb); have n5_ := am (hi); clear BK739 HO743 HO751 BK754 HB HI740; revert n0_ n1_ n2_ n3_ n4_ n5_; intro BK739 HO743 HO751 BK754 HB HI740; (try clear hb); (try clear hb2); (try clear hk); (try clear hi)))
   go_meet
   case rel => exact ⟨_, (!t756), (t757), (t758), wZ, H', ⟨by first | omega | exact Nat.le_refl _⟩, ⟨Rz HO743.out⟩, ⟨Rz HO751.out⟩, ⟨Kz BK739.out⟩, ⟨Kz BK754.out⟩, ⟨by repeat (first | (with_reducible first | exact HI740.out | apply IsS90.alloc | apply IsS90.drewN | apply IsS90.drew | apply IsS90.set_1 | apply IsS90.set_2 | refine IsS90.far ?_ NB740_739.out _ | refine IsS90.far ?_ NB740_754.out _) | exact HI740.out)⟩, ⟨by repeat (first | (with_reducible first | exact HB.out | apply below_alloc | apply pw_below_drewN | apply below_drew1 | refine below_set ?_ (IsS90.ge HI740.out) | refine below_set ?_ GE739.out | refine below_set ?_ GE754.out) | exact HB.out)⟩⟩
  ·replace c15 := Bool.eq_false_iff.mpr c15
   subst c15
   rw [if_neg Bool.false_ne_true] at H; have H' := am H; clear H; obtain ⟨Ao19, co19, eo19⟩ := Kd.R_slice HO743.out; subst eo19
   go_wp2_with (first | ((with_reducible refine gate_callee (f := 96) rfl ?_); refine gL (some 21) Try.func96 #[.slice Ao19 t741.length co19] ?_; (with_reducible refine (spec_biKeys.calls k _ _ t741 false _ ?side1 ?side2 A14.out).mono ?_); (case side1 => refine (Kd.R_reads' (e := 9) (base := w.heap.size) (ok := fun k_ => True) (n := t741.length) (c := co19) ?_).2.2; exact (Rz (Kd.R_mono (Kd.R_far (p := ⟨gb754, 3, none⟩) (Kd.R_far (p := ⟨gb754, 2, none⟩) (Kd.R_far (p := ⟨gb754, 1, none⟩) (Kd.R_far (p := ⟨gb754, 0, none⟩) (Kd.R_types HO743.out BK754.out (by decide)) (fun _ hk => hk.2) (.int .i64 t746)) (fun _ hk => hk.2) (.int .i64 t747)) (fun _ hk => hk.2) (.int .i64 t748)) (fun _ hk => hk.2) (.slice Ao13 t749.length co13)) (fun _ h_ => h_.1)))); (case side2 => exact (Kd.R_reads' HO743.out).2.1); rintro e w' ⟨rfl, ⟨nd, rfl⟩⟩; refine ⟨_, rfl, ?_⟩))
   go_meet
   case rel => exact ⟨_, (false), (t752), (t753), wZ, H', ⟨by first | omega | exact Nat.le_refl _⟩, ⟨Rz (Kd.R_mono (Kd.R_far (p := ⟨gb754, 3, none⟩) (Kd.R_far (p := ⟨gb754, 2, none⟩) (Kd.R_far (p := ⟨gb754, 1, none⟩) (Kd.R_far (p := ⟨gb754, 0, none⟩) (Kd.R_types HO743.out BK754.out (by decide)) (fun _ hk => hk.2) (.int .i64 t746)) (fun _ hk => hk.2) (.int .i64 t747)) (fun _ hk => hk.2) (.int .i64 t748)) (fun _ hk => hk.2) (.slice Ao13 t749.length co13)) (fun _ hk => trivial))⟩, ⟨Rz (Kd.R_mono (Kd.R_far (p := ⟨gb754, 3, none⟩) (Kd.R_far (p := ⟨gb754, 2, none⟩) (Kd.R_far (p := ⟨gb754, 1, none⟩) (Kd.R_far (p := ⟨gb754, 0, none⟩) (Kd.R_types HO751.out BK754.out (by decide)) (fun _ hk => hk.2) (.int .i64 t746)) (fun _ hk => hk.2) (.int .i64 t747)) (fun _ hk => hk.2) (.int .i64 t748)) (fun _ hk => hk.2) (.slice Ao13 t749.length co13)) (fun _ hk => trivial))⟩, ⟨by refine bp ?_; refine blk_far ?_ NB739_754.out _; refine bp ?_; refine blk_far ?_ NB739_754.out _; refine bp ?_; refine blk_far ?_ NB739_754.out _; refine bp ?_; refine blk_far ?_ NB739_754.out _; refine bp ?_; exact BK739.out⟩, ⟨by refine bp ?_; refine blk_put (cs := #[.int .i64 t746, .int .i64 t747, .int .i64 t748, .slice none 0 0]) ?_ 3 _ rfl; refine bp ?_; refine blk_put (cs := #[.int .i64 t746, .int .i64 t747, .int .i64 0, .slice none 0 0]) ?_ 2 _ rfl; refine bp ?_; refine blk_put (cs := #[.int .i64 t746, .int .i64 0, .int .i64 0, .slice none 0 0]) ?_ 1 _ rfl; refine bp ?_; refine blk_put (cs := #[.int .i64 0, .int .i64 0, .int .i64 0, .slice none 0 0]) ?_ 0 _ rfl; refine bp ?_; exact BK754.out⟩, ⟨by repeat (first | (with_reducible first | exact HI740.out | apply IsS90.alloc | apply IsS90.drewN | apply IsS90.drew | apply IsS90.set_1 | apply IsS90.set_2 | refine IsS90.far ?_ NB740_739.out _ | refine IsS90.far ?_ NB740_754.out _) | exact HI740.out)⟩, ⟨by repeat (first | (with_reducible first | exact HB.out | apply below_alloc | apply pw_below_drewN | apply below_drew1 | refine below_set ?_ (IsS90.ge HI740.out) | refine below_set ?_ GE739.out | refine below_set ?_ GE754.out) | exact HB.out)⟩⟩
 case rest =>
  clear HC4
  try clear c1
  try clear p2
  try clear c4
  try clear c7
  try clear c9
  try clear c10
  try clear c11
  try clear c12
  try clear c15
  obtain ⟨kq, x26_3, x741001_3, x741002_3, rfl, HA, HJ3, HO_6, HO_755003, BK739, BK754, HI740, HB⟩ := hcut; cases kq with
  | zero => exact absurd HA.out (by simp [spec_DrawPrintFalse.j0])
  | succ kj3 =>
   have H := HA.out; clear HA
   simp only [spec_DrawPrintFalse.j0] at H
   have HC20 := am H; clear H
   go_upto_if 26 with (fail)
   go_cut [] (fun wc => ∃ (kq : Nat) (x755000_19 : Int) (x755001_19 : Int) (x755002_19 : Int) (x755003_19 : List Int) (u755003 : Value), Aside0 (spec_DrawPrintFalse.j2 kq t741 l0 x741001_3 x741002_3 x755000_19 x755001_19 x755002_19 x755003_19 = some (r1, r2, r3, r4, r5, r6)) ∧ Aside0 (kq ≤ kj3) ∧ Aside0 (Kd.R Kd.string 9 wc w.heap.size (fun _ => True) v742 t741) ∧ Aside0 (Kd.R (Kd.int .i64) 3 wc w.heap.size (fun _ => True) u755003 x755003_19) ∧ Aside0 (wc.heap[gb739]? = some (.cells #[.int .i64 0, .int .i64 0, .int .i64 0, (.slice none 0 0)] 71 (0, 0))) ∧ Aside0 (wc.heap[gb754]? = some (.cells #[.int .i64 x755000_19, .int .i64 x755001_19, .int .i64 x755002_19, u755003] 71 (0, 0))) ∧ Aside0 (IsS90 w wc gb740 l0 x741001_3 x741002_3) ∧ Aside0 (Below w.heap.size w wc))
   case first =>
    have H := HC20.out; clear HC20
    by_cases c21 : x26_3 = true
    ·subst c21
     rw [if_pos rfl] at H; have H' := am H; clear H; obtain ⟨Ao22, co22, eo22⟩ := Kd.R_slice HO_6.out; subst eo22
     go_wp2
     go_loopg [8, 29] kj3 (fun kq v8 v29 w' => ∃ (x8_2 : List Int) (x29_2 : Int), v29 = .int .i64 x29_2 ∧ Aside0 (spec_DrawPrintFalse.l0 kq t741 x8_2 t741 (t741.length : Int) x29_2 l0 x741001_3 x741002_3 t746 t747 t748 t749 = some (r1, r2, r3, r4, r5, r6)) ∧ Aside0 (kq ≤ kj3) ∧ Aside0 (Kd.R Kd.string 9 w' w.heap.size (fun _ => True) (.slice Ao22 t741.length co22) t741) ∧ Aside0 (Kd.R (Kd.int .i64) 3 w' w.heap.size (fun k_ => some k_ ≠ ((.slice Ao13 t749.length co13) : Value).ownBlock) v8 x8_2) ∧ Aside0 (Kd.R Kd.string 9 w' w.heap.size (fun _ => True) (.slice Ao22 t741.length co22) t741) ∧ Aside0 (Kd.R (Kd.int .i64) 3 w' w.heap.size (fun k_ => some k_ ≠ (v8 : Value).ownBlock) (.slice Ao13 t749.length co13) t749) ∧ Aside0 (w'.heap[gb739]? = some (.cells #[.int .i64 0, .int .i64 0, .int .i64 0, (.slice none 0 0)] 71 (0, 0))) ∧ Aside0 (w'.heap[gb754]? = some (.cells #[.int .i64 t746, .int .i64 t747, .int .i64 t748, (.slice Ao13 t749.length co13)] 71 (0, 0))) ∧ Aside0 (IsS90 w w' gb740 l0 x741001_3 x741002_3) ∧ Aside0 (Below w.heap.size w w'))
     case atStart => exact ⟨(([] : List Int)), (0), wZ, H', ⟨Nat.le_refl _⟩, ⟨Rz HO_6.out⟩, ⟨nZ⟩, ⟨Rz HO_6.out⟩, ⟨Rz (Kd.R_mono HO_755003.out (fun _ hk => (by simp [Value.ownBlock])))⟩, ⟨Kz BK739.out⟩, ⟨Kz BK754.out⟩, ⟨by repeat (first | (with_reducible first | exact HI740.out | apply IsS90.alloc | apply IsS90.drewN | apply IsS90.drew | apply IsS90.set_1 | apply IsS90.set_2 | refine IsS90.far ?_ NB740_739.out _ | refine IsS90.far ?_ NB740_754.out _) | exact HI740.out)⟩, ⟨by repeat (first | (with_reducible first | exact HB.out | apply below_alloc | apply pw_below_drewN | apply below_drew1 | refine below_set ?_ (IsS90.ge HI740.out) | refine below_set ?_ GE739.out | refine below_set ?_ GE754.out) | exact HB.out)⟩⟩
     case round =>
      clear H'
      try clear c1
      try clear c2
      try clear p2
      try clear c4
      try clear c7
      try clear c9
      try clear c10
      try clear c11
      try clear c12
      try clear c15
      try clear c21
      try clear p2
      obtain ⟨x8_2, x29_2, rfl, HA, HK2, HO_6, HO_8, HO_27, HO_755003, BK739, BK754, HI740, HB⟩ := hrel; cases gk with
      | zero => exact absurd HA.out (by simp [spec_DrawPrintFalse.l0])
      | succ k2 =>
       have H := HA.out; clear HA
       simp only [spec_DrawPrintFalse.l0] at H
       by_cases c23 : x29_2 < (t741.length : Int)
       ·rw [if_pos c23] at H
        have c23b0 : decide (x29_2 < (t741.length : Int)) = true := decide_eq_true c23; clear c23
        (first | rw [c23b0] | (simp only [i64_w, i32_w]; rw [c23b0]) | skip)
        by_cases c24 : 0 ≤ x29_2
        ·rw [if_pos c24] at H
         have c24b0 : decide (0 ≤ x29_2) = true := decide_eq_true c24; clear c24
         by_cases c25 : x29_2 < (t741.length : Int)
         ·rw [if_pos c25] at H
          have c25b0 : decide (x29_2 < (t741.length : Int)) = true := decide_eq_true c25; clear c25; obtain ⟨t760, A26, H⟩ := ob H; (try dsimp -simprocs only at H)
          by_cases c27 : x8_2.length < 17592186044416
          ·rw [if_pos c27] at H
           have LMc27 := am c27; clear c27; obtain ⟨y761, hy761⟩ : ∃ y_ : List Int, y_ = (x8_2 ++ [t760]) := ⟨_, rfl⟩
           replace H : (spec_DrawPrintFalse.l0 k2 t741 y761 t741 (t741.length : Int) (wrap64 (x29_2 + 1)) l0 x741001_3 x741002_3 t746 t747 t748 t749) = some (r1, r2, r3, r4, r5, r6) := by (try rw [hy761]); first | with_reducible exact H | exact (Option.bind_some _ _).symm.trans H | exact H
           have Ny761 := am hy761; clear hy761; have H' := am H; clear H; obtain ⟨ad759, e759, hx759_0⟩ := Kd.at_string (Kd.R_reads' HO_27.out).2.2 x29_2 dT dT; cases e759; have p759 := eT (0 ≤ (x29_2 : Int)); have q759 := eT (x29_2 < (t741.length : Int))
           go_wp2_with (first | ((with_reducible refine gate_callee (f := 119) rfl ?_); refine gL (some 35) Try.func119 #[.int .i64 3, .int .i64 2, .string (rdOf ByteArray.empty t741 x29_2)] ?_; (with_reducible refine (spec_fiPrint.calls k2 3 2 (rdOf ByteArray.empty t741 x29_2) t760 _ A26.out).mono ?_); rintro e w' ⟨rfl, ⟨nd, rfl⟩⟩; refine ⟨_, rfl, ?_⟩) | ((with_reducible refine gate_builtin (b := .append) (xs := #[.tmp 33, .tmp 36]) rfl ?_); at_builtin; refine Kd.R_append (Kd.int .i64) (w0 := w) w.heap.size rfl (.tmp 33) (.tmp 36) 24 3 (.int .i64 0) 8 rfl Try.underlying24 info3 rfl (by decide) (by omega) u8 x8_2 t760 [.int .i64 t760] (fun k_ => some k_ ≠ (.slice Ao13 t749.length co13 : Value).ownBlock) (fun _ => False) rfl rfl ?aP (fun _ hk => hk.elim) ?aF ?aO ?aB ?aS ?aL ?_; (case aP => exact rfl); (case aB => exact (by repeat (first | (with_reducible first | exact HB.out | apply below_alloc | apply pw_below_drewN | apply below_drew1 | refine below_set ?_ (IsS90.ge HI740.out) | refine below_set ?_ GE739.out | refine below_set ?_ GE754.out) | exact HB.out))); (case aF => exact (fun k_ hk => Kd.fresh' (Kd.R_lt (Rz HO_755003.out)) k_ hk)); (case aO => exact (Rz HO_8.out)); (case aS => exact (below_size (by repeat (first | (with_reducible first | exact HB.out | apply below_alloc | apply pw_below_drewN | apply below_drew1 | refine below_set ?_ (IsS90.ge HI740.out) | refine below_set ?_ GE739.out | refine below_set ?_ GE754.out) | exact HB.out)))); (case aL => have := LMc27.out; omega); intro v762 w28 ho hb hg hat; rw [← Ny761.out] at ho; have n0_ := am (Kd.R_over' (Rz HO_6.out) (Kd.R_typed (Rz HO_8.out)) (by decide) hg); have n1_ := am (Kd.R_over' (Rz HO_27.out) (Kd.R_typed (Rz HO_8.out)) (by decide) hg); have n2_ := am (Kd.R_after (ok := (fun _ => True)) (Rz (Kd.R_mono HO_755003.out (fun _ hk => ⟨trivial, hk⟩))) hg hat); have n3_ := am (blk_grown (g := gb739) (o := .cells #[.int .i64 0, .int .i64 0, .int .i64 0, .slice none 0 0] 71 (0, 0)) (Kz BK739.out) hg (Kd.R_ne HO_8.out BK739.out (by decide))); have n4_ := am (blk_grown (g := gb754) (o := .cells #[.int .i64 t746, .int .i64 t747, .int .i64 t748, .slice Ao13 t749.length co13] 71 (0, 0)) (Kz BK754.out) hg (Kd.R_ne HO_8.out BK754.out (by decide))); have n5_ := am (IsS90.grown (by repeat (first | (with_reducible first | exact HI740.out | apply IsS90.alloc | apply IsS90.drewN | apply IsS90.drew | apply IsS90.set_1 | apply IsS90.set_2 | refine IsS90.far ?_ NB740_739.out _ | refine IsS90.far ?_ NB740_754.out _) | exact HI740.out)) hg (IsS90.own_ne HI740.out HO_8.out (by decide))); have n6_ := am (hb); have n7_ := am (ho); clear HO_6 HO_27 HO_755003 BK739 BK754 HI740 HB HO_8; revert n0_ n1_ n2_ n3_ n4_ n5_ n6_ n7_; intro HO_6 HO_27 HO_755003 BK739 BK754 HI740 HB HO763; clear ho hb hg hat))
           go_roundg k2
           case measure => have := HJ3.out; have := HK2.out; omega
           case rel => exact ⟨(y761), (wrap64 (x29_2 + 1)), wZ, H', ⟨by have := HJ3.out; have := HK2.out; omega⟩, ⟨Rz HO_6.out⟩, ⟨Rz HO763.out⟩, ⟨Rz HO_27.out⟩, ⟨Rz (Kd.R_mono HO_755003.out (fun _ hk => hk.2))⟩, ⟨Kz BK739.out⟩, ⟨Kz BK754.out⟩, ⟨by repeat (first | (with_reducible first | exact HI740.out | apply IsS90.alloc | apply IsS90.drewN | apply IsS90.drew | apply IsS90.set_1 | apply IsS90.set_2 | refine IsS90.far ?_ NB740_739.out _ | refine IsS90.far ?_ NB740_754.out _) | exact HI740.out)⟩, ⟨by repeat (first | (with_reducible first | exact HB.out | apply below_alloc | apply pw_below_drewN | apply below_drew1 | refine below_set ?_ (IsS90.ge HI740.out) | refine below_set ?_ GE739.out | refine below_set ?_ GE754.out) | exact HB.out)⟩⟩
          ·rw [if_neg c27] at H
           exact absurd H (by simp)
         ·rw [if_neg c25] at H
          exact absurd H (by simp)
        ·rw [if_neg c24] at H
         exact absurd H (by simp)
       ·rw [if_neg c23] at H
        have c23b0 : decide (x29_2 < (t741.length : Int)) = false := decide_eq_false c23; clear c23
        (first | rw [c23b0] | (simp only [i64_w, i32_w]; rw [c23b0]) | skip)
        obtain ⟨⟨t764, t765, t766, t767, t770⟩, A29, H⟩ := ob H; (try dsimp -simprocs only at H)
        by_cases c30 : t770 = true
        ·subst c30
         rw [if_pos rfl] at H; have H' := am H; clear H; obtain ⟨Ao31, co31, eo31⟩ := Kd.R_slice HO_8.out; subst eo31
         go_wp2_with (first | ((with_reducible refine gate_callee (f := 108) rfl ?_); refine gL (some 46) Try.func108 #[.int .i64 3, .slice Ao22 t741.length co22, .slice Ao31 x8_2.length co31, .int .i64 (wrap64 (1 + (wrap64 ((t741.length : Int) / 2)))), .int .i64 2] ?_; (with_reducible refine (spec_rePeeled.calls k2 3 _ _ t741 _ _ x8_2 (wrap64 (1 + (wrap64 ((t741.length : Int) / 2)))) 2 t764 t765 t766 t767 true _ ?side1 ?side2 ?side3 ?side4 A29.out).mono ?_); (case side1 => exact Cz ((Kd.R_reads' HO_6.out).2.2)); (case side2 => exact (Kd.R_reads' HO_6.out).2.1); (case side3 => exact Cz ((Kd.R_reads' HO_8.out).2.2)); (case side4 => exact (Kd.R_reads' HO_8.out).2.1); rintro e w32 ⟨v768, rfl, ho0, hb⟩; refine ⟨_, rfl, ?_⟩; have n0_ := Rb HO_6 hb; have n1_ := Re HO_8 (Kd.R_base ho0) hb; have n2_ := Rb HO_27 hb; have n3_ := Re HO_755003 (Kd.R_base ho0) hb; have n4_ := am (Kd.R_lower (Kd.R_new' (Kd.R_new' ho0 (Kd.R_lt (Rz HO_8.out))) (Kd.R_lt (Rz HO_755003.out))) (below_size (by repeat (first | (with_reducible first | exact HB.out | apply below_alloc | apply pw_below_drewN | apply below_drew1 | refine below_set ?_ (IsS90.ge HI740.out) | refine below_set ?_ GE739.out | refine below_set ?_ GE754.out) | exact HB.out)))); have n5_ := Kb BK739 hb; have n6_ := Kb BK754 hb; have n7_ := am (IsS90.below (by repeat (first | (with_reducible first | exact HI740.out | apply IsS90.alloc | apply IsS90.drewN | apply IsS90.drew | apply IsS90.set_1 | apply IsS90.set_2 | refine IsS90.far ?_ NB740_739.out _ | refine IsS90.far ?_ NB740_754.out _) | exact HI740.out)) hb); have n8_ := am (below_step (by repeat (first | (with_reducible first | exact HB.out | apply below_alloc | apply pw_below_drewN | apply below_drew1 | refine below_set ?_ (IsS90.ge HI740.out) | refine below_set ?_ GE739.out | refine below_set ?_ GE754.out) | exact HB.out)) hb); clear HO_6 HO_8 HO_27 HO_755003 BK739 BK754 HI740 HB; revert n0_ n1_ n2_ n3_ n4_ n5_ n6_ n7_ n8_; intro HO_6 HO_8 HO_27 HO_755003 HO769 BK739 BK754 HI740 HB; (try clear hb); (try clear hb2); (try clear hk); (try clear hi); (try clear ho0)) | ((with_reducible refine gate_dst (N := 11) rfl ?_); refine bE 11 #[.int .i64 0, .int .i64 0, .int .i64 0, .slice none 0 0] 71 ?_; intro gb771 hg w33 hbox hb; have n0_ := Rb HO_6 hb; have n1_ := Rb HO_8 hb; have n2_ := Rb HO_27 hb; have n3_ := Rb HO_755003 hb; have n4_ := Rb HO769 hb; have n5_ := Kb BK739 hb; have n6_ := Kb BK754 hb; have n7_ := am (IsS90.below (by repeat (first | (with_reducible first | exact HI740.out | apply IsS90.alloc | apply IsS90.drewN | apply IsS90.drew | apply IsS90.set_1 | apply IsS90.set_2 | refine IsS90.far ?_ NB740_739.out _ | refine IsS90.far ?_ NB740_754.out _) | exact HI740.out)) hb); have n8_ := am (below_step (by repeat (first | (with_reducible first | exact HB.out | apply below_alloc | apply pw_below_drewN | apply below_drew1 | refine below_set ?_ (IsS90.ge HI740.out) | refine below_set ?_ GE739.out | refine below_set ?_ GE754.out) | exact HB.out)) hb); have n9_ := am (hbox); have n10_ := am ((by rw [hg]; exact (below_size (by repeat (first | (with_reducible first | exact HB.out | apply below_alloc | apply pw_below_drewN | apply below_drew1 | refine below_set ?_ (IsS90.ge HI740.out) | refine below_set ?_ GE739.out | refine below_set ?_ GE754.out) | exact HB.out))) : w.heap.size ≤ gb771)); have n11_ := am ((by rw [hg]; exact (below_size (by repeat (first | (with_reducible first | exact HB.out | apply below_alloc | apply pw_below_drewN | apply below_drew1 | refine below_set ?_ (IsS90.ge HI740.out) | refine below_set ?_ GE739.out | refine below_set ?_ GE754.out) | exact HB.out))) : w.heap.size ≤ gb771)); have n12_ := Nl BK739 hg; have n13_ := Ng BK739 hg; have n14_ := Nl BK754 hg; have n15_ := Ng BK754 hg; have n16_ := am ((by rw [hg]; exact Nat.ne_of_lt (IsS90.lt (show IsS90 w _ gb740 l0 x741001_3 x741002_3 from by repeat (first | (with_reducible first | exact HI740.out | apply IsS90.alloc | apply IsS90.drewN | apply IsS90.drew | apply IsS90.set_1 | apply IsS90.set_2 | refine IsS90.far ?_ NB740_739.out _ | refine IsS90.far ?_ NB740_754.out _) | exact HI740.out))) : gb740 ≠ gb771)); have n17_ := am ((by rw [hg]; exact Nat.ne_of_gt (IsS90.lt (show IsS90 w _ gb740 l0 x741001_3 x741002_3 from by repeat (first | (with_reducible first | exact HI740.out | apply IsS90.alloc | apply IsS90.drewN | apply IsS90.drew | apply IsS90.set_1 | apply IsS90.set_2 | refine IsS90.far ?_ NB740_739.out _ | refine IsS90.far ?_ NB740_754.out _) | exact HI740.out))) : gb771 ≠ gb740)); clear HO_6 HO_8 HO_27 HO_755003 HO769 BK739 BK754 HI740 HB; revert n0_ n1_ n2_ n3_ n4_ n5_ n6_ n7_ n8_ n9_ n10_ n11_ n12_ n13_ n14_ n15_ n16_ n17_; intro HO_6 HO_8 HO_27 HO_755003 HO769 BK739 BK754 HI740 HB BK771 GW771 GE771 NB739_771 NB771_739 NB754_771 NB771_754 NB740_771 NB771_740; clear hb hbox hg; have hnb34 := NB771_739.out; have hnc34 := NB739_771.out; have hnb35 := NB771_754.out; have hnc35 := NB754_771.out; have hnb36 := NB771_740.out; have hnc36 := NB740_771.out; obtain ⟨hcz37_0, hcz37_1, hcz37_2, hcz37_3, hfz37_0, hfz37_1, hfz37_2, hfz37_3⟩ := cf4 (w := w33) BK771; obtain ⟨Ao38, co38, eo38⟩ := Kd.R_slice HO769.out; subst eo38; have hnb39 := NB754_739.out; have hnc39 := NB739_754.out; have hnb40 := NB754_740.out; have hnc40 := NB740_754.out; obtain ⟨hcz41_0, hcz41_1, hcz41_2, hcz41_3, hfz41_0, hfz41_1, hfz41_2, hfz41_3⟩ := cf4 (w := w33) BK754))
         go_meet
         case rel => exact ⟨_, (t764), (t765), (t766), (t767), (.slice Ao38 t767.length co38), H', ⟨by have := HJ3.out; have := HK2.out; first | omega | exact Nat.le_refl _⟩, ⟨Rz (Kd.R_mono (Kd.R_far (p := ⟨gb754, 3, none⟩) (Kd.R_far (p := ⟨gb754, 2, none⟩) (Kd.R_far (p := ⟨gb754, 1, none⟩) (Kd.R_far (p := ⟨gb754, 0, none⟩) (Kd.R_far (p := ⟨gb771, 3, none⟩) (Kd.R_far (p := ⟨gb771, 2, none⟩) (Kd.R_far (p := ⟨gb771, 1, none⟩) (Kd.R_far (p := ⟨gb771, 0, none⟩) (Kd.R_types (Kd.R_types HO_6.out BK771.out (by decide)) BK754.out (by decide)) (fun _ hk => hk.1.2) (.int .i64 t764)) (fun _ hk => hk.1.2) (.int .i64 t765)) (fun _ hk => hk.1.2) (.int .i64 t766)) (fun _ hk => hk.1.2) (.slice Ao38 t767.length co38)) (fun _ hk => hk.2) (.int .i64 t764)) (fun _ hk => hk.2) (.int .i64 t765)) (fun _ hk => hk.2) (.int .i64 t766)) (fun _ hk => hk.2) (.slice Ao38 t767.length co38)) (fun _ hk => trivial))⟩, ⟨Rz (Kd.R_mono (Kd.R_far (p := ⟨gb754, 3, none⟩) (Kd.R_far (p := ⟨gb754, 2, none⟩) (Kd.R_far (p := ⟨gb754, 1, none⟩) (Kd.R_far (p := ⟨gb754, 0, none⟩) (Kd.R_far (p := ⟨gb771, 3, none⟩) (Kd.R_far (p := ⟨gb771, 2, none⟩) (Kd.R_far (p := ⟨gb771, 1, none⟩) (Kd.R_far (p := ⟨gb771, 0, none⟩) (Kd.R_types (Kd.R_types HO769.out BK771.out (by decide)) BK754.out (by decide)) (fun _ hk => hk.1.2) (.int .i64 t764)) (fun _ hk => hk.1.2) (.int .i64 t765)) (fun _ hk => hk.1.2) (.int .i64 t766)) (fun _ hk => hk.1.2) (.slice Ao38 t767.length co38)) (fun _ hk => hk.2) (.int .i64 t764)) (fun _ hk => hk.2) (.int .i64 t765)) (fun _ hk => hk.2) (.int .i64 t766)) (fun _ hk => hk.2) (.slice Ao38 t767.length co38)) (fun _ hk => trivial))⟩, ⟨by refine bp ?_; refine blk_far ?_ NB739_754.out _; refine bp ?_; refine blk_far ?_ NB739_754.out _; refine bp ?_; refine blk_far ?_ NB739_754.out _; refine bp ?_; refine blk_far ?_ NB739_754.out _; refine bp ?_; refine blk_far ?_ NB739_771.out _; refine bp ?_; refine blk_far ?_ NB739_771.out _; refine bp ?_; refine blk_far ?_ NB739_771.out _; refine bp ?_; refine blk_far ?_ NB739_771.out _; refine bp ?_; exact BK739.out⟩, ⟨by refine bp ?_; refine blk_put (cs := #[.int .i64 t764, .int .i64 t765, .int .i64 t766, .slice Ao13 t749.length co13]) ?_ 3 _ rfl; refine bp ?_; refine blk_put (cs := #[.int .i64 t764, .int .i64 t765, .int .i64 t748, .slice Ao13 t749.length co13]) ?_ 2 _ rfl; refine bp ?_; refine blk_put (cs := #[.int .i64 t764, .int .i64 t747, .int .i64 t748, .slice Ao13 t749.length co13]) ?_ 1 _ rfl; refine bp ?_; refine blk_put (cs := #[.int .i64 t746, .int .i64 t747, .int .i64 t748, .slice Ao13 t749.length co13]) ?_ 0 _ rfl; refine bp ?_; refine blk_far ?_ NB754_771.out _; refine bp ?_; refine blk_far ?_ NB754_771.out _; refine bp ?_; refine blk_far ?_ NB754_771.out _; refine bp ?_; refine blk_far ?_ NB754_771.out _; refine bp ?_; exact BK754.out⟩, ⟨by repeat (first | (with_reducible first | exact HI740.out | apply IsS90.alloc | apply IsS90.drewN | apply IsS90.drew | apply IsS90.set_1 | apply IsS90.set_2 | refine IsS90.far ?_ NB740_739.out _ | refine IsS90.far ?_ NB740_754.out _ | refine IsS90.far ?_ NB740_771.out _) | exact HI740.out)⟩, ⟨by repeat (first | (with_reducible first | exact HB.out | apply below_alloc | apply pw_below_drewN | apply below_drew1 | refine below_set ?_ (IsS90.ge HI740.out) | refine below_set ?_ GE739.out | refine below_set ?_ GE754.out | refine below_set ?_ GE771.out) | exact HB.out)⟩⟩
        ·replace c30 := Bool.eq_false_iff.mpr c30
         subst c30
         rw [if_neg Bool.false_ne_true] at H; have H' := am H; clear H; obtain ⟨Ao42, co42, eo42⟩ := Kd.R_slice HO_8.out; subst eo42
         go_wp2_with (first | ((with_reducible refine gate_callee (f := 108) rfl ?_); refine gL (some 46) Try.func108 #[.int .i64 3, .slice Ao22 t741.length co22, .slice Ao42 x8_2.length co42, .int .i64 (wrap64 (1 + (wrap64 ((t741.length : Int) / 2)))), .int .i64 2] ?_; (with_reducible refine (spec_rePeeled.calls k2 3 _ _ t741 _ _ x8_2 (wrap64 (1 + (wrap64 ((t741.length : Int) / 2)))) 2 t764 t765 t766 t767 false _ ?side1 ?side2 ?side3 ?side4 A29.out).mono ?_); (case side1 => exact Cz ((Kd.R_reads' HO_6.out).2.2)); (case side2 => exact (Kd.R_reads' HO_6.out).2.1); (case side3 => exact Cz ((Kd.R_reads' HO_8.out).2.2)); (case side4 => exact (Kd.R_reads' HO_8.out).2.1); rintro e w43 ⟨v768, rfl, ho0, hb⟩; refine ⟨_, rfl, ?_⟩; have n0_ := Rb HO_6 hb; have n1_ := Re HO_8 (Kd.R_base ho0) hb; have n2_ := Rb HO_27 hb; have n3_ := Re HO_755003 (Kd.R_base ho0) hb; have n4_ := am (Kd.R_lower (Kd.R_new' (Kd.R_new' ho0 (Kd.R_lt (Rz HO_8.out))) (Kd.R_lt (Rz HO_755003.out))) (below_size (by repeat (first | (with_reducible first | exact HB.out | apply below_alloc | apply pw_below_drewN | apply below_drew1 | refine below_set ?_ (IsS90.ge HI740.out) | refine below_set ?_ GE739.out | refine below_set ?_ GE754.out) | exact HB.out)))); have n5_ := Kb BK739 hb; have n6_ := Kb BK754 hb; have n7_ := am (IsS90.below (by repeat (first | (with_reducible first | exact HI740.out | apply IsS90.alloc | apply IsS90.drewN | apply IsS90.drew | apply IsS90.set_1 | apply IsS90.set_2 | refine IsS90.far ?_ NB740_739.out _ | refine IsS90.far ?_ NB740_754.out _) | exact HI740.out)) hb); have n8_ := am (below_step (by repeat (first | (with_reducible first | exact HB.out | apply below_alloc | apply pw_below_drewN | apply below_drew1 | refine below_set ?_ (IsS90.ge HI740.out) | refine below_set ?_ GE739.out | refine below_set ?_ GE754.out) | exact HB.out)) hb); clear HO_6 HO_8 HO_27 HO_755003 BK739 BK754 HI740 HB; revert n0_ n1_ n2_ n3_ n4_ n5_ n6_ n7_ n8_; intro HO_6 HO_8 HO_27 HO_755003 HO769 BK739 BK754 HI740 HB; (try clear hb); (try clear hb2); (try clear hk); (try clear hi); (try clear ho0)) | ((with_reducible refine gate_dst (N := 11) rfl ?_); refine bE 11 #[.int .i64 0, .int .i64 0, .int .i64 0, .slice none 0 0] 71 ?_; intro gb771 hg w44 hbox hb; have n0_ := Rb HO_6 hb; have n1_ := Rb HO_8 hb; have n2_ := Rb HO_27 hb; have n3_ := Rb HO_755003 hb; have n4_ := Rb HO769 hb; have n5_ := Kb BK739 hb; have n6_ := Kb BK754 hb; have n7_ := am (IsS90.below (by repeat (first | (with_reducible first | exact HI740.out | apply IsS90.alloc | apply IsS90.drewN | apply IsS90.drew | apply IsS90.set_1 | apply IsS90.set_2 | refine IsS90.far ?_ NB740_739.out _ | refine IsS90.far ?_ NB740_754.out _) | exact HI740.out)) hb); have n8_ := am (below_step (by repeat (first | (with_reducible first | exact HB.out | apply below_alloc | apply pw_below_drewN | apply below_drew1 | refine below_set ?_ (IsS90.ge HI740.out) | refine below_set ?_ GE739.out | refine below_set ?_ GE754.out) | exact HB.out)) hb); have n9_ := am (hbox); have n10_ := am ((by rw [hg]; exact (below_size (by repeat (first | (with_reducible first | exact HB.out | apply below_alloc | apply pw_below_drewN | apply below_drew1 | refine below_set ?_ (IsS90.ge HI740.out) | refine below_set ?_ GE739.out | refine below_set ?_ GE754.out) | exact HB.out))) : w.heap.size ≤ gb771)); have n11_ := am ((by rw [hg]; exact (below_size (by repeat (first | (with_reducible first | exact HB.out | apply below_alloc | apply pw_below_drewN | apply below_drew1 | refine below_set ?_ (IsS90.ge HI740.out) | refine below_set ?_ GE739.out | refine below_set ?_ GE754.out) | exact HB.out))) : w.heap.size ≤ gb771)); have n12_ := Nl BK739 hg; have n13_ := Ng BK739 hg; have n14_ := Nl BK754 hg; have n15_ := Ng BK754 hg; have n16_ := am ((by rw [hg]; exact Nat.ne_of_lt (IsS90.lt (show IsS90 w _ gb740 l0 x741001_3 x741002_3 from by repeat (first | (with_reducible first | exact HI740.out | apply IsS90.alloc | apply IsS90.drewN | apply IsS90.drew | apply IsS90.set_1 | apply IsS90.set_2 | refine IsS90.far ?_ NB740_739.out _ | refine IsS90.far ?_ NB740_754.out _) | exact HI740.out))) : gb740 ≠ gb771)); have n17_ := am ((by rw [hg]; exact Nat.ne_of_gt (IsS90.lt (show IsS90 w _ gb740 l0 x741001_3 x741002_3 from by repeat (first | (with_reducible first | exact HI740.out | apply IsS90.alloc | apply IsS90.drewN | apply IsS90.drew | apply IsS90.set_1 | apply IsS90.set_2 | refine IsS90.far ?_ NB740_739.out _ | refine IsS90.far ?_ NB740_754.out _) | exact HI740.out))) : gb771 ≠ gb740)); clear HO_6 HO_8 HO_27 HO_755003 HO769 BK739 BK754 HI740 HB; revert n0_ n1_ n2_ n3_ n4_ n5_ n6_ n7_ n8_ n9_ n10_ n11_ n12_ n13_ n14_ n15_ n16_ n17_; intro HO_6 HO_8 HO_27 HO_755003 HO769 BK739 BK754 HI740 HB BK771 GW771 GE771 NB739_771 NB771_739 NB754_771 NB771_754 NB740_771 NB771_740; clear hb hbox hg; have hnb45 := NB771_739.out; have hnc45 := NB739_771.out; have hnb46 := NB771_754.out; have hnc46 := NB754_771.out; have hnb47 := NB771_740.out; have hnc47 := NB740_771.out; obtain ⟨hcz48_0, hcz48_1, hcz48_2, hcz48_3, hfz48_0, hfz48_1, hfz48_2, hfz48_3⟩ := cf4 (w := w44) BK771; obtain ⟨Ao49, co49, eo49⟩ := Kd.R_slice HO769.out; subst eo49))
         go_meet
         case rel => exact ⟨_, (t746), (t747), (t748), (t749), (.slice Ao13 t749.length co13), H', ⟨by have := HJ3.out; have := HK2.out; first | omega | exact Nat.le_refl _⟩, ⟨Rz (Kd.R_mono (Kd.R_far (p := ⟨gb771, 3, none⟩) (Kd.R_far (p := ⟨gb771, 2, none⟩) (Kd.R_far (p := ⟨gb771, 1, none⟩) (Kd.R_far (p := ⟨gb771, 0, none⟩) (Kd.R_types HO_6.out BK771.out (by decide)) (fun _ hk => hk.2) (.int .i64 t764)) (fun _ hk => hk.2) (.int .i64 t765)) (fun _ hk => hk.2) (.int .i64 t766)) (fun _ hk => hk.2) (.slice Ao49 t767.length co49)) (fun _ hk => trivial))⟩, ⟨Rz (Kd.R_mono (Kd.R_far (p := ⟨gb771, 3, none⟩) (Kd.R_far (p := ⟨gb771, 2, none⟩) (Kd.R_far (p := ⟨gb771, 1, none⟩) (Kd.R_far (p := ⟨gb771, 0, none⟩) (Kd.R_types HO_755003.out BK771.out (by decide)) (fun _ hk => hk.2) (.int .i64 t764)) (fun _ hk => hk.2) (.int .i64 t765)) (fun _ hk => hk.2) (.int .i64 t766)) (fun _ hk => hk.2) (.slice Ao49 t767.length co49)) (fun _ hk => trivial))⟩, ⟨by refine bp ?_; refine blk_far ?_ NB739_771.out _; refine bp ?_; refine blk_far ?_ NB739_771.out _; refine bp ?_; refine blk_far ?_ NB739_771.out _; refine bp ?_; refine blk_far ?_ NB739_771.out _; refine bp ?_; exact BK739.out⟩, ⟨by refine bp ?_; refine blk_far ?_ NB754_771.out _; refine bp ?_; refine blk_far ?_ NB754_771.out _; refine bp ?_; refine blk_far ?_ NB754_771.out _; refine bp ?_; refine blk_far ?_ NB754_771.out _; refine bp ?_; exact BK754.out⟩, ⟨by repeat (first | (with_reducible first | exact HI740.out | apply IsS90.alloc | apply IsS90.drewN | apply IsS90.drew | apply IsS90.set_1 | apply IsS90.set_2 | refine IsS90.far ?_ NB740_739.out _ | refine IsS90.far ?_ NB740_754.out _ | refine IsS90.far ?_ NB740_771.out _) | exact HI740.out)⟩, ⟨by repeat (first | (with_reducible first | exact HB.out | apply below_alloc | apply pw_below_drewN | apply below_drew1 | refine below_set ?_ (IsS90.ge HI740.out) | refine below_set ?_ GE739.out | refine below_set ?_ GE754.out | refine below_set ?_ GE771.out) | exact HB.out)⟩⟩
    ·replace c21 := Bool.eq_false_iff.mpr c21
     subst c21
     rw [if_neg Bool.false_ne_true] at H; have H' := am H; clear H
     go_wp2
     go_meet
     case rel => exact ⟨_, (t746), (t747), (t748), (t749), (.slice Ao13 t749.length co13), H', ⟨by have := HJ3.out; first | omega | exact Nat.le_refl _⟩, ⟨Rz HO_6.out⟩, ⟨Rz HO_755003.out⟩, ⟨Kz BK739.out⟩, ⟨Kz BK754.out⟩, ⟨by repeat (first | (with_reducible first | exact HI740.out | apply IsS90.alloc | apply IsS90.drewN | apply IsS90.drew | apply IsS90.set_1 | apply IsS90.set_2 | refine IsS90.far ?_ NB740_739.out _ | refine IsS90.far ?_ NB740_754.out _) | exact HI740.out)⟩, ⟨by repeat (first | (with_reducible first | exact HB.out | apply below_alloc | apply pw_below_drewN | apply below_drew1 | refine below_set ?_ (IsS90.ge HI740.out) | refine below_set ?_ GE739.out | refine below_set ?_ GE754.out) | exact HB.out)⟩⟩
   case rest =>
    clear HC20
    try clear c1
    try clear c2
    try clear p2
    try clear c3
    try clear c4
    try clear p6
    try clear c7
    try clear p7
    try clear q7
    try clear hx7
    try clear c9
    try clear c10
    try clear c11
    try clear c12
    try clear c15
    try clear c21
    try clear c23
    try clear c23b0
    try clear c24
    try clear c24b0
    try clear c25
    try clear c25b0
    try clear c27
    try clear c30
    try clear c34
    try clear c35
    try clear c36
    try clear c39
    try clear c40
    try clear c45
    try clear c46
    try clear c47
    try clear hx759_0
    try clear p2
    try clear p759
    try clear q759
    obtain ⟨kq, x755000_19, x755001_19, x755002_19, x755003_19, u755003, HA, HJ19, HO_6, HO_755003, BK739, BK754, HI740, HB⟩ := hcut; cases kq with
    | zero => exact absurd HA.out (by simp [spec_DrawPrintFalse.j2])
    | succ kj19 =>
     have H := HA.out; clear HA
     simp only [spec_DrawPrintFalse.j2] at H
     obtain ⟨⟨t772, t775, t776⟩, A50, H⟩ := ob H; (try dsimp -simprocs only at H)
     simp only [Option.some.injEq, Prod.mk.injEq] at H
     obtain ⟨rfl, rfl, rfl, rfl, rfl, rfl⟩ := H
     try go_wp2
     have n0_ := am (Kd.R_drew HO_6.out); have n1_ := am (Kd.R_drew HO_755003.out); have n2_ := am (blk_drew BK739.out); have n3_ := am (blk_drew BK754.out); have n4_ := am (IsS90.drew HI740.out); have n5_ := am (below_drew1 HB.out); clear HO_6 HO_755003 BK739 BK754 HI740 HB; revert n0_ n1_ n2_ n3_ n4_ n5_; intro HO_6 HO_755003 BK739 BK754 HI740 HB; obtain ⟨Ao52, co52, eo52⟩ := Kd.R_slice HO_6.out
     (first | subst eo52 | (injection eo52 with f1_ f2_ f3_; have f4_ := f1_.symm; have f5_ := f3_.symm; clear f1_ f2_ f3_; subst f4_; subst f5_))
     refine start_ (n := 8) (S := fun w' => w'.cell? ⟨gb754, 0, none⟩ = some (.int .i64 x755000_19) ∧ w'.cell? ⟨gb754, 1, none⟩ = some (.int .i64 x755001_19) ∧ w'.cell? ⟨gb754, 2, none⟩ = some (.int .i64 x755002_19) ∧ w'.cell? ⟨gb754, 3, none⟩ = some (u755003)) (ds := []) (bA 8 0) (by kernel_rfl) rfl rfl ⟨cz BK754 0, cz BK754 1, cz BK754 2, cz BK754 3⟩ (fun hHeld => ?_); refine with_tabW spec_DrawPrintFalse.tab14 spec_DrawPrintFalse.bits14 (fun HT_ HW_ => ?_); generalize wc.drew = w51 at HO_6 HO_755003 BK739 BK754 HI740 HB hHeld ⊢; refine pZ 1 (some 52) (bA 8 2) HT_.out ?_; refine pZ 2 (some 53) (bA 8 6) HT_.out ?_; refine pZ 3 (some 54) (bA 8 14) HT_.out ?_; refine tZ4 0 (some 51) (bA 8 15) HT_.out HW_.out hHeld ?_; refine oZ 4 (some 55) (bA 8 31) HT_.out (fun K hK => ?_); refine gZ Try.func122 #[.pointer (some ⟨gb740, 0, none⟩), .slice Ao52 t741.length co52] ?_
     with_reducible refine (spec_l1Cur_texts.calls kj19 gb740 l0 x741001_3 x741002_3 _ _ t741 t772 t775 t776 w _ ?side1 ?side2 ?side3 ?side4 ?side5 A50.out).mono ?_
     (case side1 => repeat (first | (with_reducible first | exact HI740.out | apply IsS90.alloc | apply IsS90.drewN | apply IsS90.drew | apply IsS90.set_1 | apply IsS90.set_2 | refine IsS90.far ?_ NB740_739.out _ | refine IsS90.far ?_ NB740_754.out _) | exact HI740.out))
     (case side2 => repeat (first | (with_reducible first | exact HB.out | apply below_alloc | apply pw_below_drewN | apply below_drew1 | refine below_set ?_ (IsS90.ge HI740.out) | refine below_set ?_ GE739.out | refine below_set ?_ GE754.out) | exact HB.out))
     (case side3 => exact Cz ((Kd.R_reads' HO_6.out).2.2))
     (case side4 => exact (Kd.R_reads' HO_6.out).2.1)
     (case side5 => exact far_slice (IsS90.own_ne HI740.out HO_6.out (by decide)))
     rintro e w53 ⟨v773, rfl, ho0, hi, hb, hk⟩; refine ⟨_, rfl, ?_⟩; have n0_ := am (Kd.R_mono (Kd.R_told (Kd.R_oldK (IsS90.apart (show IsS90 w _ gb740 l0 x741001_3 x741002_3 from by repeat (first | (with_reducible first | exact HI740.out | apply IsS90.alloc | apply IsS90.drewN | apply IsS90.drew | apply IsS90.set_1 | apply IsS90.set_2 | refine IsS90.far ?_ NB740_739.out _ | refine IsS90.far ?_ NB740_754.out _) | exact HI740.out)) (Rz HO_6.out) (by decide)) hk) (Kd.R_base ho0)) (fun _ h_ => h_.1)); have n1_ := am (Kd.R_mono (Kd.R_keep (IsS90.apart (show IsS90 w _ gb740 l0 x741001_3 x741002_3 from by repeat (first | (with_reducible first | exact HI740.out | apply IsS90.alloc | apply IsS90.drewN | apply IsS90.drew | apply IsS90.set_1 | apply IsS90.set_2 | refine IsS90.far ?_ NB740_739.out _ | refine IsS90.far ?_ NB740_754.out _) | exact HI740.out)) (Rz HO_755003.out) (by decide)) hk (fun _ h => h.2)) (fun _ h => h.1)); have n2_ := am (KeepBut.blk hk (g' := gb739) (o := .cells #[.int .i64 0, .int .i64 0, .int .i64 0, .slice none 0 0] 71 (0, 0)) (Kz BK739.out) NB739_740.out (by simp)); have n3_ := am (KeepBut.blk hk (g' := gb754) (o := .cells #[.int .i64 x755000_19, .int .i64 x755001_19, .int .i64 x755002_19, u755003] 71 (0, 0)) (Kz BK754.out) NB754_740.out (by simp)); have n4_ := am (Kd.R_lower (Kd.R_new' ho0 (Kd.R_lt (Rz HO_6.out))) (below_size (by repeat (first | (with_reducible first | exact HB.out | apply below_alloc | apply pw_below_drewN | apply below_drew1 | refine below_set ?_ (IsS90.ge HI740.out) | refine below_set ?_ GE739.out | refine below_set ?_ GE754.out) | exact HB.out)))); have n5_ := am (hb); have n6_ := am (hi); clear HO_6 HO_755003 BK739 BK754 HB HI740; revert n0_ n1_ n2_ n3_ n4_ n5_ n6_; intro HO_6 HO_755003 BK739 BK754 HO774 HB HI740
     (try clear hb)
     (try clear hb2)
     (try clear hk)
     (try clear hi)
     (try clear ho0)
     obtain ⟨Ao57, co57, eo57⟩ := Kd.R_slice HO_755003.out
     (first | subst eo57 | (injection eo57 with f1_ f2_ f3_; have f4_ := f1_.symm; have f5_ := f3_.symm; clear f1_ f2_ f3_; subst f4_; subst f5_))
     refine hK.out _ _ ⟨cz BK754 0, cz BK754 1, cz BK754 2, cz BK754 3⟩ (fun hHeld => ?_); clear hK K; refine norm_ (a' := ?_) ?_ ?_; rotate_left; show Act.put _ (some 55) _ = _; simp only [aP, i64_w, i32_w]; rfl; refine oZ 5 none (bA 8 63) HT_.out (fun K hK => ?_); have hs54 : w53.cell? ⟨gb739, 0, none⟩ = some (.int .i64 0) := cz BK739 0; have hfs54 := blk_frozen BK739.out 0; have hns54_1 := NB754_739.out; have hms54_1 := NB739_754.out; have hs55 : w53.cell? ⟨gb739, 1, none⟩ = some (.int .i64 0) := cz BK739 1; have hfs55 := blk_frozen BK739.out 1; have hns55_1 := NB754_739.out; have hms55_1 := NB739_754.out; have hs56 : w53.cell? ⟨gb739, 2, none⟩ = some (.int .i64 0) := cz BK739 2; have hfs56 := blk_frozen BK739.out 2; have hns56_1 := NB754_739.out; have hms56_1 := NB739_754.out; have hs58 : w53.cell? ⟨gb739, 3, none⟩ = some (.slice none 0 0) := cz BK739 3; have hfs58 := blk_frozen BK739.out 3; have hns58_1 := NB754_739.out; have hms58_1 := NB739_754.out; refine skip_ (w1 := ?_) (by rfl) rfl ?_ ?_
     rotate_left
     ·go_simp
      rfl
     refine hK.out _ _ ⟨((cell_far (p := ⟨gb739, _, none⟩) NB754_739.out _).trans (((cell_far (p := ⟨gb739, _, none⟩) NB754_739.out _).trans (((cell_far (p := ⟨gb739, _, none⟩) NB754_739.out _).trans (((cell_far (p := ⟨gb739, _, none⟩) NB754_739.out _).trans (hHeld.1)))))))), ((cell_far (p := ⟨gb739, _, none⟩) NB754_739.out _).trans (((cell_far (p := ⟨gb739, _, none⟩) NB754_739.out _).trans (((cell_far (p := ⟨gb739, _, none⟩) NB754_739.out _).trans (((cell_far (p := ⟨gb739, _, none⟩) NB754_739.out _).trans (hHeld.2.1)))))))), ((cell_far (p := ⟨gb739, _, none⟩) NB754_739.out _).trans (((cell_far (p := ⟨gb739, _, none⟩) NB754_739.out _).trans (((cell_far (p := ⟨gb739, _, none⟩) NB754_739.out _).trans (((cell_far (p := ⟨gb739, _, none⟩) NB754_739.out _).trans (hHeld.2.2.1)))))))), ((cell_far (p := ⟨gb739, _, none⟩) NB754_739.out _).trans (((cell_far (p := ⟨gb739, _, none⟩) NB754_739.out _).trans (((cell_far (p := ⟨gb739, _, none⟩) NB754_739.out _).trans (((cell_far (p := ⟨gb739, _, none⟩) NB754_739.out _).trans (hHeld.2.2.2))))))))⟩ (fun hHeld => ?_); clear hK K; refine pZ 6 (some 3) (bA 8 127) HT_.out ?_; refine pZ 7 (some 4) (bA 8 255) HT_.out ?_; refine done_ (done_of HT_.out (by kernel_rfl)) ?_
     try go_wp2
     refine bodyPost_ret (results_ctt rfl _ _ gb739 71 #[.int .i64 x755000_19, .int .i64 x755001_19, .int .i64 x755002_19, .slice Ao57 x755003_19.length co57] (0, 0) _ rfl (by refine bp ?_; refine blk_put (cs := #[.int .i64 x755000_19, .int .i64 x755001_19, .int .i64 x755002_19, .slice none 0 0]) ?_ 3 _ rfl; refine bp ?_; refine blk_put (cs := #[.int .i64 x755000_19, .int .i64 x755001_19, .int .i64 0, .slice none 0 0]) ?_ 2 _ rfl; refine bp ?_; refine blk_put (cs := #[.int .i64 x755000_19, .int .i64 0, .int .i64 0, .slice none 0 0]) ?_ 1 _ rfl; refine bp ?_; refine blk_put (cs := #[.int .i64 0, .int .i64 0, .int .i64 0, .slice none 0 0]) ?_ 0 _ rfl; exact Kz BK739.out) Try.underlying71 rfl (by kernel_rfl)) rfl ?_; exact ⟨_, _, _, eZ, Rz (Kd.R_mono (Kd.R_far (p := ⟨gb739, 3, none⟩) (Kd.R_far (p := ⟨gb739, 2, none⟩) (Kd.R_far (p := ⟨gb739, 1, none⟩) (Kd.R_far (p := ⟨gb739, 0, none⟩) (Kd.R_types HO_755003.out BK739.out (by decide)) (fun _ hk => hk.2) (.int .i64 x755000_19)) (fun _ hk => hk.2) (.int .i64 x755001_19)) (fun _ hk => hk.2) (.int .i64 x755002_19)) (fun _ hk => hk.2) (.slice Ao57 x755003_19.length co57)) (fun _ hk => trivial)), Rz (Kd.R_mono (Kd.R_far (p := ⟨gb739, 3, none⟩) (Kd.R_far (p := ⟨gb739, 2, none⟩) (Kd.R_far (p := ⟨gb739, 1, none⟩) (Kd.R_far (p := ⟨gb739, 0, none⟩) (Kd.R_types HO_6.out BK739.out (by decide)) (fun _ hk => hk.2) (.int .i64 x755000_19)) (fun _ hk => hk.2) (.int .i64 x755001_19)) (fun _ hk => hk.2) (.int .i64 x755002_19)) (fun _ hk => hk.2) (.slice Ao57 x755003_19.length co57)) (fun _ hk => hk.1.2)), Rz (Kd.R_mono (Kd.R_far (p := ⟨gb739, 3, none⟩) (Kd.R_far (p := ⟨gb739, 2, none⟩) (Kd.R_far (p := ⟨gb739, 1, none⟩) (Kd.R_far (p := ⟨gb739, 0, none⟩) (Kd.R_types HO774.out BK739.out (by decide)) (fun _ hk => hk.2) (.int .i64 x755000_19)) (fun _ hk => hk.2) (.int .i64 x755001_19)) (fun _ hk => hk.2) (.int .i64 x755002_19)) (fun _ hk => hk.2) (.slice Ao57 x755003_19.length co57)) (fun _ hk => hk.1.2)), by repeat (first | (with_reducible first | exact HB.out | apply below_alloc | apply pw_below_drewN | apply below_drew1 | refine below_set ?_ (IsS90.ge HI740.out) | refine below_set ?_ GE739.out | refine below_set ?_ GE754.out) | exact HB.out)⟩



def impl_areTexts_1.f (k : Nat) (a0 : ByteArray) : Option (Bool) := (impl_IsKey.f k a0).bind fun t777 => (some (!t777))
theorem impl_areTexts_1.calls (k : Nat) (a0 : ByteArray) (r : Bool) (w : World) (h : impl_areTexts_1.f k a0 = some r) :
  Calls Try.prog 173 #[.string a0] w fun e w' => e = .returned (.bool r) ∧ Drawn0 w w' := by
 have H : ((impl_IsKey.f k a0).bind fun t777 => (some (!t777))) = some r := h; clear h; obtain ⟨t777, A2, H⟩ := ob H; (try dsimp -simprocs only at H); obtain rfl := Option.some.inj H
 go_enter Try.func173, Try.ntmps173
 go_wp2_with (first | ((with_reducible refine gate_callee (f := 52) rfl ?_); refine gL (some 4) Try.func52 #[.string a0] ?_; (with_reducible refine (impl_IsKey.calls k a0 t777 _ A2.out).mono ?_); rintro e w' ⟨rfl, ⟨nd, rfl⟩⟩; refine ⟨_, rfl, ?_⟩))
 go_ret
 exact ⟨by first | rfl | (simp; done) | (simp [*]; done), by repeat (first | exact Drawn0.refl _ | apply Drawn0.step)⟩

def slices_IndexFunc_string_string_at_impl_areTexts_1.l0 : Nat → List ByteArray → Int → Int → Option (Int)
 | 0, _, _, _ => none
 | k + 1, x0, x7, x8 => if x8 < x7 then (if 0 ≤ x8 then (if x8 < (x0.length : Int) then ((impl_areTexts_1.f k (rdOf ByteArray.empty x0 x8)).bind fun t779 => (if t779 = true then (some x8) else (slices_IndexFunc_string_string_at_impl_areTexts_1.l0 k x0 x7 (wrap64 (x8 + 1))))) else (none)) else (none)) else (some (-1))
def slices_IndexFunc_string_string_at_impl_areTexts_1.f (k : Nat) (l0 : List ByteArray)  : Option (Int) := slices_IndexFunc_string_string_at_impl_areTexts_1.l0 k l0 (l0.length : Int) 0
theorem slices_IndexFunc_string_string_at_impl_areTexts_1.calls (k : Nat) (A0 : Option Addr) (c0 : Nat) (l0 : List ByteArray)  (r : Int) (w : World) (hr0 : Kd.C Kd.string w A0 l0.length l0) (hc0 : l0.length ≤ c0) (h : slices_IndexFunc_string_string_at_impl_areTexts_1.f k l0 = some r) :
  Calls Try.prog 193 #[.slice A0 l0.length c0, .func (.func 173) #[] #[]] w fun e w' => e = .returned (.int .i64 r) ∧ Drawn0 w w' := by
 have HR0 := am hr0; have HC0 := am hc0; clear hr0 hc0; have H : (slices_IndexFunc_string_string_at_impl_areTexts_1.l0 k l0 (l0.length : Int) 0) = some r := h; clear h; have H' := am H; clear H
 go_enter Try.func193, Try.ntmps193
 go_wp2
 go_loopg [8] k (fun kq v8 w' => ∃ (x8_1 : Int), v8 = .int .i64 x8_1 ∧ Aside0 (slices_IndexFunc_string_string_at_impl_areTexts_1.l0 kq l0 (l0.length : Int) x8_1 = some r) ∧ Aside0 (kq ≤ k) ∧ Drawn0 w w')
 case atStart => exact ⟨(0), wZ, H', ⟨Nat.le_refl _⟩, by repeat (first | exact Drawn0.refl _ | apply Drawn0.step)⟩
 case round =>
  clear H'
  try clear c1
  try clear p2
  obtain ⟨x8_1, rfl, HA, HK1, ⟨m1, rfl⟩⟩ := hrel; cases gk with
  | zero => exact absurd HA.out (by simp [slices_IndexFunc_string_string_at_impl_areTexts_1.l0])
  | succ k1 =>
   have H := HA.out; clear HA
   simp only [slices_IndexFunc_string_string_at_impl_areTexts_1.l0] at H
   by_cases c3 : x8_1 < (l0.length : Int)
   ·rw [if_pos c3] at H
    have c3b0 : decide (x8_1 < (l0.length : Int)) = true := decide_eq_true c3; clear c3
    by_cases c4 : 0 ≤ x8_1
    ·rw [if_pos c4] at H
     have c4b0 : decide (0 ≤ x8_1) = true := decide_eq_true c4; clear c4
     by_cases c5 : x8_1 < (l0.length : Int)
     ·rw [if_pos c5] at H
      have c5b0 : decide (x8_1 < (l0.length : Int)) = true := decide_eq_true c5; clear c5; obtain ⟨t779, A6, H⟩ := ob H; (try dsimp -simprocs only at H)
      by_cases c7 : t779 = true
      ·subst c7
       rw [if_pos rfl] at H; obtain rfl := Option.some.inj H; obtain ⟨ad778, e778, hx778_0⟩ := Kd.at_string HR0.out x8_1 dT dT; cases e778; have p778 := eT (0 ≤ (x8_1 : Int)); have q778 := eT (x8_1 < (l0.length : Int))
       go_wp2_with (first | (go_at_call 173; (with_reducible refine (impl_areTexts_1.calls k1 (rdOf ByteArray.empty l0 x8_1) true _ A6.out).mono ?_); rintro e w' ⟨rfl, ⟨nd, rfl⟩⟩))
       go_ret
       exact ⟨by first | rfl | (simp; done) | (simp [*]; done), by repeat (first | exact Drawn0.refl _ | apply Drawn0.step)⟩
      ·replace c7 := Bool.eq_false_iff.mpr c7
       subst c7
       rw [if_neg Bool.false_ne_true] at H; have H' := am H; clear H; obtain ⟨ad778, e778, hx778_0⟩ := Kd.at_string HR0.out x8_1 dT dT; cases e778; have p778 := eT (0 ≤ (x8_1 : Int)); have q778 := eT (x8_1 < (l0.length : Int))
       go_wp2_with (first | (go_at_call 173; (with_reducible refine (impl_areTexts_1.calls k1 (rdOf ByteArray.empty l0 x8_1) false _ A6.out).mono ?_); rintro e w' ⟨rfl, ⟨nd, rfl⟩⟩))
       go_roundg k1
       case measure => have := HK1.out; omega
       case rel => exact ⟨(wrap64 (x8_1 + 1)), wZ, H', ⟨by have := HK1.out; omega⟩, by repeat (first | exact Drawn0.refl _ | apply Drawn0.step)⟩
     ·rw [if_neg c5] at H
      exact absurd H (by simp)
    ·rw [if_neg c4] at H
     exact absurd H (by simp)
   ·rw [if_neg c3] at H
    have c3b0 : decide (x8_1 < (l0.length : Int)) = false := decide_eq_false c3; clear c3; obtain rfl := Option.some.inj H
    go_wp2
    go_ret
    exact ⟨by first | rfl | (simp; done) | (simp [*]; done), by repeat (first | exact Drawn0.refl _ | apply Drawn0.step)⟩

def slices_ContainsFunc_string_string_at_impl_areTexts_1.f (k : Nat) (l0 : List ByteArray)  : Option (Bool) := (slices_IndexFunc_string_string_at_impl_areTexts_1.f k l0).bind fun t780 => (some (decide (t780 ≥ 0)))
theorem slices_ContainsFunc_string_string_at_impl_areTexts_1.calls (k : Nat) (A0 : Option Addr) (c0 : Nat) (l0 : List ByteArray)  (r : Bool) (w : World) (hr0 : Kd.C Kd.string w A0 l0.length l0) (hc0 : l0.length ≤ c0) (h : slices_ContainsFunc_string_string_at_impl_areTexts_1.f k l0 = some r) :
  Calls Try.prog 172 #[.slice A0 l0.length c0, .func (.func 173) #[] #[]] w fun e w' => e = .returned (.bool r) ∧ Drawn0 w w' := by
 have HR0 := am hr0; have HC0 := am hc0; clear hr0 hc0; have H : ((slices_IndexFunc_string_string_at_impl_areTexts_1.f k l0).bind fun t780 => (some (decide (t780 ≥ 0)))) = some r := h; clear h; obtain ⟨t780, A3, H⟩ := ob H; (try dsimp -simprocs only at H); obtain rfl := Option.some.inj H
 go_enter Try.func172, Try.ntmps172
 go_wp2_with (first | ((with_reducible refine gate_callee (f := 193) rfl ?_); refine gL (some 7) Try.func193 #[.slice A0 l0.length c0, .func (.func 173) #[] #[]] ?_; (with_reducible refine (slices_IndexFunc_string_string_at_impl_areTexts_1.calls k _ _ l0  t780 _ ?side1 ?side2 A3.out).mono ?_); (case side1 => exact Cz HR0.out); (case side2 => exact HC0.out); rintro e w' ⟨rfl, ⟨nd, rfl⟩⟩; refine ⟨_, rfl, ?_⟩))
 go_ret
 exact ⟨by first | rfl | (simp; done) | (simp [*]; done), by repeat (first | exact Drawn0.refl _ | apply Drawn0.step)⟩

def impl_areTexts.f (k : Nat) (l0 : List ByteArray) : Option (Bool) := if (l0.length : Int) ≤ 300 then ((slices_ContainsFunc_string_string_at_impl_areTexts_1.f k l0).bind fun t781 => (some (!t781))) else (some false)
theorem impl_areTexts.calls (k : Nat) (A0 : Option Addr) (c0 : Nat) (l0 : List ByteArray) (r : Bool) (w : World) (hr0 : Kd.C Kd.string w A0 l0.length l0) (hc0 : l0.length ≤ c0) (h : impl_areTexts.f k l0 = some r) :
  Calls Try.prog 123 #[.slice A0 l0.length c0] w fun e w' => e = .returned (.bool r) ∧ Drawn0 w w' := by
 have HR0 := am hr0; have HC0 := am hc0; clear hr0 hc0; have H : (if (l0.length : Int) ≤ 300 then ((slices_ContainsFunc_string_string_at_impl_areTexts_1.f k l0).bind fun t781 => (some (!t781))) else (some false)) = some r := h; clear h
 by_cases c2 : (l0.length : Int) ≤ 300
 ·rw [if_pos c2] at H
  have c2b0 : decide ((l0.length : Int) ≤ 300) = true := decide_eq_true c2; have c2b1 : decide (l0.length ≤ 300) = true := decide_eq_true (by omega); clear c2; obtain ⟨t781, A3, H⟩ := ob H; (try dsimp -simprocs only at H); obtain rfl := Option.some.inj H
  go_enter Try.func123, Try.ntmps123
  go_wp2_with (first | (go_at_call 172; (with_reducible refine (slices_ContainsFunc_string_string_at_impl_areTexts_1.calls k _ _ l0  t781 _ ?side1 ?side2 A3.out).mono ?_); (case side1 => exact Cz HR0.out); (case side2 => exact HC0.out); rintro e w' ⟨rfl, ⟨nd, rfl⟩⟩))
  go_ret
  exact ⟨by first | rfl | (simp; done) | (simp [*]; done), by repeat (first | exact Drawn0.refl _ | apply Drawn0.step)⟩
 ·rw [if_neg c2] at H
  have c2b0 : decide ((l0.length : Int) ≤ 300) = false := decide_eq_false c2; have c2b1 : decide (l0.length ≤ 300) = false := decide_eq_false (by omega); clear c2; obtain rfl := Option.some.inj H
  go_enter Try.func123, Try.ntmps123
  go_wp2
  go_ret
  exact ⟨by first | rfl | (simp; done) | (simp [*]; done), by repeat (first | exact Drawn0.refl _ | apply Drawn0.step)⟩

def slices_Index_string_string.l0 : Nat → List ByteArray → ByteArray → Int → Int → Option (Int)
 | 0, _, _, _, _ => none
 | k + 1, x0, x1, x7, x8 => if x8 < x7 then (if 0 ≤ x8 then (if x8 < (x0.length : Int) then (if x1.toList = (rdOf ByteArray.empty x0 x8).toList then (some x8) else (slices_Index_string_string.l0 k x0 x1 x7 (wrap64 (x8 + 1)))) else (none)) else (none)) else (some (-1))
def slices_Index_string_string.f (k : Nat) (l0 : List ByteArray) (a1 : ByteArray) : Option (Int) := slices_Index_string_string.l0 k l0 a1 (l0.length : Int) 0
theorem slices_Index_string_string.calls (k : Nat) (A0 : Option Addr) (c0 : Nat) (l0 : List ByteArray) (a1 : ByteArray) (r : Int) (w : World) (hr0 : Kd.C Kd.string w A0 l0.length l0) (hc0 : l0.length ≤ c0) (h : slices_Index_string_string.f k l0 a1 = some r) :
  Calls Try.prog 194 #[.slice A0 l0.length c0, .string a1] w fun e w' => e = .returned (.int .i64 r) ∧ Drawn0 w w' := by
 have HR0 := am hr0; have HC0 := am hc0; clear hr0 hc0; have H : (slices_Index_string_string.l0 k l0 a1 (l0.length : Int) 0) = some r := h; clear h; have H' := am H; clear H
 go_enter Try.func194, Try.ntmps194
 go_wp2
 go_loopg [8] k (fun kq v8 w' => ∃ (x8_1 : Int), v8 = .int .i64 x8_1 ∧ Aside0 (slices_Index_string_string.l0 kq l0 a1 (l0.length : Int) x8_1 = some r) ∧ Aside0 (kq ≤ k) ∧ Drawn0 w w')
 case atStart => exact ⟨(0), wZ, H', ⟨Nat.le_refl _⟩, by repeat (first | exact Drawn0.refl _ | apply Drawn0.step)⟩
 case round =>
  clear H'
  try clear c1
  try clear p2
  obtain ⟨x8_1, rfl, HA, HK1, ⟨m1, rfl⟩⟩ := hrel; cases gk with
  | zero => exact absurd HA.out (by simp [slices_Index_string_string.l0])
  | succ k1 =>
   have H := HA.out; clear HA
   simp only [slices_Index_string_string.l0] at H
   by_cases c3 : x8_1 < (l0.length : Int)
   ·rw [if_pos c3] at H
    have c3b0 : decide (x8_1 < (l0.length : Int)) = true := decide_eq_true c3; clear c3
    by_cases c4 : 0 ≤ x8_1
    ·rw [if_pos c4] at H
     have c4b0 : decide (0 ≤ x8_1) = true := decide_eq_true c4; clear c4
     by_cases c5 : x8_1 < (l0.length : Int)
     ·rw [if_pos c5] at H
      have c5b0 : decide (x8_1 < (l0.length : Int)) = true := decide_eq_true c5; clear c5
      by_cases c6 : a1.toList = (rdOf ByteArray.empty l0 x8_1).toList
      ·rw [if_pos c6] at H
       have c6b0 : (a1.toList == (rdOf ByteArray.empty l0 x8_1).toList) = true := beq_iff_eq.mpr c6; have c6b1 : (a1.toList != (rdOf ByteArray.empty l0 x8_1).toList) = false := bne_eq_false_iff_eq.mpr c6; clear c6; obtain rfl := Option.some.inj H; obtain ⟨ad782, e782, hx782_0⟩ := Kd.at_string HR0.out x8_1 dT dT; cases e782; have p782 := eT (0 ≤ (x8_1 : Int)); have q782 := eT (x8_1 < (l0.length : Int))
       go_wp2
       go_ret
       exact ⟨by first | rfl | (simp; done) | (simp [*]; done), by repeat (first | exact Drawn0.refl _ | apply Drawn0.step)⟩
      ·rw [if_neg c6] at H
       have c6b0 : (a1.toList == (rdOf ByteArray.empty l0 x8_1).toList) = false := beq_eq_false_iff_ne.mpr c6; have c6b1 : (a1.toList != (rdOf ByteArray.empty l0 x8_1).toList) = true := bne_iff_ne.mpr c6; have H' := am H; clear H; obtain ⟨ad782, e782, hx782_0⟩ := Kd.at_string HR0.out x8_1 dT dT; cases e782; have p782 := eT (0 ≤ (x8_1 : Int)); have q782 := eT (x8_1 < (l0.length : Int))
       go_wp2
       go_roundg k1
       case measure => have := HK1.out; omega
       case rel => exact ⟨(wrap64 (x8_1 + 1)), wZ, H', ⟨by have := HK1.out; omega⟩, by repeat (first | exact Drawn0.refl _ | apply Drawn0.step)⟩
     ·rw [if_neg c5] at H
      exact absurd H (by simp)
    ·rw [if_neg c4] at H
     exact absurd H (by simp)
   ·rw [if_neg c3] at H
    have c3b0 : decide (x8_1 < (l0.length : Int)) = false := decide_eq_false c3; clear c3; obtain rfl := Option.some.inj H
    go_wp2
    go_ret
    exact ⟨by first | rfl | (simp; done) | (simp [*]; done), by repeat (first | exact Drawn0.refl _ | apply Drawn0.step)⟩

def slices_Contains_string_string.f (k : Nat) (l0 : List ByteArray) (a1 : ByteArray) : Option (Bool) := (slices_Index_string_string.f k l0 a1).bind fun t783 => (some (decide (t783 ≥ 0)))
theorem slices_Contains_string_string.calls (k : Nat) (A0 : Option Addr) (c0 : Nat) (l0 : List ByteArray) (a1 : ByteArray) (r : Bool) (w : World) (hr0 : Kd.C Kd.string w A0 l0.length l0) (hc0 : l0.length ≤ c0) (h : slices_Contains_string_string.f k l0 a1 = some r) :
  Calls Try.prog 174 #[.slice A0 l0.length c0, .string a1] w fun e w' => e = .returned (.bool r) ∧ Drawn0 w w' := by
 have HR0 := am hr0; have HC0 := am hc0; clear hr0 hc0; have H : ((slices_Index_string_string.f k l0 a1).bind fun t783 => (some (decide (t783 ≥ 0)))) = some r := h; clear h; obtain ⟨t783, A3, H⟩ := ob H; (try dsimp -simprocs only at H); obtain rfl := Option.some.inj H
 go_enter Try.func174, Try.ntmps174
 go_wp2_with (first | ((with_reducible refine gate_callee (f := 194) rfl ?_); refine gL (some 7) Try.func194 #[.slice A0 l0.length c0, .string a1] ?_; (with_reducible refine (slices_Index_string_string.calls k _ _ l0 a1 t783 _ ?side1 ?side2 A3.out).mono ?_); (case side1 => exact Cz HR0.out); (case side2 => exact HC0.out); rintro e w' ⟨rfl, ⟨nd, rfl⟩⟩; refine ⟨_, rfl, ?_⟩))
 go_ret
 exact ⟨by first | rfl | (simp; done) | (simp [*]; done), by repeat (first | exact Drawn0.refl _ | apply Drawn0.step)⟩


def impl_wrong_at_impl_Table_says.l0 : Nat → List ByteArray → List Int → List ByteArray → Int → Int → Int → Int → Int → List Int → Option (List Int)
 | 0, _, _, _, _, _, _, _, _, _ => none
 | k + 1, x0, x7, x11, x12, x13, x4000, x4001, x4002, x4003 => if x13 < x12 then (if 0 ≤ x13 then (if x13 < (x11.length : Int) then ((slices_Contains_string_string.f k x0 (rdOf ByteArray.empty x11 x13)).bind fun t792 => (if t792 = true then (impl_wrong_at_impl_Table_says.l0 k x0 x7 x11 x12 (wrap64 (x13 + 1)) x4000 x4001 x4002 x4003) else ((impl_Table_says.f k x4000 x4001 x4002 x4003 (rdOf ByteArray.empty x11 x13)).bind fun t793 => (if t793 = true then (if x7.length < 17592186044416 then (impl_wrong_at_impl_Table_says.l0 k x0 (x7 ++ [x13]) x11 x12 (wrap64 (x13 + 1)) x4000 x4001 x4002 x4003) else (none)) else (impl_wrong_at_impl_Table_says.l0 k x0 x7 x11 x12 (wrap64 (x13 + 1)) x4000 x4001 x4002 x4003))))) else (none)) else (none)) else (some x7)
def impl_wrong_at_impl_Table_says.f (k : Nat) (l0 : List ByteArray) (l1 : List ByteArray)  (a3_0 : Int) (a3_1 : Int) (a3_2 : Int) (l3_3 : List Int) : Option (List Int) := impl_wrong_at_impl_Table_says.l0 k l0 (([] : List Int)) l1 (l1.length : Int) 0 a3_0 a3_1 a3_2 l3_3
theorem impl_wrong_at_impl_Table_says.calls (k : Nat) (A0 : Option Addr) (c0 : Nat) (l0 : List ByteArray) (A1 : Option Addr) (c1 : Nat) (l1 : List ByteArray)  (g3 : Nat) (a3_0 : Int) (a3_1 : Int) (a3_2 : Int) (A3_3 : Option Addr) (c3_3 : Nat) (l3_3 : List Int) (r : List Int) (w : World) (hr0 : Kd.C Kd.string w A0 l0.length l0) (hc0 : l0.length ≤ c0) (hr1 : Kd.C Kd.string w A1 l1.length l1) (hc1 : l1.length ≤ c1) (hb3 : w.heap[g3]? = some (.cells #[.int .i64 a3_0, .int .i64 a3_1, .int .i64 a3_2, .slice A3_3 l3_3.length c3_3] 71 (0, 0))) (hr3_3 : Kd.C (Kd.int .i64) w A3_3 l3_3.length l3_3) (hc3_3 : l3_3.length ≤ c3_3) (h : impl_wrong_at_impl_Table_says.f k l0 l1 a3_0 a3_1 a3_2 l3_3 = some r) :
  Calls Try.prog 124 #[.slice A0 l0.length c0, .slice A1 l1.length c1, .func (.func 120) #[.pointer (some ⟨g3, 0, none⟩)] #[]] w fun e w' => ∃ v0_ : Value, e = .returned (v0_) ∧ Kd.R (Kd.int .i64) 3 w' w.heap.size (fun _ => True) v0_ r ∧ Below w.heap.size w w' := by
 have HR0 := am hr0; have HC0 := am hc0; clear hr0 hc0; have HR1 := am hr1; have HC1 := am hc1; clear hr1 hc1; have HR3_3 := am hr3_3; have HC3_3 := am hc3_3; clear hr3_3 hc3_3; have BK3 := am hb3; clear hb3; have HB := am (Below.refl w.heap.size w); have H : (impl_wrong_at_impl_Table_says.l0 k l0 (([] : List Int)) l1 (l1.length : Int) 0 a3_0 a3_1 a3_2 l3_3) = some r := h; clear h; obtain ⟨y788, hy788⟩ : ∃ y_ : List Int, y_ = (([] : List Int)) := ⟨_, rfl⟩
 replace H : (impl_wrong_at_impl_Table_says.l0 k l0 y788 l1 (l1.length : Int) 0 a3_0 a3_1 a3_2 l3_3) = some r := by (try rw [hy788]); first | with_reducible exact H | exact (Option.bind_some _ _).symm.trans H | exact H
 have Ny788 := am hy788; clear hy788; have H' := am H; clear H
 go_enter Try.func124, Try.ntmps124
 go_wp2_with (first | ((with_reducible refine gate_dst (N := 10) rfl ?_); refine Kd.R_lit (Kd.int .i64) _ 3 ?hg (N := 10) ?hd (xs := ([] : List Int)) (inner := []) (ok := fun _ => True) (okp := fun _ => True) ?hr ?hp (fun _ hk => hk) trivial (Below.refl _ _) (Nat.le_refl _) (by simp) ?_; (case hd => rfl); (case hg => rfl); (case hr => first | (go_simp; done) | (go_simp; rfl)); (case hp => exact (Reps.none _ _)); intro v789 w5 ho6 hb hg_ hnew_; clear hg_ hnew_; (first | rw [← Ny788.out] at ho6 | (simp only [Int.reduceToNat] at ho6; rw [← Ny788.out] at ho6)); have n0_ := Rm ho6 HB; have n1_ := Kb BK3 hb; have n2_ := Bc HB hb; clear BK3 HB; revert n0_ n1_ n2_; intro HO790 BK3 HB; clear hb ho6))
 (try simp only [aP])
 go_loopg [7, 13] k (fun kq v7 v13 w' => ∃ (x7_1 : List Int) (x13_1 : Int), v13 = .int .i64 x13_1 ∧ Aside0 (impl_wrong_at_impl_Table_says.l0 kq l0 x7_1 l1 (l1.length : Int) x13_1 a3_0 a3_1 a3_2 l3_3 = some r) ∧ Aside0 (kq ≤ k) ∧ Aside0 (Kd.R (Kd.int .i64) 3 w' w.heap.size (fun _ => True) v7 x7_1) ∧ Aside0 (w'.heap[g3]? = some (.cells #[.int .i64 a3_0, .int .i64 a3_1, .int .i64 a3_2, (.slice A3_3 l3_3.length c3_3)] 71 (0, 0))) ∧ Aside0 (Below w.heap.size w w'))
 case atStart => exact ⟨(y788), (0), wZ, H', ⟨Nat.le_refl _⟩, ⟨Rz HO790.out⟩, ⟨Kz BK3.out⟩, ⟨Bq⟩⟩
 case round =>
  clear H'
  try clear c1
  try clear p2
  try clear c3
  obtain ⟨x7_1, x13_1, rfl, HA, HK1, HO_7, BK3, HB⟩ := hrel; cases gk with
  | zero => exact absurd HA.out (by simp [impl_wrong_at_impl_Table_says.l0])
  | succ k1 =>
   have H := HA.out; clear HA
   simp only [impl_wrong_at_impl_Table_says.l0] at H
   by_cases c7 : x13_1 < (l1.length : Int)
   ·rw [if_pos c7] at H
    have c7b0 : decide (x13_1 < (l1.length : Int)) = true := decide_eq_true c7; clear c7
    by_cases c8 : 0 ≤ x13_1
    ·rw [if_pos c8] at H
     have c8b0 : decide (0 ≤ x13_1) = true := decide_eq_true c8; clear c8
     by_cases c9 : x13_1 < (l1.length : Int)
     ·rw [if_pos c9] at H
      have c9b0 : decide (x13_1 < (l1.length : Int)) = true := decide_eq_true c9; clear c9; obtain ⟨t792, A10, H⟩ := ob H; (try dsimp -simprocs only at H)
      by_cases c11 : t792 = true
      ·subst c11
       rw [if_pos rfl] at H; have H' := am H; clear H; have p791 : 0 ≤ (x13_1 : Int) := dT; have q791 : x13_1 < (l1.length : Int) := dT; obtain ⟨ad791, e791, hx791_0⟩ := Kd.at_string HR1.out x13_1 p791 q791; cases e791; replace hx791_0 := (HB.out.cell (World.block_lt_of_cell? w _ hx791_0)).trans hx791_0; replace p791 := eq_true p791; replace q791 := eq_true q791
       go_wp2_with (first | ((with_reducible refine gate_callee (f := 174) rfl ?_); refine gL (some 20) Try.func174 #[.slice A0 l0.length c0, .string (rdOf ByteArray.empty l1 x13_1)] ?_; (with_reducible refine (slices_Contains_string_string.calls k1 _ _ l0 (rdOf ByteArray.empty l1 x13_1) true _ ?side1 ?side2 A10.out).mono ?_); (case side1 => exact Cz (Kd.C_below HR0.out HB.out)); (case side2 => exact HC0.out); rintro e w' ⟨rfl, ⟨nd, rfl⟩⟩; refine ⟨_, rfl, ?_⟩))
       go_roundg k1
       case measure => have := HK1.out; omega
       case rel => exact ⟨(x7_1), (wrap64 (x13_1 + 1)), wZ, H', ⟨by have := HK1.out; omega⟩, ⟨Rz HO_7.out⟩, ⟨Kz BK3.out⟩, ⟨Bq⟩⟩
      ·replace c11 := Bool.eq_false_iff.mpr c11
       subst c11
       rw [if_neg Bool.false_ne_true] at H; obtain ⟨t793, A12, H⟩ := ob H; (try dsimp -simprocs only at H)
       by_cases c13 : t793 = true
       ·subst c13
        rw [if_pos rfl] at H
        by_cases c14 : x7_1.length < 17592186044416
        ·rw [if_pos c14] at H
         have LMc14 := am c14; clear c14; obtain ⟨y794, hy794⟩ : ∃ y_ : List Int, y_ = (x7_1 ++ [x13_1]) := ⟨_, rfl⟩
         replace H : (impl_wrong_at_impl_Table_says.l0 k1 l0 y794 l1 (l1.length : Int) (wrap64 (x13_1 + 1)) a3_0 a3_1 a3_2 l3_3) = some r := by (try rw [hy794]); first | with_reducible exact H | exact (Option.bind_some _ _).symm.trans H | exact H
         have Ny794 := am hy794; clear hy794; have H' := am H; clear H; have p791 : 0 ≤ (x13_1 : Int) := dT; have q791 : x13_1 < (l1.length : Int) := dT; obtain ⟨ad791, e791, hx791_0⟩ := Kd.at_string HR1.out x13_1 p791 q791; cases e791; replace hx791_0 := (HB.out.cell (World.block_lt_of_cell? w _ hx791_0)).trans hx791_0; replace p791 := eq_true p791; replace q791 := eq_true q791
         go_wp2_with (first | ((with_reducible refine gate_callee (f := 174) rfl ?_); refine gL (some 20) Try.func174 #[.slice A0 l0.length c0, .string (rdOf ByteArray.empty l1 x13_1)] ?_; (with_reducible refine (slices_Contains_string_string.calls k1 _ _ l0 (rdOf ByteArray.empty l1 x13_1) false _ ?side1 ?side2 A10.out).mono ?_); (case side1 => exact Cz (Kd.C_below HR0.out HB.out)); (case side2 => exact HC0.out); rintro e w' ⟨rfl, ⟨nd, rfl⟩⟩; refine ⟨_, rfl, ?_⟩) | (go_at_call 120; (with_reducible refine (impl_Table_says.calls k1 g3 a3_0 a3_1 a3_2 A3_3 c3_3 l3_3 (rdOf ByteArray.empty l1 x13_1) true _ ?side1 ?side2 ?side3 A12.out).mono ?_); (case side1 => exact Kz BK3.out); (case side2 => exact Cz (Kd.C_below HR3_3.out (Bq))); (case side3 => exact HC3_3.out); rintro e w15 ⟨rfl, hb⟩; have n0_ := Rb HO_7 hb; have n1_ := Kb BK3 hb; have n2_ := Bc HB hb; clear HO_7 BK3 HB; revert n0_ n1_ n2_; intro HO_7 BK3 HB; (try clear hb); (try clear hb2); (try clear hk); (try clear hi)) | ((with_reducible refine gate_builtin (b := .append) (xs := #[.tmp 27, .tmp 29]) rfl ?_); at_builtin; refine Kd.R_append (Kd.int .i64) (w0 := w) w.heap.size rfl (.tmp 27) (.tmp 29) 24 3 (.int .i64 0) 8 rfl Try.underlying24 info3 rfl (by decide) (by omega) u7 x7_1 x13_1 [.int .i64 x13_1] (fun _ => True) (fun _ => False) rfl rfl ?aP (fun _ hk => hk.elim) ?aF ?aO ?aB ?aS ?aL ?_; (case aP => exact rfl); (case aB => exact (Bq)); (case aF => exact (fun _ _ => trivial)); (case aO => exact (Rz HO_7.out)); (case aS => exact (below_size (w := w) (Bq))); (case aL => have := LMc14.out; omega); intro v795 w16 ho hb hg hat; rw [← Ny794.out] at ho; have n0_ := am (blk_grown (g := g3) (o := .cells #[.int .i64 a3_0, .int .i64 a3_1, .int .i64 a3_2, .slice A3_3 l3_3.length c3_3] 71 (0, 0)) (Kz BK3.out) hg (Kd.R_ne HO_7.out BK3.out (by decide))); have n1_ := am (hb); have n2_ := am (ho); clear BK3 HB HO_7; revert n0_ n1_ n2_; intro BK3 HB HO796; clear ho hb hg hat))
         go_roundg k1
         case measure => have := HK1.out; omega
         case rel => exact ⟨(y794), (wrap64 (x13_1 + 1)), wZ, H', ⟨by have := HK1.out; omega⟩, ⟨Rz HO796.out⟩, ⟨Kz BK3.out⟩, ⟨Bq⟩⟩
        ·rw [if_neg c14] at H
         exact absurd H (by simp)
       ·replace c13 := Bool.eq_false_iff.mpr c13
        subst c13
        rw [if_neg Bool.false_ne_true] at H; have H' := am H; clear H; have p791 : 0 ≤ (x13_1 : Int) := dT; have q791 : x13_1 < (l1.length : Int) := dT; obtain ⟨ad791, e791, hx791_0⟩ := Kd.at_string HR1.out x13_1 p791 q791; cases e791; replace hx791_0 := (HB.out.cell (World.block_lt_of_cell? w _ hx791_0)).trans hx791_0; replace p791 := eq_true p791; replace q791 := eq_true q791
        go_wp2_with (first | ((with_reducible refine gate_callee (f := 174) rfl ?_); refine gL (some 20) Try.func174 #[.slice A0 l0.length c0, .string (rdOf ByteArray.empty l1 x13_1)] ?_; (with_reducible refine (slices_Contains_string_string.calls k1 _ _ l0 (rdOf ByteArray.empty l1 x13_1) false _ ?side1 ?side2 A10.out).mono ?_); (case side1 => exact Cz (Kd.C_below HR0.out HB.out)); (case side2 => exact HC0.out); rintro e w' ⟨rfl, ⟨nd, rfl⟩⟩; refine ⟨_, rfl, ?_⟩) | (go_at_call 120; (with_reducible refine (impl_Table_says.calls k1 g3 a3_0 a3_1 a3_2 A3_3 c3_3 l3_3 (rdOf ByteArray.empty l1 x13_1) false _ ?side1 ?side2 ?side3 A12.out).mono ?_); (case side1 => exact Kz BK3.out); (case side2 => exact Cz (Kd.C_below HR3_3.out (Bq))); (case side3 => exact HC3_3.out); rintro e w17 ⟨rfl, hb⟩; have n0_ := Rb HO_7 hb; have n1_ := Kb BK3 hb; have n2_ := Bc HB hb; clear HO_7 BK3 HB; revert n0_ n1_ n2_; intro HO_7 BK3 HB; (try clear hb); (try clear hb2); (try clear hk); (try clear hi)))
        go_roundg k1
        case measure => have := HK1.out; omega
        case rel => exact ⟨(x7_1), (wrap64 (x13_1 + 1)), wZ, H', ⟨by have := HK1.out; omega⟩, ⟨Rz HO_7.out⟩, ⟨Kz BK3.out⟩, ⟨Bq⟩⟩
     ·rw [if_neg c9] at H
      exact absurd H (by simp)
    ·rw [if_neg c8] at H
     exact absurd H (by simp)
   ·rw [if_neg c7] at H
    have c7b0 : decide (x13_1 < (l1.length : Int)) = false := decide_eq_false c7; clear c7; obtain rfl := Option.some.inj H
    go_wp2
    go_ret
    exact ⟨_, eZ, Rz HO_7.out, Bq⟩

def impl_PrintFalse.f (k : Nat) (a0_0 : Int) (a0_1 : Int) (a0_2 : Int) (l0_3 : List Int) (l1 : List ByteArray) (l2 : List ByteArray) : Option (List Int × Bool) := (impl_IsTable.f k a0_0 a0_1 a0_2 l0_3).bind fun t798 => (if t798 = true then ((impl_AreKeys.f k l1).bind fun t799 => (if t799 = true then ((impl_areTexts.f k l2).bind fun t800 => (if t800 = true then ((impl_wrong_at_impl_Table_says.f k l1 l2 a0_0 a0_1 a0_2 l0_3).bind fun t801 => (some (t801, true))) else (some (([] : List Int), false)))) else (some (([] : List Int), false)))) else (some (([] : List Int), false)))
theorem impl_PrintFalse.calls (k : Nat) (a0_0 : Int) (a0_1 : Int) (a0_2 : Int) (A0_3 : Option Addr) (c0_3 : Nat) (l0_3 : List Int) (A1 : Option Addr) (c1 : Nat) (l1 : List ByteArray) (A2 : Option Addr) (c2 : Nat) (l2 : List ByteArray) (r1 : List Int) (r2 : Bool) (w : World) (hr0_3 : Kd.C (Kd.int .i64) w A0_3 l0_3.length l0_3) (hc0_3 : l0_3.length ≤ c0_3) (hr1 : Kd.C Kd.string w A1 l1.length l1) (hc1 : l1.length ≤ c1) (hr2 : Kd.C Kd.string w A2 l2.length l2) (hc2 : l2.length ≤ c2) (h : impl_PrintFalse.f k a0_0 a0_1 a0_2 l0_3 l1 l2 = some (r1, r2)) :
  Calls Try.prog 46 #[.agg #[.int .i64 a0_0, .int .i64 a0_1, .int .i64 a0_2, .slice A0_3 l0_3.length c0_3], .slice A1 l1.length c1, .slice A2 l2.length c2] w fun e w' => ∃ v0_ : Value, e = .returned (.tuple #[v0_, .bool r2]) ∧ Kd.R (Kd.int .i64) 3 w' w.heap.size (fun _ => True) v0_ r1 ∧ Below w.heap.size w w' := by
 have hu71 := Try.underlying71; have HR0_3 := am hr0_3; have HC0_3 := am hc0_3; clear hr0_3 hc0_3; have HR1 := am hr1; have HC1 := am hc1; clear hr1 hc1; have HR2 := am hr2; have HC2 := am hc2; clear hr2 hc2; have HB := am (Below.refl w.heap.size w); have H : ((impl_IsTable.f k a0_0 a0_1 a0_2 l0_3).bind fun t798 => (if t798 = true then ((impl_AreKeys.f k l1).bind fun t799 => (if t799 = true then ((impl_areTexts.f k l2).bind fun t800 => (if t800 = true then ((impl_wrong_at_impl_Table_says.f k l1 l2 a0_0 a0_1 a0_2 l0_3).bind fun t801 => (some (t801, true))) else (some (([] : List Int), false)))) else (some (([] : List Int), false)))) else (some (([] : List Int), false)))) = some (r1, r2) := h; clear h; obtain ⟨t798, A4, H⟩ := ob H; (try dsimp -simprocs only at H)
 by_cases c5 : t798 = true
 ·subst c5
  rw [if_pos rfl] at H; obtain ⟨t799, A6, H⟩ := ob H; (try dsimp -simprocs only at H)
  by_cases c7 : t799 = true
  ·subst c7
   rw [if_pos rfl] at H; obtain ⟨t800, A8, H⟩ := ob H; (try dsimp -simprocs only at H)
   by_cases c9 : t800 = true
   ·subst c9
    rw [if_pos rfl] at H; obtain ⟨t801, A10, H⟩ := ob H; (try dsimp -simprocs only at H)
    simp only [Option.some.injEq, Prod.mk.injEq] at H
    obtain ⟨rfl, rfl⟩ := H
    go_enter Try.func46, Try.ntmps46
    go_wp2_with (first | ((with_reducible refine gate_dst (N := 3) rfl ?_); refine bE 3 #[.int .i64 a0_0, .int .i64 a0_1, .int .i64 a0_2, .slice A0_3 l0_3.length c0_3] 71 ?_; intro gb797 hg w11 hbox hb; have n0_ := Bb HB hb; have n1_ := am (hbox); have n2_ := Gl HB hg; have n3_ := Gl HB hg; clear HB; revert n0_ n1_ n2_ n3_; intro HB BK797 GW797 GE797; clear hb hbox hg; obtain ⟨hcz12_0, hcz12_1, hcz12_2, hcz12_3, hfz12_0, hfz12_1, hfz12_2, hfz12_3⟩ := cf4 (w := w11) BK797) | ((with_reducible refine gate_callee (f := 36) rfl ?_); refine gL (some 9) Try.func36 #[.agg #[.int .i64 a0_0, .int .i64 a0_1, .int .i64 a0_2, .slice A0_3 l0_3.length c0_3]] ?_; (with_reducible refine (impl_IsTable.calls k a0_0 a0_1 a0_2 _ _ l0_3 true _ ?side1 ?side2 A4.out).mono ?_); (case side1 => exact Cz (Kd.C_below HR0_3.out HB.out)); (case side2 => exact HC0_3.out); rintro e w13 ⟨rfl, hb⟩; refine ⟨_, rfl, ?_⟩; have n0_ := Kb BK797 hb; have n1_ := Bc HB hb; clear BK797 HB; revert n0_ n1_; intro BK797 HB; (try clear hb); (try clear hb2); (try clear hk); (try clear hi)) | (go_at_call 37; (with_reducible refine (impl_AreKeys.calls k _ _ l1 true _ ?side1 ?side2 A6.out).mono ?_); (case side1 => exact Cz (Kd.C_below HR1.out HB.out)); (case side2 => exact HC1.out); rintro e w' ⟨rfl, ⟨nd, rfl⟩⟩) | (go_at_call 123; (with_reducible refine (impl_areTexts.calls k _ _ l2 true _ ?side1 ?side2 A8.out).mono ?_); (case side1 => exact Cz (Kd.C_below HR2.out (Bq))); (case side2 => exact HC2.out); rintro e w' ⟨rfl, ⟨nd, rfl⟩⟩) | ((with_reducible refine gate_callee (f := 124) rfl ?_); refine gL (some 24) Try.func124 #[.slice A1 l1.length c1, .slice A2 l2.length c2, .func (.func 120) #[.pointer (some ⟨gb797, 0, none⟩)] #[]] ?_; (with_reducible refine (impl_wrong_at_impl_Table_says.calls k _ _ l1 _ _ l2  gb797 a0_0 a0_1 a0_2 A0_3 c0_3 l0_3 t801 _ ?side1 ?side2 ?side3 ?side4 ?side5 ?side6 ?side7 A10.out).mono ?_); (case side1 => exact Cz (Kd.C_below HR1.out (Bq))); (case side2 => exact HC1.out); (case side3 => exact Cz (Kd.C_below HR2.out (Bq))); (case side4 => exact HC2.out); (case side5 => exact Kz BK797.out); (case side6 => exact Cz (Kd.C_below HR0_3.out (Bq))); (case side7 => exact HC0_3.out); rintro e w14 ⟨v802, rfl, ho0, hb⟩; refine ⟨_, rfl, ?_⟩; have n0_ := Rm ho0 HB; have n1_ := Kb BK797 hb; have n2_ := Bc HB hb; clear BK797 HB; revert n0_ n1_ n2_; intro HO803 BK797 HB; (try clear hb); (try clear hb2); (try clear hk); (try clear hi); (try clear ho0)))
    go_ret2
    exact ⟨_, eZ, Rz HO803.out, Bq⟩
   ·replace c9 := Bool.eq_false_iff.mpr c9
    subst c9
    rw [if_neg Bool.false_ne_true] at H
    simp only [Option.some.injEq, Prod.mk.injEq] at H
    obtain ⟨rfl, rfl⟩ := H
    go_enter Try.func46, Try.ntmps46
    go_wp2_with (first | ((with_reducible refine gate_dst (N := 3) rfl ?_); refine bE 3 #[.int .i64 a0_0, .int .i64 a0_1, .int .i64 a0_2, .slice A0_3 l0_3.length c0_3] 71 ?_; intro gb797 hg w15 hbox hb; have n0_ := Bb HB hb; have n1_ := am (hbox); have n2_ := Gl HB hg; have n3_ := Gl HB hg; clear HB; revert n0_ n1_ n2_ n3_; intro HB BK797 GW797 GE797; clear hb hbox hg; obtain ⟨hcz16_0, hcz16_1, hcz16_2, hcz16_3, hfz16_0, hfz16_1, hfz16_2, hfz16_3⟩ := cf4 (w := w15) BK797) | ((with_reducible refine gate_callee (f := 36) rfl ?_); refine gL (some 9) Try.func36 #[.agg #[.int .i64 a0_0, .int .i64 a0_1, .int .i64 a0_2, .slice A0_3 l0_3.length c0_3]] ?_; (with_reducible refine (impl_IsTable.calls k a0_0 a0_1 a0_2 _ _ l0_3 true _ ?side1 ?side2 A4.out).mono ?_); (case side1 => exact Cz (Kd.C_below HR0_3.out HB.out)); (case side2 => exact HC0_3.out); rintro e w17 ⟨rfl, hb⟩; refine ⟨_, rfl, ?_⟩; have n0_ := Kb BK797 hb; have n1_ := Bc HB hb; clear BK797 HB; revert n0_ n1_; intro BK797 HB; (try clear hb); (try clear hb2); (try clear hk); (try clear hi)) | (go_at_call 37; (with_reducible refine (impl_AreKeys.calls k _ _ l1 true _ ?side1 ?side2 A6.out).mono ?_); (case side1 => exact Cz (Kd.C_below HR1.out HB.out)); (case side2 => exact HC1.out); rintro e w' ⟨rfl, ⟨nd, rfl⟩⟩) | (go_at_call 123; (with_reducible refine (impl_areTexts.calls k _ _ l2 false _ ?side1 ?side2 A8.out).mono ?_); (case side1 => exact Cz (Kd.C_below HR2.out (Bq))); (case side2 => exact HC2.out); rintro e w' ⟨rfl, ⟨nd, rfl⟩⟩))
    go_ret2
    exact ⟨_, eZ, nZ, Bq⟩
  ·replace c7 := Bool.eq_false_iff.mpr c7
   subst c7
   rw [if_neg Bool.false_ne_true] at H
   simp only [Option.some.injEq, Prod.mk.injEq] at H
   obtain ⟨rfl, rfl⟩ := H
   go_enter Try.func46, Try.ntmps46
   go_wp2_with (first | ((with_reducible refine gate_dst (N := 3) rfl ?_); refine bE 3 #[.int .i64 a0_0, .int .i64 a0_1, .int .i64 a0_2, .slice A0_3 l0_3.length c0_3] 71 ?_; intro gb797 hg w18 hbox hb; have n0_ := Bb HB hb; have n1_ := am (hbox); have n2_ := Gl HB hg; have n3_ := Gl HB hg; clear HB; revert n0_ n1_ n2_ n3_; intro HB BK797 GW797 GE797; clear hb hbox hg; obtain ⟨hcz19_0, hcz19_1, hcz19_2, hcz19_3, hfz19_0, hfz19_1, hfz19_2, hfz19_3⟩ := cf4 (w := w18) BK797) | ((with_reducible refine gate_callee (f := 36) rfl ?_); refine gL (some 9) Try.func36 #[.agg #[.int .i64 a0_0, .int .i64 a0_1, .int .i64 a0_2, .slice A0_3 l0_3.length c0_3]] ?_; (with_reducible refine (impl_IsTable.calls k a0_0 a0_1 a0_2 _ _ l0_3 true _ ?side1 ?side2 A4.out).mono ?_); (case side1 => exact Cz (Kd.C_below HR0_3.out HB.out)); (case side2 => exact HC0_3.out); rintro e w20 ⟨rfl, hb⟩; refine ⟨_, rfl, ?_⟩; have n0_ := Kb BK797 hb; have n1_ := Bc HB hb; clear BK797 HB; revert n0_ n1_; intro BK797 HB; (try clear hb); (try clear hb2); (try clear hk); (try clear hi)) | (go_at_call 37; (with_reducible refine (impl_AreKeys.calls k _ _ l1 false _ ?side1 ?side2 A6.out).mono ?_); (case side1 => exact Cz (Kd.C_below HR1.out HB.out)); (case side2 => exact HC1.out); rintro e w' ⟨rfl, ⟨nd, rfl⟩⟩))
   go_ret2
   exact ⟨_, eZ, nZ, Bq⟩
 ·replace c5 := Bool.eq_false_iff.mpr c5
  subst c5
  rw [if_neg Bool.false_ne_true] at H
  simp only [Option.some.injEq, Prod.mk.injEq] at H
  obtain ⟨rfl, rfl⟩ := H
  go_enter Try.func46, Try.ntmps46
  go_wp2_with (first | ((with_reducible refine gate_dst (N := 3) rfl ?_); refine bE 3 #[.int .i64 a0_0, .int .i64 a0_1, .int .i64 a0_2, .slice A0_3 l0_3.length c0_3] 71 ?_; intro gb797 hg w21 hbox hb; have n0_ := Bb HB hb; have n1_ := am (hbox); have n2_ := Gl HB hg; have n3_ := Gl HB hg; clear HB; revert n0_ n1_ n2_ n3_; intro HB BK797 GW797 GE797; clear hb hbox hg; obtain ⟨hcz22_0, hcz22_1, hcz22_2, hcz22_3, hfz22_0, hfz22_1, hfz22_2, hfz22_3⟩ := cf4 (w := w21) BK797) | ((with_reducible refine gate_callee (f := 36) rfl ?_); refine gL (some 9) Try.func36 #[.agg #[.int .i64 a0_0, .int .i64 a0_1, .int .i64 a0_2, .slice A0_3 l0_3.length c0_3]] ?_; (with_reducible refine (impl_IsTable.calls k a0_0 a0_1 a0_2 _ _ l0_3 false _ ?side1 ?side2 A4.out).mono ?_); (case side1 => exact Cz (Kd.C_below HR0_3.out HB.out)); (case side2 => exact HC0_3.out); rintro e w23 ⟨rfl, hb⟩; refine ⟨_, rfl, ?_⟩; have n0_ := Kb BK797 hb; have n1_ := Bc HB hb; clear BK797 HB; revert n0_ n1_; intro BK797 HB; (try clear hb); (try clear hb2); (try clear hk); (try clear hi)))
  go_ret2
  exact ⟨_, eZ, nZ, Bq⟩

def spec_l1All.l0 : Nat → Int → Int → List Int → Int → Int → Option (Bool)
 | 0, _, _, _, _, _ => none
 | k + 1, x1, x2, x9, x10, x11 => if x11 < x10 then (if 0 ≤ x11 then (if x11 < (x9.length : Int) then ((spec_l1In.f (rd x9 x11) x1 x2).bind fun t805 => (if t805 = true then (spec_l1All.l0 k x1 x2 x9 x10 (wrap64 (x11 + 1))) else (some false))) else (none)) else (none)) else (some true)
def spec_l1All.f (k : Nat) (l0 : List Int) (a1 : Int) (a2 : Int) : Option (Bool) := spec_l1All.l0 k a1 a2 l0 (l0.length : Int) 0
theorem spec_l1All.calls (k : Nat) (A0 : Option Addr) (c0 : Nat) (l0 : List Int) (a1 : Int) (a2 : Int) (r : Bool) (w : World) (hr0 : Kd.C (Kd.int .i64) w A0 l0.length l0) (hc0 : l0.length ≤ c0) (h : spec_l1All.f k l0 a1 a2 = some r) :
  Calls Try.prog 134 #[.slice A0 l0.length c0, .int .i64 a1, .int .i64 a2] w fun e w' => e = .returned (.bool r) ∧ Drawn0 w w' := by
 have HR0 := am hr0; have HC0 := am hc0; clear hr0 hc0; have H : (spec_l1All.l0 k a1 a2 l0 (l0.length : Int) 0) = some r := h; clear h; have H' := am H; clear H
 go_enter Try.func134, Try.ntmps134
 go_wp2
 go_loopg [11] k (fun kq v11 w' => ∃ (x11_1 : Int), v11 = .int .i64 x11_1 ∧ Aside0 (spec_l1All.l0 kq a1 a2 l0 (l0.length : Int) x11_1 = some r) ∧ Aside0 (kq ≤ k) ∧ Drawn0 w w')
 case atStart => exact ⟨(0), wZ, H', ⟨Nat.le_refl _⟩, by repeat (first | exact Drawn0.refl _ | apply Drawn0.step)⟩
 case round =>
  clear H'
  try clear c1
  try clear p2
  obtain ⟨x11_1, rfl, HA, HK1, ⟨m1, rfl⟩⟩ := hrel; cases gk with
  | zero => exact absurd HA.out (by simp [spec_l1All.l0])
  | succ k1 =>
   have H := HA.out; clear HA
   simp only [spec_l1All.l0] at H
   by_cases c4 : x11_1 < (l0.length : Int)
   ·rw [if_pos c4] at H
    have c4b0 : decide (x11_1 < (l0.length : Int)) = true := decide_eq_true c4; clear c4
    by_cases c5 : 0 ≤ x11_1
    ·rw [if_pos c5] at H
     have c5b0 : decide (0 ≤ x11_1) = true := decide_eq_true c5; clear c5
     by_cases c6 : x11_1 < (l0.length : Int)
     ·rw [if_pos c6] at H
      have c6b0 : decide (x11_1 < (l0.length : Int)) = true := decide_eq_true c6; clear c6; obtain ⟨t805, A7, H⟩ := ob H; (try dsimp -simprocs only at H)
      by_cases c8 : t805 = true
      ·subst c8
       rw [if_pos rfl] at H; have H' := am H; clear H; obtain ⟨ad804, e804, hx804_0⟩ := Kd.at_int HR0.out x11_1 dT dT; cases e804; have p804 := eT (0 ≤ (x11_1 : Int)); have q804 := eT (x11_1 < (l0.length : Int))
       go_wp2_with (first | ((with_reducible refine gate_callee (f := 95) rfl ?_); refine gL (some 18) Try.func95 #[.int .i64 (rd l0 x11_1), .int .i64 a1, .int .i64 a2] ?_; (with_reducible refine (spec_l1In.calls (rd l0 x11_1) a1 a2 true _ A7.out).mono ?_); rintro e w' ⟨rfl, ⟨nd, rfl⟩⟩; refine ⟨_, rfl, ?_⟩))
       go_roundg k1
       case measure => have := HK1.out; omega
       case rel => exact ⟨(wrap64 (x11_1 + 1)), wZ, H', ⟨by have := HK1.out; omega⟩, by repeat (first | exact Drawn0.refl _ | apply Drawn0.step)⟩
      ·replace c8 := Bool.eq_false_iff.mpr c8
       subst c8
       rw [if_neg Bool.false_ne_true] at H; obtain rfl := Option.some.inj H; obtain ⟨ad804, e804, hx804_0⟩ := Kd.at_int HR0.out x11_1 dT dT; cases e804; have p804 := eT (0 ≤ (x11_1 : Int)); have q804 := eT (x11_1 < (l0.length : Int))
       go_wp2_with (first | ((with_reducible refine gate_callee (f := 95) rfl ?_); refine gL (some 18) Try.func95 #[.int .i64 (rd l0 x11_1), .int .i64 a1, .int .i64 a2] ?_; (with_reducible refine (spec_l1In.calls (rd l0 x11_1) a1 a2 false _ A7.out).mono ?_); rintro e w' ⟨rfl, ⟨nd, rfl⟩⟩; refine ⟨_, rfl, ?_⟩))
       go_ret
       exact ⟨by first | rfl | (simp; done) | (simp [*]; done), by repeat (first | exact Drawn0.refl _ | apply Drawn0.step)⟩
     ·rw [if_neg c6] at H
      exact absurd H (by simp)
    ·rw [if_neg c5] at H
     exact absurd H (by simp)
   ·rw [if_neg c4] at H
    have c4b0 : decide (x11_1 < (l0.length : Int)) = false := decide_eq_false c4; clear c4; obtain rfl := Option.some.inj H
    go_wp2
    go_ret
    exact ⟨by first | rfl | (simp; done) | (simp [*]; done), by repeat (first | exact Drawn0.refl _ | apply Drawn0.step)⟩

end Go.Proofs.Ytmehagedoaopeaa.PR
namespace Go.Proofs.Ytmehagedoaopeaa.PR
open Go.RowKit Go.Proofs.YtmehagedoaopeaaW.PrintWords Go.Proofs.YtmehagedoaopeaaW.PrintLast Go.Proofs.YtmehagedoaopeaaW.PrintMore Go.Proofs.YtmehagedoaopeaaSq
attribute [local go_sem] max2_int min2_int max_two min_two max_three min_three max_four min_four   -- for this text's walks alone
attribute [local go_sem] Go.Proofs.YtmehagedoaopeaaGp.str_geq Go.Proofs.YtmehagedoaopeaaGp.str_gtr Go.Proofs.YtmehagedoaopeaaGp.str_leq
set_option linter.unusedVariables false
set_option linter.unusedSimpArgs false

set_option maxHeartbeats 8000000
set_option maxRecDepth 100000
def spec_reTable.f (k : Nat) (a0_0 : Int) (a0_1 : Int) (a0_2 : Int) (l0_3 : List Int) : Option (Bool) := (spec_l1In.f a0_0 0 9999).bind fun t807 => (if t807 = true then ((spec_l1In.f a0_1 1 24).bind fun t808 => (if t808 = true then ((spec_reWidth.f a0_2).bind fun t809 => (if t809 = true then (if (l0_3.length : Int) = (wrap64 (3 * a0_1)) then ((spec_reTop.f a0_2).bind fun t810 => ((spec_l1All.f k l0_3 0 (wrap64 (t810 - 1))).bind fun t811 => (some t811))) else (some false)) else (some false))) else (some false))) else (some false))
def spec_reTable.T1 : Bool × List (List Nat × List Nat) := (true, [([], []), ([0], [0]), ([1], [1]), ([2, 2], [2]), ([3], [3]), ([4, 3], [3, 4]), ([5, 3, 3], [3, 5]), ([3, 6], [3, 6]), ([7, 6], [7]), ([8], [8]), ([9, 8], [8, 9]), ([10, 8, 8], [8, 10]), ([8, 11], [8, 11]), ([12, 11], [12]), ([13], [13]), ([14, 13], [13, 14]), ([15, 13], [13, 15]), ([13], [13]), ([17, 13], [13, 17]), ([18, 13], [13, 18]), ([16, 19, 13], [13, 16, 19]), ([13, 20], [13, 20]), ([21, 13], [21]), ([22], [22]), ([23, 22], [22, 23]), ([22], [22]), ([25, 22], [22, 25]), ([26, 22, 22], [22, 26]), ([27, 22], [22, 27]), ([24, 28, 27, 22], [22, 24, 28]), ([22, 29], [22, 29]), ([30, 29, 0, 1, 2, 3, 4, 5, 6, 7, 8, 9, 10, 11, 12, 13, 14, 15, 16, 17, 18, 19, 20, 21, 22, 23, 24, 25, 26, 27, 28, 29, 30], [30])])
def spec_reTable.B1 : List Nat := [0, 1, 3, 7, 15, 31, 63, 127, 255, 511, 1023, 2047, 4095, 8191, 16383, 32767, 65535, 16383, 147455, 409599, 1048575, 2097151, 4194303, 8388607, 16777215, 8388607, 41943039, 109051903, 243269631, 536870911, 1073741823, 2147483647]
theorem spec_reTable.tab1 : rtab .any (opsOf Try.f111 1) = spec_reTable.T1 := by kernel_rfl
theorem spec_reTable.bits1 : waitsOk spec_reTable.T1.2 spec_reTable.B1 = true := by kernel_rfl
theorem spec_reTable.calls (k : Nat) (a0_0 : Int) (a0_1 : Int) (a0_2 : Int) (A0_3 : Option Addr) (c0_3 : Nat) (l0_3 : List Int) (r : Bool) (w : World) (hr0_3 : Kd.C (Kd.int .i64) w A0_3 l0_3.length l0_3) (hc0_3 : l0_3.length ≤ c0_3) (h : spec_reTable.f k a0_0 a0_1 a0_2 l0_3 = some r) :
  Calls Try.prog 111 #[.agg #[.int .i64 a0_0, .int .i64 a0_1, .int .i64 a0_2, .slice A0_3 l0_3.length c0_3]] w fun e w' => e = .returned (.bool r) ∧ Below w.heap.size w w' := by
 have hu71 := Try.underlying71; have HR0_3 := am hr0_3; have HC0_3 := am hc0_3; clear hr0_3 hc0_3; have HB := am (Below.refl w.heap.size w); have H : ((spec_l1In.f a0_0 0 9999).bind fun t807 => (if t807 = true then ((spec_l1In.f a0_1 1 24).bind fun t808 => (if t808 = true then ((spec_reWidth.f a0_2).bind fun t809 => (if t809 = true then (if (l0_3.length : Int) = (wrap64 (3 * a0_1)) then ((spec_reTop.f a0_2).bind fun t810 => ((spec_l1All.f k l0_3 0 (wrap64 (t810 - 1))).bind fun t811 => (some t811))) else (some false)) else (some false))) else (some false))) else (some false))) = some r := h; clear h; obtain ⟨t807, A2, H⟩ := ob H; (try dsimp -simprocs only at H)
 by_cases c3 : t807 = true
 ·subst c3
  rw [if_pos rfl] at H; obtain ⟨t808, A4, H⟩ := ob H; (try dsimp -simprocs only at H)
  by_cases c5 : t808 = true
  ·subst c5
   rw [if_pos rfl] at H; obtain ⟨t809, A6, H⟩ := ob H; (try dsimp -simprocs only at H)
   by_cases c7 : t809 = true
   ·subst c7
    rw [if_pos rfl] at H
    by_cases c8 : (l0_3.length : Int) = (wrap64 (3 * a0_1))
    ·rw [if_pos c8] at H
     have c8b0 : ((l0_3.length : Int) == (wrap64 (3 * a0_1))) = true := beq_iff_eq.mpr c8; have c8b1 : ((l0_3.length : Int) != (wrap64 (3 * a0_1))) = false := bne_eq_false_iff_eq.mpr c8; clear c8; obtain ⟨t810, A9, H⟩ := ob H; (try dsimp -simprocs only at H); obtain ⟨t811, A10, H⟩ := ob H; (try dsimp -simprocs only at H); obtain rfl := Option.some.inj H
     go_enter Try.func111, Try.ntmps111
     try go_wp2_with (first | ((with_reducible refine gate_dst (N := 1) rfl ?_); (try (refine gate_guard (by rfl) ?_; dsimp only)); refine bE 1 #[.int .i64 a0_0, .int .i64 a0_1, .int .i64 a0_2, .slice A0_3 l0_3.length c0_3] 71 ?_; intro gb806 hg w11 hbox hb; have n0_ := Bb HB hb; have n1_ := am (hbox); have n2_ := Gl HB hg; have n3_ := Gl HB hg; clear HB; revert n0_ n1_ n2_ n3_; intro HB BK806 GW806 GE806; clear hb hbox hg))
     have n0_ := am (blk_drew BK806.out); have n1_ := am (below_drew1 HB.out); clear BK806 HB; revert n0_ n1_; intro BK806 HB; refine start_ (n := 32) (S := fun w' => w'.cell? ⟨gb806, 0, none⟩ = some (.int .i64 a0_0) ∧ w'.cell? ⟨gb806, 1, none⟩ = some (.int .i64 a0_1) ∧ w'.cell? ⟨gb806, 2, none⟩ = some (.int .i64 a0_2) ∧ w'.cell? ⟨gb806, 3, none⟩ = some (.slice A0_3 l0_3.length c0_3)) (ds := []) (bA 32 0) (by kernel_rfl) rfl rfl ⟨cz BK806 0, cz BK806 1, cz BK806 2, cz BK806 3⟩ (fun hHeld => ?_); refine with_tabW spec_reTable.tab1 spec_reTable.bits1 (fun HT_ HW_ => ?_); generalize w11.drew = w12 at BK806 HB hHeld ⊢; refine pZ 0 (some 3) (bA 32 1) HT_.out ?_; refine tZ4 1 (some 4) (bA 32 3) HT_.out HW_.out hHeld ?_; refine oZ 2 (some 5) (bA 32 7) HT_.out (fun K hK => ?_); refine gZ Try.func95 #[.int .i64 a0_0, .int .i64 0, .int .i64 9999] ?_
     with_reducible refine (spec_l1In.calls a0_0 0 9999 true _ A2.out).mono ?_
     rintro e w' ⟨rfl, ⟨nd, rfl⟩⟩; refine ⟨_, rfl, ?_⟩; refine hK.out _ _ ⟨cz BK806 0, cz BK806 1, cz BK806 2, cz BK806 3⟩ (fun hHeld => ?_); clear hK K; refine norm_ (a' := ?_) ?_ ?_; rotate_left; show Act.put _ (some 5) _ = _; simp only [aP, i64_w, i32_w]; rfl; refine pZ 3 (some 6) (bA 32 15) HT_.out ?_; refine pZ 4 (some 7) (bA 32 31) HT_.out ?_; refine tZ4 5 (some 8) (bA 32 63) HT_.out HW_.out hHeld ?_; refine oZ 6 (some 9) (bA 32 127) HT_.out (fun K hK => ?_); refine gZ Try.func95 #[.int .i64 a0_1, .int .i64 1, .int .i64 24] ?_
     with_reducible refine (spec_l1In.calls a0_1 1 24 true _ A4.out).mono ?_
     rintro e w' ⟨rfl, ⟨nd, rfl⟩⟩; refine ⟨_, rfl, ?_⟩; refine hK.out _ _ ⟨cz BK806 0, cz BK806 1, cz BK806 2, cz BK806 3⟩ (fun hHeld => ?_); clear hK K; refine norm_ (a' := ?_) ?_ ?_; rotate_left; show Act.put _ (some 9) _ = _; simp only [aP, i64_w, i32_w]; rfl; refine pZ 7 (some 10) (bA 32 255) HT_.out ?_; refine pZ 8 (some 11) (bA 32 511) HT_.out ?_; refine pZ 9 (some 12) (bA 32 1023) HT_.out ?_; refine tZ4 10 (some 13) (bA 32 2047) HT_.out HW_.out hHeld ?_; refine oZ 11 (some 14) (bA 32 4095) HT_.out (fun K hK => ?_); refine gZ Try.func118 #[.int .i64 a0_2] ?_
     with_reducible refine (spec_reWidth.calls a0_2 true _ A6.out).mono ?_
     rintro e w' ⟨rfl, ⟨nd, rfl⟩⟩; refine ⟨_, rfl, ?_⟩; refine hK.out _ _ ⟨cz BK806 0, cz BK806 1, cz BK806 2, cz BK806 3⟩ (fun hHeld => ?_); clear hK K; refine norm_ (a' := ?_) ?_ ?_; rotate_left; show Act.put _ (some 14) _ = _; simp only [aP, i64_w, i32_w]; rfl; refine pZ 12 (some 15) (bA 32 8191) HT_.out ?_; refine pZ 13 (some 16) (bA 32 16383) HT_.out ?_; refine pZ 14 (some 17) (bA 32 32767) HT_.out ?_; refine pZ 17 (some 20) (bA 32 163839) HT_.out ?_; refine tZ4 15 (some 18) (bA 32 196607) HT_.out HW_.out hHeld ?_; refine pZ 16 (some 19) (bA 32 262143) HT_.out ?_; refine tZ4 18 (some 21) (bA 32 524287) HT_.out HW_.out hHeld ?_; refine pZ 19 (some 22) (bA 32 1048575) HT_.out ?_; refine pZ 20 (some 23) (bA 32 2097151) HT_.out ?_; refine pZ 21 (some 24) (bA 32 4194303) HT_.out ?_; refine pZ 22 (some 25) (bA 32 8388607) HT_.out ?_; refine pZ 23 (some 26) (bA 32 16777215) HT_.out ?_; refine pZ 25 (some 28) (bA 32 50331647) HT_.out ?_; refine tZ4 24 (some 27) (bA 32 67108863) HT_.out HW_.out hHeld ?_; refine tZ4 26 (some 29) (bA 32 134217727) HT_.out HW_.out hHeld ?_; refine oZ 27 (some 30) (bA 32 268435455) HT_.out (fun K hK => ?_); refine gZ Try.func162 #[.int .i64 a0_2] ?_
     with_reducible refine (spec_reTop.calls a0_2 t810 _ A9.out).mono ?_
     rintro e w' ⟨rfl, ⟨nd, rfl⟩⟩; refine ⟨_, rfl, ?_⟩; refine hK.out _ _ ⟨cz BK806 0, cz BK806 1, cz BK806 2, cz BK806 3⟩ (fun hHeld => ?_); clear hK K; refine norm_ (a' := ?_) ?_ ?_; rotate_left; show Act.put _ (some 30) _ = _; simp only [aP, i64_w, i32_w]; rfl; refine pZ 28 (some 31) (bA 32 536870911) HT_.out ?_; refine oZ 29 (some 32) (bA 32 1073741823) HT_.out (fun K hK => ?_); refine gZ Try.func134 #[.slice A0_3 l0_3.length c0_3, .int .i64 0, .int .i64 (wrap64 (t810 - 1))] ?_
     with_reducible refine (spec_l1All.calls k _ _ l0_3 0 (wrap64 (t810 - 1)) t811 _ ?side1 ?side2 A10.out).mono ?_
     (case side1 => exact Cz (Kd.C_below HR0_3.out (Bq)))
     (case side2 => exact HC0_3.out)
     rintro e w' ⟨rfl, ⟨nd, rfl⟩⟩; refine ⟨_, rfl, ?_⟩; refine hK.out _ _ ⟨cz BK806 0, cz BK806 1, cz BK806 2, cz BK806 3⟩ (fun hHeld => ?_); clear hK K; refine norm_ (a' := ?_) ?_ ?_; rotate_left; show Act.put _ (some 32) _ = _; simp only [aP, i64_w, i32_w]; rfl; refine pZ 30 (some 33) (bA 32 2147483647) HT_.out ?_; refine pZ 31 (some 2) (bA 32 4294967295) HT_.out ?_; refine done_ (done_of HT_.out (by kernel_rfl)) ?_
     try go_wp2
     go_ret
     exact ⟨eZ, Bq⟩
    ·rw [if_neg c8] at H
     have c8b0 : ((l0_3.length : Int) == (wrap64 (3 * a0_1))) = false := beq_eq_false_iff_ne.mpr c8; have c8b1 : ((l0_3.length : Int) != (wrap64 (3 * a0_1))) = true := bne_iff_ne.mpr c8; obtain rfl := Option.some.inj H
     go_enter Try.func111, Try.ntmps111
     try go_wp2_with (first | ((with_reducible refine gate_dst (N := 1) rfl ?_); (try (refine gate_guard (by rfl) ?_; dsimp only)); refine bE 1 #[.int .i64 a0_0, .int .i64 a0_1, .int .i64 a0_2, .slice A0_3 l0_3.length c0_3] 71 ?_; intro gb806 hg w13 hbox hb; have n0_ := Bb HB hb; have n1_ := am (hbox); have n2_ := Gl HB hg; have n3_ := Gl HB hg; clear HB; revert n0_ n1_ n2_ n3_; intro HB BK806 GW806 GE806; clear hb hbox hg))
     have n0_ := am (blk_drew BK806.out); have n1_ := am (below_drew1 HB.out); clear BK806 HB; revert n0_ n1_; intro BK806 HB; refine start_ (n := 32) (S := fun w' => w'.cell? ⟨gb806, 0, none⟩ = some (.int .i64 a0_0) ∧ w'.cell? ⟨gb806, 1, none⟩ = some (.int .i64 a0_1) ∧ w'.cell? ⟨gb806, 2, none⟩ = some (.int .i64 a0_2) ∧ w'.cell? ⟨gb806, 3, none⟩ = some (.slice A0_3 l0_3.length c0_3)) (ds := []) (bA 32 0) (by kernel_rfl) rfl rfl ⟨cz BK806 0, cz BK806 1, cz BK806 2, cz BK806 3⟩ (fun hHeld => ?_); refine with_tabW spec_reTable.tab1 spec_reTable.bits1 (fun HT_ HW_ => ?_); generalize w13.drew = w14 at BK806 HB hHeld ⊢; refine pZ 0 (some 3) (bA 32 1) HT_.out ?_; refine tZ4 1 (some 4) (bA 32 3) HT_.out HW_.out hHeld ?_; refine oZ 2 (some 5) (bA 32 7) HT_.out (fun K hK => ?_); refine gZ Try.func95 #[.int .i64 a0_0, .int .i64 0, .int .i64 9999] ?_
     with_reducible refine (spec_l1In.calls a0_0 0 9999 true _ A2.out).mono ?_
     rintro e w' ⟨rfl, ⟨nd, rfl⟩⟩; refine ⟨_, rfl, ?_⟩; refine hK.out _ _ ⟨cz BK806 0, cz BK806 1, cz BK806 2, cz BK806 3⟩ (fun hHeld => ?_); clear hK K; refine norm_ (a' := ?_) ?_ ?_; rotate_left; show Act.put _ (some 5) _ = _; simp only [aP, i64_w, i32_w]; rfl; refine pZ 3 (some 6) (bA 32 15) HT_.out ?_; refine pZ 4 (some 7) (bA 32 31) HT_.out ?_; refine tZ4 5 (some 8) (bA 32 63) HT_.out HW_.out hHeld ?_; refine oZ 6 (some 9) (bA 32 127) HT_.out (fun K hK => ?_); refine gZ Try.func95 #[.int .i64 a0_1, .int .i64 1, .int .i64 24] ?_
     with_reducible refine (spec_l1In.calls a0_1 1 24 true _ A4.out).mono ?_
     rintro e w' ⟨rfl, ⟨nd, rfl⟩⟩; refine ⟨_, rfl, ?_⟩; refine hK.out _ _ ⟨cz BK806 0, cz BK806 1, cz BK806 2, cz BK806 3⟩ (fun hHeld => ?_); clear hK K; refine norm_ (a' := ?_) ?_ ?_; rotate_left; show Act.put _ (some 9) _ = _; simp only [aP, i64_w, i32_w]; rfl; refine pZ 7 (some 10) (bA 32 255) HT_.out ?_; refine pZ 8 (some 11) (bA 32 511) HT_.out ?_; refine pZ 9 (some 12) (bA 32 1023) HT_.out ?_; refine tZ4 10 (some 13) (bA 32 2047) HT_.out HW_.out hHeld ?_; refine oZ 11 (some 14) (bA 32 4095) HT_.out (fun K hK => ?_); refine gZ Try.func118 #[.int .i64 a0_2] ?_
     with_reducible refine (spec_reWidth.calls a0_2 true _ A6.out).mono ?_
     rintro e w' ⟨rfl, ⟨nd, rfl⟩⟩; refine ⟨_, rfl, ?_⟩; refine hK.out _ _ ⟨cz BK806 0, cz BK806 1, cz BK806 2, cz BK806 3⟩ (fun hHeld => ?_); clear hK K; refine norm_ (a' := ?_) ?_ ?_; rotate_left; show Act.put _ (some 14) _ = _; simp only [aP, i64_w, i32_w]; rfl; refine pZ 12 (some 15) (bA 32 8191) HT_.out ?_; refine pZ 13 (some 16) (bA 32 16383) HT_.out ?_; refine pZ 14 (some 17) (bA 32 32767) HT_.out ?_; refine pZ 17 (some 20) (bA 32 163839) HT_.out ?_; refine tZ4 15 (some 18) (bA 32 196607) HT_.out HW_.out hHeld ?_; refine pZ 16 (some 19) (bA 32 262143) HT_.out ?_; refine tZ4 18 (some 21) (bA 32 524287) HT_.out HW_.out hHeld ?_; refine pZ 19 (some 22) (bA 32 1048575) HT_.out ?_; refine pZ 20 (some 23) (bA 32 2097151) HT_.out ?_; refine pZ 21 (some 24) (bA 32 4194303) HT_.out ?_; refine pZ 22 (some 25) (bA 32 8388607) HT_.out ?_; refine sZ 23 (some 26) (bA 32 16777215) HT_.out ?_; refine sZ 24 (some 27) (bA 32 33554431) HT_.out ?_; refine sZ 25 (some 28) (bA 32 67108863) HT_.out ?_; refine sZ 26 (some 29) (bA 32 134217727) HT_.out ?_; refine sZ 27 (some 30) (bA 32 268435455) HT_.out ?_; refine sZ 28 (some 31) (bA 32 536870911) HT_.out ?_; refine sZ 29 (some 32) (bA 32 1073741823) HT_.out ?_; refine pZ 30 (some 33) (bA 32 2147483647) HT_.out ?_; refine pZ 31 (some 2) (bA 32 4294967295) HT_.out ?_; refine done_ (done_of HT_.out (by kernel_rfl)) ?_
     try go_wp2
     go_ret
     exact ⟨eZ, Bq⟩
   ·replace c7 := Bool.eq_false_iff.mpr c7
    subst c7
    rw [if_neg Bool.false_ne_true] at H; obtain rfl := Option.some.inj H
    go_enter Try.func111, Try.ntmps111
    try go_wp2_with (first | ((with_reducible refine gate_dst (N := 1) rfl ?_); (try (refine gate_guard (by rfl) ?_; dsimp only)); refine bE 1 #[.int .i64 a0_0, .int .i64 a0_1, .int .i64 a0_2, .slice A0_3 l0_3.length c0_3] 71 ?_; intro gb806 hg w15 hbox hb; have n0_ := Bb HB hb; have n1_ := am (hbox); have n2_ := Gl HB hg; have n3_ := Gl HB hg; clear HB; revert n0_ n1_ n2_ n3_; intro HB BK806 GW806 GE806; clear hb hbox hg))
    have n0_ := am (blk_drew BK806.out); have n1_ := am (below_drew1 HB.out); clear BK806 HB; revert n0_ n1_; intro BK806 HB; refine start_ (n := 32) (S := fun w' => w'.cell? ⟨gb806, 0, none⟩ = some (.int .i64 a0_0) ∧ w'.cell? ⟨gb806, 1, none⟩ = some (.int .i64 a0_1) ∧ w'.cell? ⟨gb806, 2, none⟩ = some (.int .i64 a0_2) ∧ w'.cell? ⟨gb806, 3, none⟩ = some (.slice A0_3 l0_3.length c0_3)) (ds := []) (bA 32 0) (by kernel_rfl) rfl rfl ⟨cz BK806 0, cz BK806 1, cz BK806 2, cz BK806 3⟩ (fun hHeld => ?_); refine with_tabW spec_reTable.tab1 spec_reTable.bits1 (fun HT_ HW_ => ?_); generalize w15.drew = w16 at BK806 HB hHeld ⊢; refine pZ 0 (some 3) (bA 32 1) HT_.out ?_; refine tZ4 1 (some 4) (bA 32 3) HT_.out HW_.out hHeld ?_; refine oZ 2 (some 5) (bA 32 7) HT_.out (fun K hK => ?_); refine gZ Try.func95 #[.int .i64 a0_0, .int .i64 0, .int .i64 9999] ?_
    with_reducible refine (spec_l1In.calls a0_0 0 9999 true _ A2.out).mono ?_
    rintro e w' ⟨rfl, ⟨nd, rfl⟩⟩; refine ⟨_, rfl, ?_⟩; refine hK.out _ _ ⟨cz BK806 0, cz BK806 1, cz BK806 2, cz BK806 3⟩ (fun hHeld => ?_); clear hK K; refine norm_ (a' := ?_) ?_ ?_; rotate_left; show Act.put _ (some 5) _ = _; simp only [aP, i64_w, i32_w]; rfl; refine pZ 3 (some 6) (bA 32 15) HT_.out ?_; refine pZ 4 (some 7) (bA 32 31) HT_.out ?_; refine tZ4 5 (some 8) (bA 32 63) HT_.out HW_.out hHeld ?_; refine oZ 6 (some 9) (bA 32 127) HT_.out (fun K hK => ?_); refine gZ Try.func95 #[.int .i64 a0_1, .int .i64 1, .int .i64 24] ?_
    with_reducible refine (spec_l1In.calls a0_1 1 24 true _ A4.out).mono ?_
    rintro e w' ⟨rfl, ⟨nd, rfl⟩⟩; refine ⟨_, rfl, ?_⟩; refine hK.out _ _ ⟨cz BK806 0, cz BK806 1, cz BK806 2, cz BK806 3⟩ (fun hHeld => ?_); clear hK K; refine norm_ (a' := ?_) ?_ ?_; rotate_left; show Act.put _ (some 9) _ = _; simp only [aP, i64_w, i32_w]; rfl; refine pZ 7 (some 10) (bA 32 255) HT_.out ?_; refine pZ 8 (some 11) (bA 32 511) HT_.out ?_; refine pZ 9 (some 12) (bA 32 1023) HT_.out ?_; refine tZ4 10 (some 13) (bA 32 2047) HT_.out HW_.out hHeld ?_; refine oZ 11 (some 14) (bA 32 4095) HT_.out (fun K hK => ?_); refine gZ Try.func118 #[.int .i64 a0_2] ?_
    with_reducible refine (spec_reWidth.calls a0_2 false _ A6.out).mono ?_
    rintro e w' ⟨rfl, ⟨nd, rfl⟩⟩; refine ⟨_, rfl, ?_⟩; refine hK.out _ _ ⟨cz BK806 0, cz BK806 1, cz BK806 2, cz BK806 3⟩ (fun hHeld => ?_); clear hK K; refine norm_ (a' := ?_) ?_ ?_; rotate_left; show Act.put _ (some 14) _ = _; simp only [aP, i64_w, i32_w]; rfl; refine pZ 12 (some 15) (bA 32 8191) HT_.out ?_; refine pZ 13 (some 16) (bA 32 16383) HT_.out ?_; refine sZ 14 (some 17) (bA 32 32767) HT_.out ?_; refine sZ 15 (some 18) (bA 32 65535) HT_.out ?_; refine sZ 16 (some 19) (bA 32 131071) HT_.out ?_; refine sZ 17 (some 20) (bA 32 262143) HT_.out ?_; refine sZ 18 (some 21) (bA 32 524287) HT_.out ?_; refine sZ 19 (some 22) (bA 32 1048575) HT_.out ?_; refine sZ 20 (some 23) (bA 32 2097151) HT_.out ?_; refine pZ 21 (some 24) (bA 32 4194303) HT_.out ?_; refine pZ 22 (some 25) (bA 32 8388607) HT_.out ?_; refine sZ 23 (some 26) (bA 32 16777215) HT_.out ?_; refine sZ 24 (some 27) (bA 32 33554431) HT_.out ?_; refine sZ 25 (some 28) (bA 32 67108863) HT_.out ?_; refine sZ 26 (some 29) (bA 32 134217727) HT_.out ?_; refine sZ 27 (some 30) (bA 32 268435455) HT_.out ?_; refine sZ 28 (some 31) (bA 32 536870911) HT_.out ?_; refine sZ 29 (some 32) (bA 32 1073741823) HT_.out ?_; refine pZ 30 (some 33) (bA 32 2147483647) HT_.out ?_; refine pZ 31 (some 2) (bA 32 4294967295) HT_.out ?_; refine done_ (done_of HT_.out (by kernel_rfl)) ?_
    try go_wp2
    go_ret
    exact ⟨eZ, Bq⟩
  ·replace c5 := Bool.eq_false_iff.mpr c5
   subst c5
   rw [if_neg Bool.false_ne_true] at H; obtain rfl := Option.some.inj H
   go_enter Try.func111, Try.ntmps111
   try go_wp2_with (first | ((with_reducible refine gate_dst (N := 1) rfl ?_); (try (refine gate_guard (by rfl) ?_; dsimp only)); refine bE 1 #[.int .i64 a0_0, .int .i64 a0_1, .int .i64 a0_2, .slice A0_3 l0_3.length c0_3] 71 ?_; intro gb806 hg w17 hbox hb; have n0_ := Bb HB hb; have n1_ := am (hbox); have n2_ := Gl HB hg; have n3_ := Gl HB hg; clear HB; revert n0_ n1_ n2_ n3_; intro HB BK806 GW806 GE806; clear hb hbox hg))
   have n0_ := am (blk_drew BK806.out); have n1_ := am (below_drew1 HB.out); clear BK806 HB; revert n0_ n1_; intro BK806 HB; refine start_ (n := 32) (S := fun w' => w'.cell? ⟨gb806, 0, none⟩ = some (.int .i64 a0_0) ∧ w'.cell? ⟨gb806, 1, none⟩ = some (.int .i64 a0_1) ∧ w'.cell? ⟨gb806, 2, none⟩ = some (.int .i64 a0_2) ∧ w'.cell? ⟨gb806, 3, none⟩ = some (.slice A0_3 l0_3.length c0_3)) (ds := []) (bA 32 0) (by kernel_rfl) rfl rfl ⟨cz BK806 0, cz BK806 1, cz BK806 2, cz BK806 3⟩ (fun hHeld => ?_); refine with_tabW spec_reTable.tab1 spec_reTable.bits1 (fun HT_ HW_ => ?_); generalize w17.drew = w18 at BK806 HB hHeld ⊢; refine pZ 0 (some 3) (bA 32 1) HT_.out ?_; refine tZ4 1 (some 4) (bA 32 3) HT_.out HW_.out hHeld ?_; refine oZ 2 (some 5) (bA 32 7) HT_.out (fun K hK => ?_); refine gZ Try.func95 #[.int .i64 a0_0, .int .i64 0, .int .i64 9999] ?_
   with_reducible refine (spec_l1In.calls a0_0 0 9999 true _ A2.out).mono ?_
   rintro e w' ⟨rfl, ⟨nd, rfl⟩⟩; refine ⟨_, rfl, ?_⟩; refine hK.out _ _ ⟨cz BK806 0, cz BK806 1, cz BK806 2, cz BK806 3⟩ (fun hHeld => ?_); clear hK K; refine norm_ (a' := ?_) ?_ ?_; rotate_left; show Act.put _ (some 5) _ = _; simp only [aP, i64_w, i32_w]; rfl; refine pZ 3 (some 6) (bA 32 15) HT_.out ?_; refine pZ 4 (some 7) (bA 32 31) HT_.out ?_; refine tZ4 5 (some 8) (bA 32 63) HT_.out HW_.out hHeld ?_; refine oZ 6 (some 9) (bA 32 127) HT_.out (fun K hK => ?_); refine gZ Try.func95 #[.int .i64 a0_1, .int .i64 1, .int .i64 24] ?_
   with_reducible refine (spec_l1In.calls a0_1 1 24 false _ A4.out).mono ?_
   rintro e w' ⟨rfl, ⟨nd, rfl⟩⟩; refine ⟨_, rfl, ?_⟩; refine hK.out _ _ ⟨cz BK806 0, cz BK806 1, cz BK806 2, cz BK806 3⟩ (fun hHeld => ?_); clear hK K; refine norm_ (a' := ?_) ?_ ?_; rotate_left; show Act.put _ (some 9) _ = _; simp only [aP, i64_w, i32_w]; rfl; refine pZ 7 (some 10) (bA 32 255) HT_.out ?_; refine pZ 8 (some 11) (bA 32 511) HT_.out ?_; refine sZ 9 (some 12) (bA 32 1023) HT_.out ?_; refine sZ 10 (some 13) (bA 32 2047) HT_.out ?_; refine sZ 11 (some 14) (bA 32 4095) HT_.out ?_; refine pZ 12 (some 15) (bA 32 8191) HT_.out ?_; refine pZ 13 (some 16) (bA 32 16383) HT_.out ?_; refine sZ 14 (some 17) (bA 32 32767) HT_.out ?_; refine sZ 15 (some 18) (bA 32 65535) HT_.out ?_; refine sZ 16 (some 19) (bA 32 131071) HT_.out ?_; refine sZ 17 (some 20) (bA 32 262143) HT_.out ?_; refine sZ 18 (some 21) (bA 32 524287) HT_.out ?_; refine sZ 19 (some 22) (bA 32 1048575) HT_.out ?_; refine sZ 20 (some 23) (bA 32 2097151) HT_.out ?_; refine pZ 21 (some 24) (bA 32 4194303) HT_.out ?_; refine pZ 22 (some 25) (bA 32 8388607) HT_.out ?_; refine sZ 23 (some 26) (bA 32 16777215) HT_.out ?_; refine sZ 24 (some 27) (bA 32 33554431) HT_.out ?_; refine sZ 25 (some 28) (bA 32 67108863) HT_.out ?_; refine sZ 26 (some 29) (bA 32 134217727) HT_.out ?_; refine sZ 27 (some 30) (bA 32 268435455) HT_.out ?_; refine sZ 28 (some 31) (bA 32 536870911) HT_.out ?_; refine sZ 29 (some 32) (bA 32 1073741823) HT_.out ?_; refine pZ 30 (some 33) (bA 32 2147483647) HT_.out ?_; refine pZ 31 (some 2) (bA 32 4294967295) HT_.out ?_; refine done_ (done_of HT_.out (by kernel_rfl)) ?_
   try go_wp2
   go_ret
   exact ⟨eZ, Bq⟩
 ·replace c3 := Bool.eq_false_iff.mpr c3
  subst c3
  rw [if_neg Bool.false_ne_true] at H; obtain rfl := Option.some.inj H
  go_enter Try.func111, Try.ntmps111
  try go_wp2_with (first | ((with_reducible refine gate_dst (N := 1) rfl ?_); (try (refine gate_guard (by rfl) ?_; dsimp only)); refine bE 1 #[.int .i64 a0_0, .int .i64 a0_1, .int .i64 a0_2, .slice A0_3 l0_3.length c0_3] 71 ?_; intro gb806 hg w19 hbox hb; have n0_ := Bb HB hb; have n1_ := am (hbox); have n2_ := Gl HB hg; have n3_ := Gl HB hg; clear HB; revert n0_ n1_ n2_ n3_; intro HB BK806 GW806 GE806; clear hb hbox hg))
  have n0_ := am (blk_drew BK806.out); have n1_ := am (below_drew1 HB.out); clear BK806 HB; revert n0_ n1_; intro BK806 HB; refine start_ (n := 32) (S := fun w' => w'.cell? ⟨gb806, 0, none⟩ = some (.int .i64 a0_0) ∧ w'.cell? ⟨gb806, 1, none⟩ = some (.int .i64 a0_1) ∧ w'.cell? ⟨gb806, 2, none⟩ = some (.int .i64 a0_2) ∧ w'.cell? ⟨gb806, 3, none⟩ = some (.slice A0_3 l0_3.length c0_3)) (ds := []) (bA 32 0) (by kernel_rfl) rfl rfl ⟨cz BK806 0, cz BK806 1, cz BK806 2, cz BK806 3⟩ (fun hHeld => ?_); refine with_tabW spec_reTable.tab1 spec_reTable.bits1 (fun HT_ HW_ => ?_); generalize w19.drew = w20 at BK806 HB hHeld ⊢; refine pZ 0 (some 3) (bA 32 1) HT_.out ?_; refine tZ4 1 (some 4) (bA 32 3) HT_.out HW_.out hHeld ?_; refine oZ 2 (some 5) (bA 32 7) HT_.out (fun K hK => ?_); refine gZ Try.func95 #[.int .i64 a0_0, .int .i64 0, .int .i64 9999] ?_
  with_reducible refine (spec_l1In.calls a0_0 0 9999 false _ A2.out).mono ?_
  rintro e w' ⟨rfl, ⟨nd, rfl⟩⟩; refine ⟨_, rfl, ?_⟩; refine hK.out _ _ ⟨cz BK806 0, cz BK806 1, cz BK806 2, cz BK806 3⟩ (fun hHeld => ?_); clear hK K; refine norm_ (a' := ?_) ?_ ?_; rotate_left; show Act.put _ (some 5) _ = _; simp only [aP, i64_w, i32_w]; rfl; refine pZ 3 (some 6) (bA 32 15) HT_.out ?_; refine sZ 4 (some 7) (bA 32 31) HT_.out ?_; refine sZ 5 (some 8) (bA 32 63) HT_.out ?_; refine sZ 6 (some 9) (bA 32 127) HT_.out ?_; refine pZ 7 (some 10) (bA 32 255) HT_.out ?_; refine pZ 8 (some 11) (bA 32 511) HT_.out ?_; refine sZ 9 (some 12) (bA 32 1023) HT_.out ?_; refine sZ 10 (some 13) (bA 32 2047) HT_.out ?_; refine sZ 11 (some 14) (bA 32 4095) HT_.out ?_; refine pZ 12 (some 15) (bA 32 8191) HT_.out ?_; refine pZ 13 (some 16) (bA 32 16383) HT_.out ?_; refine sZ 14 (some 17) (bA 32 32767) HT_.out ?_; refine sZ 15 (some 18) (bA 32 65535) HT_.out ?_; refine sZ 16 (some 19) (bA 32 131071) HT_.out ?_; refine sZ 17 (some 20) (bA 32 262143) HT_.out ?_; refine sZ 18 (some 21) (bA 32 524287) HT_.out ?_; refine sZ 19 (some 22) (bA 32 1048575) HT_.out ?_; refine sZ 20 (some 23) (bA 32 2097151) HT_.out ?_; refine pZ 21 (some 24) (bA 32 4194303) HT_.out ?_; refine pZ 22 (some 25) (bA 32 8388607) HT_.out ?_; refine sZ 23 (some 26) (bA 32 16777215) HT_.out ?_; refine sZ 24 (some 27) (bA 32 33554431) HT_.out ?_; refine sZ 25 (some 28) (bA 32 67108863) HT_.out ?_; refine sZ 26 (some 29) (bA 32 134217727) HT_.out ?_; refine sZ 27 (some 30) (bA 32 268435455) HT_.out ?_; refine sZ 28 (some 31) (bA 32 536870911) HT_.out ?_; refine sZ 29 (some 32) (bA 32 1073741823) HT_.out ?_; refine pZ 30 (some 33) (bA 32 2147483647) HT_.out ?_; refine pZ 31 (some 2) (bA 32 4294967295) HT_.out ?_; refine done_ (done_of HT_.out (by kernel_rfl)) ?_
  try go_wp2
  go_ret
  exact ⟨eZ, Bq⟩

def spec_fiKeys.l0 : Nat → List ByteArray → List ByteArray → Int → Int → Option (Bool)
 | 0, _, _, _, _ => none
 | k + 1, x0, x5, x6, x7 => if x7 < x6 then (if 0 ≤ x7 then (if x7 < (x5.length : Int) then ((spec_IsKey.f k (rdOf ByteArray.empty x5 x7)).bind fun t813 => (if t813 = true then (spec_fiKeys.l0 k x0 x5 x6 (wrap64 (x7 + 1))) else (some false))) else (none)) else (none)) else (some (decide ((x0.length : Int) ≤ 300)))
def spec_fiKeys.f (k : Nat) (l0 : List ByteArray) : Option (Bool) := spec_fiKeys.l0 k l0 l0 (l0.length : Int) 0
theorem spec_fiKeys.calls (k : Nat) (A0 : Option Addr) (c0 : Nat) (l0 : List ByteArray) (r : Bool) (w : World) (hr0 : Kd.C Kd.string w A0 l0.length l0) (hc0 : l0.length ≤ c0) (h : spec_fiKeys.f k l0 = some r) :
  Calls Try.prog 125 #[.slice A0 l0.length c0] w fun e w' => e = .returned (.bool r) ∧ Drawn0 w w' := by
 have HR0 := am hr0; have HC0 := am hc0; clear hr0 hc0; have H : (spec_fiKeys.l0 k l0 l0 (l0.length : Int) 0) = some r := h; clear h; have H' := am H; clear H
 go_enter Try.func125, Try.ntmps125
 go_wp2
 go_loopg [7] k (fun kq v7 w' => ∃ (x7_1 : Int), v7 = .int .i64 x7_1 ∧ Aside0 (spec_fiKeys.l0 kq l0 l0 (l0.length : Int) x7_1 = some r) ∧ Aside0 (kq ≤ k) ∧ Drawn0 w w')
 case atStart => exact ⟨(0), wZ, H', ⟨Nat.le_refl _⟩, by repeat (first | exact Drawn0.refl _ | apply Drawn0.step)⟩
 case round =>
  clear H'
  try clear c1
  obtain ⟨x7_1, rfl, HA, HK1, ⟨m1, rfl⟩⟩ := hrel; cases gk with
  | zero => exact absurd HA.out (by simp [spec_fiKeys.l0])
  | succ k1 =>
   have H := HA.out; clear HA
   simp only [spec_fiKeys.l0] at H
   by_cases c2 : x7_1 < (l0.length : Int)
   ·rw [if_pos c2] at H
    have c2b0 : decide (x7_1 < (l0.length : Int)) = true := decide_eq_true c2; clear c2
    by_cases c3 : 0 ≤ x7_1
    ·rw [if_pos c3] at H
     have c3b0 : decide (0 ≤ x7_1) = true := decide_eq_true c3; clear c3
     by_cases c4 : x7_1 < (l0.length : Int)
     ·rw [if_pos c4] at H
      have c4b0 : decide (x7_1 < (l0.length : Int)) = true := decide_eq_true c4; clear c4; obtain ⟨t813, A5, H⟩ := ob H; (try dsimp -simprocs only at H)
      by_cases c6 : t813 = true
      ·subst c6
       rw [if_pos rfl] at H; have H' := am H; clear H; obtain ⟨ad812, e812, hx812_0⟩ := Kd.at_string HR0.out x7_1 dT dT; cases e812; have p812 := eT (0 ≤ (x7_1 : Int)); have q812 := eT (x7_1 < (l0.length : Int))
       go_wp2_with (first | ((with_reducible refine gate_callee (f := 55) rfl ?_); refine gL (some 12) Try.func55 #[.string (rdOf ByteArray.empty l0 x7_1)] ?_; (with_reducible refine (spec_IsKey.calls k1 (rdOf ByteArray.empty l0 x7_1) true _ A5.out).mono ?_); rintro e w' ⟨rfl, ⟨nd, rfl⟩⟩; refine ⟨_, rfl, ?_⟩))
       go_roundg k1
       case measure => have := HK1.out; omega
       case rel => exact ⟨(wrap64 (x7_1 + 1)), wZ, H', ⟨by have := HK1.out; omega⟩, by repeat (first | exact Drawn0.refl _ | apply Drawn0.step)⟩
      ·replace c6 := Bool.eq_false_iff.mpr c6
       subst c6
       rw [if_neg Bool.false_ne_true] at H; obtain rfl := Option.some.inj H; obtain ⟨ad812, e812, hx812_0⟩ := Kd.at_string HR0.out x7_1 dT dT; cases e812; have p812 := eT (0 ≤ (x7_1 : Int)); have q812 := eT (x7_1 < (l0.length : Int))
       go_wp2_with (first | ((with_reducible refine gate_callee (f := 55) rfl ?_); refine gL (some 12) Try.func55 #[.string (rdOf ByteArray.empty l0 x7_1)] ?_; (with_reducible refine (spec_IsKey.calls k1 (rdOf ByteArray.empty l0 x7_1) false _ A5.out).mono ?_); rintro e w' ⟨rfl, ⟨nd, rfl⟩⟩; refine ⟨_, rfl, ?_⟩))
       go_ret
       exact ⟨by first | rfl | (simp; done) | (simp [*]; done), by repeat (first | exact Drawn0.refl _ | apply Drawn0.step)⟩
     ·rw [if_neg c4] at H
      exact absurd H (by simp)
    ·rw [if_neg c3] at H
     exact absurd H (by simp)
   ·rw [if_neg c2] at H
    have c2b0 : decide (x7_1 < (l0.length : Int)) = false := decide_eq_false c2; clear c2; obtain rfl := Option.some.inj H
    go_wp2
    go_ret
    exact ⟨by first | rfl | (simp; done) | (simp [*]; done), by repeat (first | exact Drawn0.refl _ | apply Drawn0.step)⟩

def spec_l1HasS.l0 : Nat → ByteArray → List ByteArray → Int → Int → Option (Bool)
 | 0, _, _, _, _ => none
 | k + 1, x1, x7, x8, x9 => if x9 < x8 then (if 0 ≤ x9 then (if x9 < (x7.length : Int) then (if (rdOf ByteArray.empty x7 x9).toList = x1.toList then (some true) else (spec_l1HasS.l0 k x1 x7 x8 (wrap64 (x9 + 1)))) else (none)) else (none)) else (some false)
def spec_l1HasS.f (k : Nat) (l0 : List ByteArray) (a1 : ByteArray) : Option (Bool) := spec_l1HasS.l0 k a1 l0 (l0.length : Int) 0
theorem spec_l1HasS.calls (k : Nat) (A0 : Option Addr) (c0 : Nat) (l0 : List ByteArray) (a1 : ByteArray) (r : Bool) (w : World) (hr0 : Kd.C Kd.string w A0 l0.length l0) (hc0 : l0.length ≤ c0) (h : spec_l1HasS.f k l0 a1 = some r) :
  Calls Try.prog 126 #[.slice A0 l0.length c0, .string a1] w fun e w' => e = .returned (.bool r) ∧ Drawn0 w w' := by
 have HR0 := am hr0; have HC0 := am hc0; clear hr0 hc0; have H : (spec_l1HasS.l0 k a1 l0 (l0.length : Int) 0) = some r := h; clear h; have H' := am H; clear H
 go_enter Try.func126, Try.ntmps126
 go_wp2
 go_loopg [9] k (fun kq v9 w' => ∃ (x9_1 : Int), v9 = .int .i64 x9_1 ∧ Aside0 (spec_l1HasS.l0 kq a1 l0 (l0.length : Int) x9_1 = some r) ∧ Aside0 (kq ≤ k) ∧ Drawn0 w w')
 case atStart => exact ⟨(0), wZ, H', ⟨Nat.le_refl _⟩, by repeat (first | exact Drawn0.refl _ | apply Drawn0.step)⟩
 case round =>
  clear H'
  try clear c1
  try clear p2
  obtain ⟨x9_1, rfl, HA, HK1, ⟨m1, rfl⟩⟩ := hrel; cases gk with
  | zero => exact absurd HA.out (by simp [spec_l1HasS.l0])
  | succ k1 =>
   have H := HA.out; clear HA
   simp only [spec_l1HasS.l0] at H
   by_cases c3 : x9_1 < (l0.length : Int)
   ·rw [if_pos c3] at H
    have c3b0 : decide (x9_1 < (l0.length : Int)) = true := decide_eq_true c3; clear c3
    by_cases c4 : 0 ≤ x9_1
    ·rw [if_pos c4] at H
     have c4b0 : decide (0 ≤ x9_1) = true := decide_eq_true c4; clear c4
     by_cases c5 : x9_1 < (l0.length : Int)
     ·rw [if_pos c5] at H
      have c5b0 : decide (x9_1 < (l0.length : Int)) = true := decide_eq_true c5; clear c5
      by_cases c6 : (rdOf ByteArray.empty l0 x9_1).toList = a1.toList
      ·rw [if_pos c6] at H
       have c6b0 : ((rdOf ByteArray.empty l0 x9_1).toList == a1.toList) = true := beq_iff_eq.mpr c6; have c6b1 : ((rdOf ByteArray.empty l0 x9_1).toList != a1.toList) = false := bne_eq_false_iff_eq.mpr c6; clear c6; obtain rfl := Option.some.inj H; obtain ⟨ad814, e814, hx814_0⟩ := Kd.at_string HR0.out x9_1 dT dT; cases e814; have p814 := eT (0 ≤ (x9_1 : Int)); have q814 := eT (x9_1 < (l0.length : Int))
       go_wp2
       go_ret
       exact ⟨by first | rfl | (simp; done) | (simp [*]; done), by repeat (first | exact Drawn0.refl _ | apply Drawn0.step)⟩
      ·rw [if_neg c6] at H
       have c6b0 : ((rdOf ByteArray.empty l0 x9_1).toList == a1.toList) = false := beq_eq_false_iff_ne.mpr c6; have c6b1 : ((rdOf ByteArray.empty l0 x9_1).toList != a1.toList) = true := bne_iff_ne.mpr c6; have H' := am H; clear H; obtain ⟨ad814, e814, hx814_0⟩ := Kd.at_string HR0.out x9_1 dT dT; cases e814; have p814 := eT (0 ≤ (x9_1 : Int)); have q814 := eT (x9_1 < (l0.length : Int))
       go_wp2
       go_roundg k1
       case measure => have := HK1.out; omega
       case rel => exact ⟨(wrap64 (x9_1 + 1)), wZ, H', ⟨by have := HK1.out; omega⟩, by repeat (first | exact Drawn0.refl _ | apply Drawn0.step)⟩
     ·rw [if_neg c5] at H
      exact absurd H (by simp)
    ·rw [if_neg c4] at H
     exact absurd H (by simp)
   ·rw [if_neg c3] at H
    have c3b0 : decide (x9_1 < (l0.length : Int)) = false := decide_eq_false c3; clear c3; obtain rfl := Option.some.inj H
    go_wp2
    go_ret
    exact ⟨by first | rfl | (simp; done) | (simp [*]; done), by repeat (first | exact Drawn0.refl _ | apply Drawn0.step)⟩

def spec_fiPrints.f (k : Nat) (a0_0 : Int) (a0_1 : Int) (a0_2 : Int) (l0_3 : List Int) (a1 : ByteArray) : Option (Bool) := (spec_reValue.f k a0_0 a0_1 a0_2 l0_3 a1).bind fun t816 => ((spec_fiPrint.f k a0_0 a0_2 a1).bind fun t817 => (some (t816 == t817)))
def spec_fiPrints.T1 : Bool × List (List Nat × List Nat) := (true, [([], []), ([], []), ([0, 1], [0, 1]), ([], []), ([3], [3]), ([], []), ([5], [5]), ([], []), ([4, 6, 7, 2], [4, 6, 7]), ([2, 8], [2, 8]), ([9, 8, 0, 1, 2, 3, 4, 5, 6, 7, 8, 9], [9])])
def spec_fiPrints.B1 : List Nat := [0, 0, 3, 0, 8, 0, 32, 0, 255, 511, 1023]
theorem spec_fiPrints.tab1 : rtab .any (opsOf Try.f127 1) = spec_fiPrints.T1 := by kernel_rfl
theorem spec_fiPrints.bits1 : waitsOk spec_fiPrints.T1.2 spec_fiPrints.B1 = true := by kernel_rfl
theorem spec_fiPrints.calls (k : Nat) (a0_0 : Int) (a0_1 : Int) (a0_2 : Int) (A0_3 : Option Addr) (c0_3 : Nat) (l0_3 : List Int) (a1 : ByteArray) (r : Bool) (w : World) (hr0_3 : Kd.C (Kd.int .i64) w A0_3 l0_3.length l0_3) (hc0_3 : l0_3.length ≤ c0_3) (h : spec_fiPrints.f k a0_0 a0_1 a0_2 l0_3 a1 = some r) :
  Calls Try.prog 127 #[.agg #[.int .i64 a0_0, .int .i64 a0_1, .int .i64 a0_2, .slice A0_3 l0_3.length c0_3], .string a1] w fun e w' => e = .returned (.bool r) ∧ Below w.heap.size w w' := by
 have hu71 := Try.underlying71; have HR0_3 := am hr0_3; have HC0_3 := am hc0_3; clear hr0_3 hc0_3; have HB := am (Below.refl w.heap.size w); have H : ((spec_reValue.f k a0_0 a0_1 a0_2 l0_3 a1).bind fun t816 => ((spec_fiPrint.f k a0_0 a0_2 a1).bind fun t817 => (some (t816 == t817)))) = some r := h; clear h; obtain ⟨t816, A3, H⟩ := ob H; (try dsimp -simprocs only at H); obtain ⟨t817, A4, H⟩ := ob H; (try dsimp -simprocs only at H); obtain rfl := Option.some.inj H
 go_enter Try.func127, Try.ntmps127
 try go_wp2_with (first | ((with_reducible refine gate_dst (N := 2) rfl ?_); refine bE 2 #[.int .i64 a0_0, .int .i64 a0_1, .int .i64 a0_2, .slice A0_3 l0_3.length c0_3] 71 ?_; intro gb815 hg w5 hbox hb; have n0_ := Bb HB hb; have n1_ := am (hbox); have n2_ := Gl HB hg; have n3_ := Gl HB hg; clear HB; revert n0_ n1_ n2_ n3_; intro HB BK815 GW815 GE815; clear hb hbox hg))
 have n0_ := am (blk_drew BK815.out); have n1_ := am (below_drew1 HB.out); clear BK815 HB; revert n0_ n1_; intro BK815 HB; refine start_ (n := 11) (S := fun w' => w'.cell? ⟨gb815, 0, none⟩ = some (.int .i64 a0_0) ∧ w'.cell? ⟨gb815, 1, none⟩ = some (.int .i64 a0_1) ∧ w'.cell? ⟨gb815, 2, none⟩ = some (.int .i64 a0_2) ∧ w'.cell? ⟨gb815, 3, none⟩ = some (.slice A0_3 l0_3.length c0_3)) (ds := []) (bA 11 0) (by kernel_rfl) rfl rfl ⟨cz BK815 0, cz BK815 1, cz BK815 2, cz BK815 3⟩ (fun hHeld => ?_); refine with_tabW spec_fiPrints.tab1 spec_fiPrints.bits1 (fun HT_ HW_ => ?_); generalize w5.drew = w6 at BK815 HB hHeld ⊢; refine pZ 1 (some 6) (bA 11 2) HT_.out ?_; refine pZ 3 (some 8) (bA 11 10) HT_.out ?_; refine pZ 5 (some 10) (bA 11 42) HT_.out ?_; refine pZ 7 (some 12) (bA 11 170) HT_.out ?_; refine tZ4 0 (some 5) (bA 11 171) HT_.out HW_.out hHeld ?_; refine tZ4 4 (some 9) (bA 11 187) HT_.out HW_.out hHeld ?_; refine tZ4 6 (some 11) (bA 11 251) HT_.out HW_.out hHeld ?_; refine oZ 2 (some 7) (bA 11 255) HT_.out (fun K hK => ?_); refine gZ Try.func112 #[.agg #[.int .i64 a0_0, .int .i64 a0_1, .int .i64 a0_2, .slice A0_3 l0_3.length c0_3], .string a1] ?_
 with_reducible refine (spec_reValue.calls k a0_0 a0_1 a0_2 _ _ l0_3 a1 t816 _ ?side1 ?side2 A3.out).mono ?_
 (case side1 => exact Cz (Kd.C_below HR0_3.out HB.out))
 (case side2 => exact HC0_3.out)
 rintro e w7 ⟨rfl, hb⟩; refine ⟨_, rfl, ?_⟩; have n0_ := Kb BK815 hb; have n1_ := Bc HB hb; clear BK815 HB; revert n0_ n1_; intro BK815 HB
 (try clear hb)
 (try clear hb2)
 (try clear hk)
 (try clear hi)
 refine hK.out _ _ ⟨cz BK815 0, cz BK815 1, cz BK815 2, cz BK815 3⟩ (fun hHeld => ?_); clear hK K; refine norm_ (a' := ?_) ?_ ?_; rotate_left; show Act.put _ (some 7) _ = _; simp only [aP, i64_w, i32_w]; rfl; refine oZ 8 (some 13) (bA 11 511) HT_.out (fun K hK => ?_); refine gZ Try.func119 #[.int .i64 a0_0, .int .i64 a0_2, .string a1] ?_
 with_reducible refine (spec_fiPrint.calls k a0_0 a0_2 a1 t817 _ A4.out).mono ?_
 rintro e w' ⟨rfl, ⟨nd, rfl⟩⟩; refine ⟨_, rfl, ?_⟩; refine hK.out _ _ ⟨cz BK815 0, cz BK815 1, cz BK815 2, cz BK815 3⟩ (fun hHeld => ?_); clear hK K; refine norm_ (a' := ?_) ?_ ?_; rotate_left; show Act.put _ (some 13) _ = _; simp only [aP, i64_w, i32_w]; rfl; refine pZ 9 (some 14) (bA 11 1023) HT_.out ?_; refine pZ 10 (some 4) (bA 11 2047) HT_.out ?_; refine done_ (done_of HT_.out (by kernel_rfl)) ?_
 try go_wp2
 go_ret
 exact ⟨eZ, Bq⟩

mutual
def spec_PrintFalse.j0 : Nat → List ByteArray → List ByteArray → Bool → Int → Int → Int → List Int → Option (List Int × Bool)
 | 0, _, _, _, _, _, _, _ => none
 | k + 1, x1, x2, x23, x819000, x819001, x819002, x819003 => if x23 = true then (some (([] : List Int), false)) else (spec_PrintFalse.l0 k x1 ([] : List Int) x2 (x2.length : Int) 0 x819000 x819001 x819002 x819003)
def spec_PrintFalse.l0 : Nat → List ByteArray → List Int → List ByteArray → Int → Int → Int → Int → Int → List Int → Option (List Int × Bool)
 | 0, _, _, _, _, _, _, _, _, _ => none
 | k + 1, x1, x8, x24, x25, x26, x819000, x819001, x819002, x819003 => if x26 < x25 then (if 0 ≤ x26 then (if x26 < (x24.length : Int) then ((spec_l1HasS.f k x1 (rdOf ByteArray.empty x24 x26)).bind fun t823 => (if t823 = true then (spec_PrintFalse.l0 k x1 x8 x24 x25 (wrap64 (x26 + 1)) x819000 x819001 x819002 x819003) else ((spec_fiPrints.f k x819000 x819001 x819002 x819003 (rdOf ByteArray.empty x24 x26)).bind fun t824 => (if t824 = true then (if x8.length < 17592186044416 then (spec_PrintFalse.l0 k x1 (x8 ++ [x26]) x24 x25 (wrap64 (x26 + 1)) x819000 x819001 x819002 x819003) else (none)) else (spec_PrintFalse.l0 k x1 x8 x24 x25 (wrap64 (x26 + 1)) x819000 x819001 x819002 x819003))))) else (none)) else (none)) else (some (x8, true))
end
def spec_PrintFalse.f (k : Nat) (a0_0 : Int) (a0_1 : Int) (a0_2 : Int) (l0_3 : List Int) (l1 : List ByteArray) (l2 : List ByteArray) : Option (List Int × Bool) := (spec_reTable.f k a0_0 a0_1 a0_2 l0_3).bind fun t819 => (if t819 = true then ((spec_biKeys.f k l1).bind fun t820 => (if t820 = true then ((spec_fiKeys.f k l2).bind fun t821 => (spec_PrintFalse.j0 k l1 l2 (!t821) a0_0 a0_1 a0_2 l0_3)) else (spec_PrintFalse.j0 k l1 l2 true a0_0 a0_1 a0_2 l0_3))) else (spec_PrintFalse.j0 k l1 l2 true a0_0 a0_1 a0_2 l0_3))
theorem spec_PrintFalse.calls (k : Nat) (a0_0 : Int) (a0_1 : Int) (a0_2 : Int) (A0_3 : Option Addr) (c0_3 : Nat) (l0_3 : List Int) (A1 : Option Addr) (c1 : Nat) (l1 : List ByteArray) (A2 : Option Addr) (c2 : Nat) (l2 : List ByteArray) (r1 : List Int) (r2 : Bool) (w : World) (hr0_3 : Kd.C (Kd.int .i64) w A0_3 l0_3.length l0_3) (hc0_3 : l0_3.length ≤ c0_3) (hr1 : Kd.C Kd.string w A1 l1.length l1) (hc1 : l1.length ≤ c1) (hr2 : Kd.C Kd.string w A2 l2.length l2) (hc2 : l2.length ≤ c2) (h : spec_PrintFalse.f k a0_0 a0_1 a0_2 l0_3 l1 l2 = some (r1, r2)) :
  Calls Try.prog 47 #[.agg #[.int .i64 a0_0, .int .i64 a0_1, .int .i64 a0_2, .slice A0_3 l0_3.length c0_3], .slice A1 l1.length c1, .slice A2 l2.length c2] w fun e w' => ∃ v0_ : Value, e = .returned (.tuple #[v0_, .bool r2]) ∧ Kd.R (Kd.int .i64) 3 w' w.heap.size (fun _ => True) v0_ r1 ∧ Below w.heap.size w w' := by
 have hu71 := Try.underlying71; have HR0_3 := am hr0_3; have HC0_3 := am hc0_3; clear hr0_3 hc0_3; have HR1 := am hr1; have HC1 := am hc1; clear hr1 hc1; have HR2 := am hr2; have HC2 := am hc2; clear hr2 hc2; have HB := am (Below.refl w.heap.size w); have H : ((spec_reTable.f k a0_0 a0_1 a0_2 l0_3).bind fun t819 => (if t819 = true then ((spec_biKeys.f k l1).bind fun t820 => (if t820 = true then ((spec_fiKeys.f k l2).bind fun t821 => (spec_PrintFalse.j0 k l1 l2 (!t821) a0_0 a0_1 a0_2 l0_3)) else (spec_PrintFalse.j0 k l1 l2 true a0_0 a0_1 a0_2 l0_3))) else (spec_PrintFalse.j0 k l1 l2 true a0_0 a0_1 a0_2 l0_3))) = some (r1, r2) := h; clear h; have HC4 := am H; clear H
 go_enter Try.func47, Try.ntmps47
 go_upto_region 1 with (first | ((with_reducible refine gate_dst (N := 3) rfl ?_); refine bE 3 #[.int .i64 a0_0, .int .i64 a0_1, .int .i64 a0_2, .slice A0_3 l0_3.length c0_3] 71 ?_; intro gb818 hg w5 hbox hb; have n0_ := Bb HB hb; have n1_ := am (hbox); have n2_ := Gl HB hg; have n3_ := Gl HB hg; clear HB; revert n0_ n1_ n2_ n3_; intro HB BK818 GW818 GE818; clear hb hbox hg))
 (try simp only [aP])
 go_cut [23] (fun v23 wc => ∃ (kq : Nat) (x23_3 : Bool), v23 = .bool x23_3 ∧ Aside0 (spec_PrintFalse.j0 kq l1 l2 x23_3 a0_0 a0_1 a0_2 l0_3 = some (r1, r2)) ∧ Aside0 (kq ≤ k) ∧ Aside0 (wc.heap[gb818]? = some (.cells #[.int .i64 a0_0, .int .i64 a0_1, .int .i64 a0_2, (.slice A0_3 l0_3.length c0_3)] 71 (0, 0))) ∧ Aside0 (Below w.heap.size w wc))
 case first =>
  have H := HC4.out; clear HC4; obtain ⟨t819, A6, H⟩ := ob H; (try dsimp -simprocs only at H)
  by_cases c7 : t819 = true
  ·subst c7
   rw [if_pos rfl] at H; obtain ⟨t820, A8, H⟩ := ob H; (try dsimp -simprocs only at H)
   by_cases c9 : t820 = true
   ·subst c9
    rw [if_pos rfl] at H; obtain ⟨t821, A10, H⟩ := ob H; (try dsimp -simprocs only at H); have H' := am H; clear H; obtain ⟨hcz11_0, hcz11_1, hcz11_2, hcz11_3, hfz11_0, hfz11_1, hfz11_2, hfz11_3⟩ := cf4 (w := w5) BK818
    go_wp2_with (first | ((with_reducible refine gate_callee (f := 111) rfl ?_); refine gL (some 12) Try.func111 #[.agg #[.int .i64 a0_0, .int .i64 a0_1, .int .i64 a0_2, .slice A0_3 l0_3.length c0_3]] ?_; (with_reducible refine (spec_reTable.calls k a0_0 a0_1 a0_2 _ _ l0_3 true _ ?side1 ?side2 A6.out).mono ?_); (case side1 => exact Cz (Kd.C_below HR0_3.out HB.out)); (case side2 => exact HC0_3.out); rintro e w12 ⟨rfl, hb⟩; refine ⟨_, rfl, ?_⟩; have n0_ := Kb BK818 hb; have n1_ := Bc HB hb; clear BK818 HB; revert n0_ n1_; intro BK818 HB; (try clear hb); (try clear hb2); (try clear hk); (try clear hi)) | (go_at_call 96; (with_reducible refine (spec_biKeys.calls k _ _ l1 true _ ?side1 ?side2 A8.out).mono ?_); (case side1 => exact Cz (Kd.C_below HR1.out HB.out)); (case side2 => exact HC1.out); rintro e w' ⟨rfl, ⟨nd, rfl⟩⟩) | (go_at_call 125; (with_reducible refine (spec_fiKeys.calls k _ _ l2 t821 _ ?side1 ?side2 A10.out).mono ?_); (case side1 => exact Cz (Kd.C_below HR2.out (Bq))); (case side2 => exact HC2.out); rintro e w' ⟨rfl, ⟨nd, rfl⟩⟩))
    go_meet
    case rel => exact ⟨_, (!t821), wZ, H', ⟨by first | omega | exact Nat.le_refl _⟩, ⟨Kz BK818.out⟩, ⟨Bq⟩⟩
   ·replace c9 := Bool.eq_false_iff.mpr c9
    subst c9
    rw [if_neg Bool.false_ne_true] at H; have H' := am H; clear H; obtain ⟨hcz13_0, hcz13_1, hcz13_2, hcz13_3, hfz13_0, hfz13_1, hfz13_2, hfz13_3⟩ := cf4 (w := w5) BK818
    go_wp2_with (first | ((with_reducible refine gate_callee (f := 111) rfl ?_); refine gL (some 12) Try.func111 #[.agg #[.int .i64 a0_0, .int .i64 a0_1, .int .i64 a0_2, .slice A0_3 l0_3.length c0_3]] ?_; (with_reducible refine (spec_reTable.calls k a0_0 a0_1 a0_2 _ _ l0_3 true _ ?side1 ?side2 A6.out).mono ?_); (case side1 => exact Cz (Kd.C_below HR0_3.out HB.out)); (case side2 => exact HC0_3.out); rintro e w14 ⟨rfl, hb⟩; refine ⟨_, rfl, ?_⟩; have n0_ := Kb BK818 hb; have n1_ := Bc HB hb; clear BK818 HB; revert n0_ n1_; intro BK818 HB; (try clear hb); (try clear hb2); (try clear hk); (try clear hi)) | (go_at_call 96; (with_reducible refine (spec_biKeys.calls k _ _ l1 false _ ?side1 ?side2 A8.out).mono ?_); (case side1 => exact Cz (Kd.C_below HR1.out HB.out)); (case side2 => exact HC1.out); rintro e w' ⟨rfl, ⟨nd, rfl⟩⟩))
    go_meet
    case rel => exact ⟨_, (true), wZ, H', ⟨by first | omega | exact Nat.le_refl _⟩, ⟨Kz BK818.out⟩, ⟨Bq⟩⟩
  ·replace c7 := Bool.eq_false_iff.mpr c7
   subst c7
   rw [if_neg Bool.false_ne_true] at H; have H' := am H; clear H; obtain ⟨hcz15_0, hcz15_1, hcz15_2, hcz15_3, hfz15_0, hfz15_1, hfz15_2, hfz15_3⟩ := cf4 (w := w5) BK818
   go_wp2_with (first | ((with_reducible refine gate_callee (f := 111) rfl ?_); refine gL (some 12) Try.func111 #[.agg #[.int .i64 a0_0, .int .i64 a0_1, .int .i64 a0_2, .slice A0_3 l0_3.length c0_3]] ?_; (with_reducible refine (spec_reTable.calls k a0_0 a0_1 a0_2 _ _ l0_3 false _ ?side1 ?side2 A6.out).mono ?_); (case side1 => exact Cz (Kd.C_below HR0_3.out HB.out)); (case side2 => exact HC0_3.out); rintro e w16 ⟨rfl, hb⟩; refine ⟨_, rfl, ?_⟩; have n0_ := Kb BK818 hb; have n1_ := Bc HB hb; clear BK818 HB; revert n0_ n1_; intro BK818 HB; (try clear hb); (try clear hb2); (try clear hk); (try clear hi)))
   go_meet
   case rel => exact ⟨_, (true), wZ, H', ⟨by first | omega | exact Nat.le_refl _⟩, ⟨Kz BK818.out⟩, ⟨Bq⟩⟩
 case rest =>
  clear HC4
  try clear c1
  try clear c2
  try clear p2
  try clear c4
  try clear c7
  try clear c9
  try clear c11
  obtain ⟨kq, x23_3, rfl, HA, HJ3, BK818, HB⟩ := hcut; cases kq with
  | zero => exact absurd HA.out (by simp [spec_PrintFalse.j0])
  | succ kj3 =>
   have H := HA.out; clear HA
   simp only [spec_PrintFalse.j0] at H
   by_cases c17 : x23_3 = true
   ·subst c17
    rw [if_pos rfl] at H
    simp only [Option.some.injEq, Prod.mk.injEq] at H
    obtain ⟨rfl, rfl⟩ := H
    go_wp2
    go_ret2
    exact ⟨_, eZ, nZ, Bq⟩
   ·replace c17 := Bool.eq_false_iff.mpr c17
    subst c17
    rw [if_neg Bool.false_ne_true] at H; have H' := am H; clear H
    go_wp2
    go_loopg [8, 26] kj3 (fun kq v8 v26 w' => ∃ (x8_2 : List Int) (x26_2 : Int), v26 = .int .i64 x26_2 ∧ Aside0 (spec_PrintFalse.l0 kq l1 x8_2 l2 (l2.length : Int) x26_2 a0_0 a0_1 a0_2 l0_3 = some (r1, r2)) ∧ Aside0 (kq ≤ kj3) ∧ Aside0 (Kd.R (Kd.int .i64) 3 w' w.heap.size (fun _ => True) v8 x8_2) ∧ Aside0 (w'.heap[gb818]? = some (.cells #[.int .i64 a0_0, .int .i64 a0_1, .int .i64 a0_2, (.slice A0_3 l0_3.length c0_3)] 71 (0, 0))) ∧ Aside0 (Below w.heap.size w w'))
    case atStart => exact ⟨(([] : List Int)), (0), wZ, H', ⟨Nat.le_refl _⟩, ⟨nZ⟩, ⟨Kz BK818.out⟩, ⟨Bq⟩⟩
    case round =>
     clear H'
     try clear c1
     try clear c2
     try clear p2
     try clear c4
     try clear c7
     try clear c9
     try clear c11
     try clear c17
     try clear p2
     obtain ⟨x8_2, x26_2, rfl, HA, HK2, HO_8, BK818, HB⟩ := hrel; cases gk with
     | zero => exact absurd HA.out (by simp [spec_PrintFalse.l0])
     | succ k2 =>
      have H := HA.out; clear HA
      simp only [spec_PrintFalse.l0] at H
      by_cases c18 : x26_2 < (l2.length : Int)
      ·rw [if_pos c18] at H
       have c18b0 : decide (x26_2 < (l2.length : Int)) = true := decide_eq_true c18; clear c18
       by_cases c19 : 0 ≤ x26_2
       ·rw [if_pos c19] at H
        have c19b0 : decide (0 ≤ x26_2) = true := decide_eq_true c19; clear c19
        by_cases c20 : x26_2 < (l2.length : Int)
        ·rw [if_pos c20] at H
         have c20b0 : decide (x26_2 < (l2.length : Int)) = true := decide_eq_true c20; clear c20; obtain ⟨t823, A21, H⟩ := ob H; (try dsimp -simprocs only at H)
         by_cases c22 : t823 = true
         ·subst c22
          rw [if_pos rfl] at H; have H' := am H; clear H; have p822 : 0 ≤ (x26_2 : Int) := dT; have q822 : x26_2 < (l2.length : Int) := dT; obtain ⟨ad822, e822, hx822_0⟩ := Kd.at_string HR2.out x26_2 p822 q822; cases e822; replace hx822_0 := (HB.out.cell (World.block_lt_of_cell? w _ hx822_0)).trans hx822_0; replace p822 := eq_true p822; replace q822 := eq_true q822
          go_wp2_with (first | ((with_reducible refine gate_callee (f := 126) rfl ?_); refine gL (some 33) Try.func126 #[.slice A1 l1.length c1, .string (rdOf ByteArray.empty l2 x26_2)] ?_; (with_reducible refine (spec_l1HasS.calls k2 _ _ l1 (rdOf ByteArray.empty l2 x26_2) true _ ?side1 ?side2 A21.out).mono ?_); (case side1 => exact Cz (Kd.C_below HR1.out HB.out)); (case side2 => exact HC1.out); rintro e w' ⟨rfl, ⟨nd, rfl⟩⟩; refine ⟨_, rfl, ?_⟩))
          go_roundg k2
          case measure => have := HJ3.out; have := HK2.out; omega
          case rel => exact ⟨(x8_2), (wrap64 (x26_2 + 1)), wZ, H', ⟨by have := HJ3.out; have := HK2.out; omega⟩, ⟨Rz HO_8.out⟩, ⟨Kz BK818.out⟩, ⟨Bq⟩⟩
         ·replace c22 := Bool.eq_false_iff.mpr c22
          subst c22
          rw [if_neg Bool.false_ne_true] at H; obtain ⟨t824, A23, H⟩ := ob H; (try dsimp -simprocs only at H)
          by_cases c24 : t824 = true
          ·subst c24
           rw [if_pos rfl] at H
           by_cases c25 : x8_2.length < 17592186044416
           ·rw [if_pos c25] at H
            have LMc25 := am c25; clear c25; obtain ⟨y825, hy825⟩ : ∃ y_ : List Int, y_ = (x8_2 ++ [x26_2]) := ⟨_, rfl⟩
            replace H : (spec_PrintFalse.l0 k2 l1 y825 l2 (l2.length : Int) (wrap64 (x26_2 + 1)) a0_0 a0_1 a0_2 l0_3) = some (r1, r2) := by (try rw [hy825]); first | with_reducible exact H | exact (Option.bind_some _ _).symm.trans H | exact H
            have Ny825 := am hy825; clear hy825; have H' := am H; clear H; have p822 : 0 ≤ (x26_2 : Int) := dT; have q822 : x26_2 < (l2.length : Int) := dT; obtain ⟨ad822, e822, hx822_0⟩ := Kd.at_string HR2.out x26_2 p822 q822; cases e822; replace hx822_0 := (HB.out.cell (World.block_lt_of_cell? w _ hx822_0)).trans hx822_0; replace p822 := eq_true p822; replace q822 := eq_true q822
            go_wp2_with (first | ((with_reducible refine gate_callee (f := 126) rfl ?_); refine gL (some 33) Try.func126 #[.slice A1 l1.length c1, .string (rdOf ByteArray.empty l2 x26_2)] ?_; (with_reducible refine (spec_l1HasS.calls k2 _ _ l1 (rdOf ByteArray.empty l2 x26_2) false _ ?side1 ?side2 A21.out).mono ?_); (case side1 => exact Cz (Kd.C_below HR1.out HB.out)); (case side2 => exact HC1.out); rintro e w' ⟨rfl, ⟨nd, rfl⟩⟩; refine ⟨_, rfl, ?_⟩; obtain ⟨hcz26_0, hcz26_1, hcz26_2, hcz26_3, hfz26_0, hfz26_1, hfz26_2, hfz26_3⟩ := cf4 (w := wr) BK818) | (go_at_call 127; (with_reducible refine (spec_fiPrints.calls k2 a0_0 a0_1 a0_2 _ _ l0_3 (rdOf ByteArray.empty l2 x26_2) true _ ?side1 ?side2 A23.out).mono ?_); (case side1 => exact Cz (Kd.C_below HR0_3.out (Bq))); (case side2 => exact HC0_3.out); rintro e w27 ⟨rfl, hb⟩; have n0_ := Rb HO_8 hb; have n1_ := Kb BK818 hb; have n2_ := Bc HB hb; clear HO_8 BK818 HB; revert n0_ n1_ n2_; intro HO_8 BK818 HB; (try clear hb); (try clear hb2); (try clear hk); (try clear hi)) | ((with_reducible refine gate_builtin (b := .append) (xs := #[.tmp 40, .tmp 42]) rfl ?_); at_builtin; refine Kd.R_append (Kd.int .i64) (w0 := w) w.heap.size rfl (.tmp 40) (.tmp 42) 24 3 (.int .i64 0) 8 rfl Try.underlying24 info3 rfl (by decide) (by omega) u8 x8_2 x26_2 [.int .i64 x26_2] (fun _ => True) (fun _ => False) rfl rfl ?aP (fun _ hk => hk.elim) ?aF ?aO ?aB ?aS ?aL ?_; (case aP => exact rfl); (case aB => exact (Bq)); (case aF => exact (fun _ _ => trivial)); (case aO => exact (Rz HO_8.out)); (case aS => exact (below_size (w := w) (Bq))); (case aL => have := LMc25.out; omega); intro v826 w28 ho hb hg hat; rw [← Ny825.out] at ho; have n0_ := am (blk_grown (g := gb818) (o := .cells #[.int .i64 a0_0, .int .i64 a0_1, .int .i64 a0_2, .slice A0_3 l0_3.length c0_3] 71 (0, 0)) (Kz BK818.out) hg (Kd.R_ne HO_8.out BK818.out (by decide))); have n1_ := am (hb); have n2_ := am (ho); clear BK818 HB HO_8; revert n0_ n1_ n2_; intro BK818 HB HO827; clear ho hb hg hat))
            go_roundg k2
            case measure => have := HJ3.out; have := HK2.out; omega
            case rel => exact ⟨(y825), (wrap64 (x26_2 + 1)), wZ, H', ⟨by have := HJ3.out; have := HK2.out; omega⟩, ⟨Rz HO827.out⟩, ⟨Kz BK818.out⟩, ⟨Bq⟩⟩
           ·rw [if_neg c25] at H
            exact absurd H (by simp)
          ·replace c24 := Bool.eq_false_iff.mpr c24
           subst c24
           rw [if_neg Bool.false_ne_true] at H; have H' := am H; clear H; have p822 : 0 ≤ (x26_2 : Int) := dT; have q822 : x26_2 < (l2.length : Int) := dT; obtain ⟨ad822, e822, hx822_0⟩ := Kd.at_string HR2.out x26_2 p822 q822; cases e822; replace hx822_0 := (HB.out.cell (World.block_lt_of_cell? w _ hx822_0)).trans hx822_0; replace p822 := eq_true p822; replace q822 := eq_true q822
           go_wp2_with (first | ((with_reducible refine gate_callee (f := 126) rfl ?_); refine gL (some 33) Try.func126 #[.slice A1 l1.length c1, .string (rdOf ByteArray.empty l2 x26_2)] ?_; (with_reducible refine (spec_l1HasS.calls k2 _ _ l1 (rdOf ByteArray.empty l2 x26_2) false _ ?side1 ?side2 A21.out).mono ?_); (case side1 => exact Cz (Kd.C_below HR1.out HB.out)); (case side2 => exact HC1.out); rintro e w' ⟨rfl, ⟨nd, rfl⟩⟩; refine ⟨_, rfl, ?_⟩; obtain ⟨hcz29_0, hcz29_1, hcz29_2, hcz29_3, hfz29_0, hfz29_1, hfz29_2, hfz29_3⟩ := cf4 (w := wr) BK818) | (go_at_call 127; (with_reducible refine (spec_fiPrints.calls k2 a0_0 a0_1 a0_2 _ _ l0_3 (rdOf ByteArray.empty l2 x26_2) false _ ?side1 ?side2 A23.out).mono ?_); (case side1 => exact Cz (Kd.C_below HR0_3.out (Bq))); (case side2 => exact HC0_3.out); rintro e w30 ⟨rfl, hb⟩; have n0_ := Rb HO_8 hb; have n1_ := Kb BK818 hb; have n2_ := Bc HB hb; clear HO_8 BK818 HB; revert n0_ n1_ n2_; intro HO_8 BK818 HB; (try clear hb); (try clear hb2); (try clear hk); (try clear hi)))
           go_roundg k2
           case measure => have := HJ3.out; have := HK2.out; omega
           case rel => exact ⟨(x8_2), (wrap64 (x26_2 + 1)), wZ, H', ⟨by have := HJ3.out; have := HK2.out; omega⟩, ⟨Rz HO_8.out⟩, ⟨Kz BK818.out⟩, ⟨Bq⟩⟩
        ·rw [if_neg c20] at H
         exact absurd H (by simp)
       ·rw [if_neg c19] at H
        exact absurd H (by simp)
      ·rw [if_neg c18] at H
       have c18b0 : decide (x26_2 < (l2.length : Int)) = false := decide_eq_false c18; clear c18
       simp only [Option.some.injEq, Prod.mk.injEq] at H
       obtain ⟨rfl, rfl⟩ := H
       go_wp2
       go_ret2
       exact ⟨_, eZ, Rz HO_8.out, Bq⟩

def laws_rHasText.l0 : Nat → ByteArray → List ByteArray → Int → Int → Option (Bool)
 | 0, _, _, _, _ => none
 | k + 1, x1, x7, x8, x9 => if x9 < x8 then (if 0 ≤ x9 then (if x9 < (x7.length : Int) then (if (rdOf ByteArray.empty x7 x9).toList = x1.toList then (some true) else (laws_rHasText.l0 k x1 x7 x8 (wrap64 (x9 + 1)))) else (none)) else (none)) else (some false)
def laws_rHasText.f (k : Nat) (l0 : List ByteArray) (a1 : ByteArray) : Option (Bool) := laws_rHasText.l0 k a1 l0 (l0.length : Int) 0
theorem laws_rHasText.calls (k : Nat) (A0 : Option Addr) (c0 : Nat) (l0 : List ByteArray) (a1 : ByteArray) (r : Bool) (w : World) (hr0 : Kd.C Kd.string w A0 l0.length l0) (hc0 : l0.length ≤ c0) (h : laws_rHasText.f k l0 a1 = some r) :
  Calls Try.prog 48 #[.slice A0 l0.length c0, .string a1] w fun e w' => e = .returned (.bool r) ∧ Drawn0 w w' := by
 have HR0 := am hr0; have HC0 := am hc0; clear hr0 hc0; have H : (laws_rHasText.l0 k a1 l0 (l0.length : Int) 0) = some r := h; clear h; have H' := am H; clear H
 go_enter Try.func48, Try.ntmps48
 go_wp2
 go_loopg [9] k (fun kq v9 w' => ∃ (x9_1 : Int), v9 = .int .i64 x9_1 ∧ Aside0 (laws_rHasText.l0 kq a1 l0 (l0.length : Int) x9_1 = some r) ∧ Aside0 (kq ≤ k) ∧ Drawn0 w w')
 case atStart => exact ⟨(0), wZ, H', ⟨Nat.le_refl _⟩, by repeat (first | exact Drawn0.refl _ | apply Drawn0.step)⟩
 case round =>
  clear H'
  try clear p2
  obtain ⟨x9_1, rfl, HA, HK1, ⟨m1, rfl⟩⟩ := hrel; cases gk with
  | zero => exact absurd HA.out (by simp [laws_rHasText.l0])
  | succ k1 =>
   have H := HA.out; clear HA
   simp only [laws_rHasText.l0] at H
   by_cases c3 : x9_1 < (l0.length : Int)
   ·rw [if_pos c3] at H
    have c3b0 : decide (x9_1 < (l0.length : Int)) = true := decide_eq_true c3; clear c3
    by_cases c4 : 0 ≤ x9_1
    ·rw [if_pos c4] at H
     have c4b0 : decide (0 ≤ x9_1) = true := decide_eq_true c4; clear c4
     by_cases c5 : x9_1 < (l0.length : Int)
     ·rw [if_pos c5] at H
      have c5b0 : decide (x9_1 < (l0.length : Int)) = true := decide_eq_true c5; clear c5
      by_cases c6 : (rdOf ByteArray.empty l0 x9_1).toList = a1.toList
      ·rw [if_pos c6] at H
       have c6b0 : ((rdOf ByteArray.empty l0 x9_1).toList == a1.toList) = true := beq_iff_eq.mpr c6; have c6b1 : ((rdOf ByteArray.empty l0 x9_1).toList != a1.toList) = false := bne_eq_false_iff_eq.mpr c6; clear c6; obtain rfl := Option.some.inj H; obtain ⟨ad828, e828, hx828_0⟩ := Kd.at_string HR0.out x9_1 dT dT; cases e828; have p828 := eT (0 ≤ (x9_1 : Int)); have q828 := eT (x9_1 < (l0.length : Int))
       go_wp2
       go_ret
       exact ⟨by first | rfl | (simp; done) | (simp [*]; done), by repeat (first | exact Drawn0.refl _ | apply Drawn0.step)⟩
      ·rw [if_neg c6] at H
       have c6b0 : ((rdOf ByteArray.empty l0 x9_1).toList == a1.toList) = false := beq_eq_false_iff_ne.mpr c6; have c6b1 : ((rdOf ByteArray.empty l0 x9_1).toList != a1.toList) = true := bne_iff_ne.mpr c6; have H' := am H; clear H; obtain ⟨ad828, e828, hx828_0⟩ := Kd.at_string HR0.out x9_1 dT dT; cases e828; have p828 := eT (0 ≤ (x9_1 : Int)); have q828 := eT (x9_1 < (l0.length : Int))
       go_wp2
       go_roundg k1
       case measure => have := HK1.out; omega
       case rel => exact ⟨(wrap64 (x9_1 + 1)), wZ, H', ⟨by have := HK1.out; omega⟩, by repeat (first | exact Drawn0.refl _ | apply Drawn0.step)⟩
     ·rw [if_neg c5] at H
      exact absurd H (by simp)
    ·rw [if_neg c4] at H
     exact absurd H (by simp)
   ·rw [if_neg c3] at H
    have c3b0 : decide (x9_1 < (l0.length : Int)) = false := decide_eq_false c3; clear c3; obtain rfl := Option.some.inj H
    go_wp2
    go_ret
    exact ⟨by first | rfl | (simp; done) | (simp [*]; done), by repeat (first | exact Drawn0.refl _ | apply Drawn0.step)⟩

end Go.Proofs.Ytmehagedoaopeaa.PR
namespace Go.Proofs.Ytmehagedoaopeaa.PR
open Go.RowKit Go.Proofs.YtmehagedoaopeaaW.PrintWords Go.Proofs.YtmehagedoaopeaaW.PrintLast Go.Proofs.YtmehagedoaopeaaW.PrintMore Go.Proofs.YtmehagedoaopeaaSq
attribute [local go_sem] max2_int min2_int max_two min_two max_three min_three max_four min_four   -- for this text's walks alone
attribute [local go_sem] Go.Proofs.YtmehagedoaopeaaGp.str_geq Go.Proofs.YtmehagedoaopeaaGp.str_gtr Go.Proofs.YtmehagedoaopeaaGp.str_leq
set_option linter.unusedVariables false
set_option linter.unusedSimpArgs false

set_option maxHeartbeats 8000000
set_option maxRecDepth 100000
mutual
def laws_FnPrintsNeverDeny.j0 : Nat → List Int → Int → List ByteArray → Int → Bool → Bool → Int → Int → Int → List Int → Option (Bool)
 | 0, _, _, _, _, _, _, _, _, _, _ => none
 | k + 1, x1, x5, x6, x8, x10, x66, x844000, x844001, x844002, x844003 => if x66 = true then (some false) else (if x10 = true then (laws_FnPrintsNeverDeny.l0 k x1 x5 x8 x6 (x6.length : Int) 0 x844000 x844001 x844002 x844003) else (laws_FnPrintsNeverDeny.j2 k x1))
def laws_FnPrintsNeverDeny.j2 : Nat → List Int → Option (Bool)
 | 0, _ => none
 | k + 1, x1 => (spec_DrawPrintFalse.f k x1).bind fun bt860 => ((impl_PrintFalse.f k bt860.1 bt860.2.1 bt860.2.2.1 bt860.2.2.2.1 bt860.2.2.2.2.1 bt860.2.2.2.2.2).bind fun bt873 => ((spec_PrintFalse.f k bt860.1 bt860.2.1 bt860.2.2.1 bt860.2.2.2.1 bt860.2.2.2.2.1 bt860.2.2.2.2.2).bind fun bt877 => (if (bt873.2 != bt877.2) = true then (laws_FnPrintsNeverDeny.j3 k bt860.2.2.2.2.1 bt860.2.2.2.2.2 bt873.1 bt873.2 true bt860.1 bt860.2.1 bt860.2.2.1 bt860.2.2.2.1) else ((laws_pSameInts.f k bt873.1 bt877.1).bind fun t881 => (laws_FnPrintsNeverDeny.j3 k bt860.2.2.2.2.1 bt860.2.2.2.2.2 bt873.1 bt873.2 (!t881) bt860.1 bt860.2.1 bt860.2.2.1 bt860.2.2.2.1)))))
def laws_FnPrintsNeverDeny.j3 : Nat → List ByteArray → List ByteArray → List Int → Bool → Bool → Int → Int → Int → List Int → Option (Bool)
 | 0, _, _, _, _, _, _, _, _, _ => none
 | k + 1, x22, x23, x24, x25, x141, x873000, x873001, x873002, x873003 => if x141 = true then (some false) else (if x25 = true then (laws_FnPrintsNeverDeny.l1 k x22 x24 x23 (x23.length : Int) 0 x873000 x873001 x873002 x873003) else (some true))
def laws_FnPrintsNeverDeny.l1 : Nat → List ByteArray → List Int → List ByteArray → Int → Int → Int → Int → Int → List Int → Option (Bool)
 | 0, _, _, _, _, _, _, _, _, _ => none
 | k + 1, x22, x24, x143, x144, x145, x873000, x873001, x873002, x873003 => if x145 < x144 then (if 0 ≤ x145 then (if x145 < (x143.length : Int) then ((impl_PrintHas.f k x873000 x873001 x873002 x873003 (rdOf ByteArray.empty x143 x145)).bind fun bt883 => (if bt883.2 = true then ((laws_pHas.f k x24 x145).bind fun t885 => (if bt883.1 = true then ((laws_rHasText.f k x22 (rdOf ByteArray.empty x143 x145)).bind fun t886 => (if (t885 != (!t886)) = true then (some false) else (laws_FnPrintsNeverDeny.l1 k x22 x24 x143 x144 (wrap64 (x145 + 1)) x873000 x873001 x873002 x873003))) else (if (t885 != false) = true then (some false) else (laws_FnPrintsNeverDeny.l1 k x22 x24 x143 x144 (wrap64 (x145 + 1)) x873000 x873001 x873002 x873003)))) else (some false))) else (none)) else (none)) else (some true)
def laws_FnPrintsNeverDeny.l0 : Nat → List Int → Int → Int → List ByteArray → Int → Int → Int → Int → Int → List Int → Option (Bool)
 | 0, _, _, _, _, _, _, _, _, _, _ => none
 | k + 1, x1, x5, x8, x68, x69, x70, x844000, x844001, x844002, x844003 => if x70 < x69 then (if 0 ≤ x70 then (if x70 < (x68.length : Int) then ((impl_PrintHas.f k x844000 x844001 x844002 x844003 (rdOf ByteArray.empty x68 x70)).bind fun bt854 => ((impl_PrintOf.f k x5 x8 (rdOf ByteArray.empty x68 x70)).bind fun bt856 => ((impl_RetrieveValue.f k x844000 x844001 x844002 x844003 (rdOf ByteArray.empty x68 x70)).bind fun bt858 => (if bt854.2 = true then (if bt854.1 = true then (if bt856.2 = true then (if bt858.2 = true then (if bt856.1 = bt858.1 then (laws_FnPrintsNeverDeny.l0 k x1 x5 x8 x68 x69 (wrap64 (x70 + 1)) x844000 x844001 x844002 x844003) else (some false)) else (some false)) else (some false)) else (some false)) else (some false))))) else (none)) else (none)) else (laws_FnPrintsNeverDeny.j2 k x1)
end
def laws_FnPrintsNeverDeny.f (k : Nat) (l0 : List Int) (l1 : List Int) : Option (Bool) := (laws_big.f l0 l1).bind fun t829 => (if t829 = true then (some true) else ((spec_DrawPrintFilterOf.f k l0).bind fun bt830 => ((impl_PrintFilterOf.f k bt830.1 bt830.2.1 bt830.2.2.1 bt830.2.2.2).bind fun bt836 => ((spec_PrintFilterOf.f k bt830.1 bt830.2.1 bt830.2.2.1 bt830.2.2.2).bind fun bt844 => (if (bt836.2.2.2.2 != bt844.2.2.2.2) = true then (laws_FnPrintsNeverDeny.j0 k l1 bt830.1 bt830.2.1 bt830.2.2.2 bt836.2.2.2.2 true bt836.1 bt836.2.1 bt836.2.2.1 bt836.2.2.2.1) else ((laws_rSameTable.f k bt836.1 bt836.2.1 bt836.2.2.1 bt836.2.2.2.1 bt844.1 bt844.2.1 bt844.2.2.1 bt844.2.2.2.1).bind fun t852 => (laws_FnPrintsNeverDeny.j0 k l1 bt830.1 bt830.2.1 bt830.2.2.2 bt836.2.2.2.2 (!t852) bt836.1 bt836.2.1 bt836.2.2.1 bt836.2.2.2.1)))))))
theorem laws_FnPrintsNeverDeny.j0.dead (k : Nat) (y0 : List Int) (y1 : Int) (y2 : List ByteArray) (y3 : Int) (y4 : Bool) (y6 : Int) (y7 : Int) (y8 : Int) (y9 : List Int) : laws_FnPrintsNeverDeny.j0 k y0 y1 y2 y3 y4 true y6 y7 y8 y9 ≠ some true := by cases k <;> simp [laws_FnPrintsNeverDeny.j0]
theorem laws_FnPrintsNeverDeny.j3.dead (k : Nat) (y0 : List ByteArray) (y1 : List ByteArray) (y2 : List Int) (y3 : Bool) (y5 : Int) (y6 : Int) (y7 : Int) (y8 : List Int) : laws_FnPrintsNeverDeny.j3 k y0 y1 y2 y3 true y5 y6 y7 y8 ≠ some true := by cases k <;> simp [laws_FnPrintsNeverDeny.j3]
theorem laws_FnPrintsNeverDeny.calls (k : Nat) (A0 : Option Addr) (c0 : Nat) (l0 : List Int) (A1 : Option Addr) (c1 : Nat) (l1 : List Int) (r : Bool) (w : World) (hr0 : Kd.C (Kd.int .u8) w A0 l0.length l0) (hc0 : l0.length ≤ c0) (hr1 : Kd.C (Kd.int .u8) w A1 l1.length l1) (hc1 : l1.length ≤ c1) (h : laws_FnPrintsNeverDeny.f k l0 l1 = some r) (hT_ : r = true) :
  Calls Try.prog 7 #[.slice A0 l0.length c0, .slice A1 l1.length c1] w fun e w' => e = .returned (.bool r) ∧ Below w.heap.size w w' := by
 have hu71 := Try.underlying71; have HR0 := am hr0; have HC0 := am hc0; clear hr0 hc0; have HR1 := am hr1; have HC1 := am hc1; clear hr1 hc1; have HB := am (Below.refl w.heap.size w); have H : ((laws_big.f l0 l1).bind fun t829 => (if t829 = true then (some true) else ((spec_DrawPrintFilterOf.f k l0).bind fun bt830 => ((impl_PrintFilterOf.f k bt830.1 bt830.2.1 bt830.2.2.1 bt830.2.2.2).bind fun bt836 => ((spec_PrintFilterOf.f k bt830.1 bt830.2.1 bt830.2.2.1 bt830.2.2.2).bind fun bt844 => (if (bt836.2.2.2.2 != bt844.2.2.2.2) = true then (laws_FnPrintsNeverDeny.j0 k l1 bt830.1 bt830.2.1 bt830.2.2.2 bt836.2.2.2.2 true bt836.1 bt836.2.1 bt836.2.2.1 bt836.2.2.2.1) else ((laws_rSameTable.f k bt836.1 bt836.2.1 bt836.2.2.1 bt836.2.2.2.1 bt844.1 bt844.2.1 bt844.2.2.1 bt844.2.2.2.1).bind fun t852 => (laws_FnPrintsNeverDeny.j0 k l1 bt830.1 bt830.2.1 bt830.2.2.2 bt836.2.2.2.2 (!t852) bt836.1 bt836.2.1 bt836.2.2.1 bt836.2.2.2.1)))))))) = some r := h; clear h; have HQT_ := am hT_; clear hT_; obtain ⟨t829, A3, H⟩ := ob H; (try dsimp -simprocs only at H)
 by_cases c4 : t829 = true
 ·subst c4
  rw [if_pos rfl] at H; obtain rfl := Option.some.inj H
  go_enter Try.func7, Try.ntmps7
  go_wp2_with (first | ((with_reducible refine gate_callee (f := 8) rfl ?_); refine gL (some 34) Try.func8 #[.slice A0 l0.length c0, .slice A1 l1.length c1] ?_; (with_reducible refine (laws_big.calls _ _ l0 _ _ l1 true _ ?side1 ?side2 ?side3 ?side4 A3.out).mono ?_); (case side1 => exact Cz HR0.out); (case side2 => exact HC0.out); (case side3 => exact Cz HR1.out); (case side4 => exact HC1.out); rintro e w' ⟨rfl, ⟨nd, rfl⟩⟩; refine ⟨_, rfl, ?_⟩))
  go_ret
  exact ⟨eZ, Bz HB.out⟩
 ·replace c4 := Bool.eq_false_iff.mpr c4
  subst c4
  rw [if_neg Bool.false_ne_true] at H; obtain ⟨⟨t830, t831, t832, t833⟩, A5, H⟩ := ob H; (try dsimp -simprocs only at H); obtain ⟨⟨t836, t837, t838, t839, t842⟩, A6, H⟩ := ob H; (try dsimp -simprocs only at H); obtain ⟨⟨t844, t845, t846, t847, t850⟩, A7, H⟩ := ob H; (try dsimp -simprocs only at H); have HC8 := am H; clear H
  go_enter Try.func7, Try.ntmps7
  go_upto_region 6 with (first | ((with_reducible refine gate_callee (f := 8) rfl ?_); refine gL (some 34) Try.func8 #[.slice A0 l0.length c0, .slice A1 l1.length c1] ?_; (with_reducible refine (laws_big.calls _ _ l0 _ _ l1 false _ ?side1 ?side2 ?side3 ?side4 A3.out).mono ?_); (case side1 => exact Cz HR0.out); (case side2 => exact HC0.out); (case side3 => exact Cz HR1.out); (case side4 => exact HC1.out); rintro e w' ⟨rfl, ⟨nd, rfl⟩⟩; refine ⟨_, rfl, ?_⟩) | ((with_reducible refine gate_callee (f := 39) rfl ?_); refine gL (some 37) Try.func39 #[.slice A0 l0.length c0] ?_; (with_reducible refine (spec_DrawPrintFilterOf.calls k _ _ l0 t830 t831 t832 t833 _ ?side1 ?side2 A5.out).mono ?_); (case side1 => exact Cz HR0.out); (case side2 => exact HC0.out); rintro e w9 ⟨v834, rfl, ho0, hb⟩; refine ⟨_, rfl, ?_⟩; have n0_ := Rl ho0 HB; have n1_ := Bb HB hb; clear HB; revert n0_ n1_; intro HO835 HB; (try clear hb); (try clear hb2); (try clear hk); (try clear hi); (try clear ho0); obtain ⟨Ao10, co10, eo10⟩ := Kd.R_slice HO835.out; subst eo10) | ((with_reducible refine gate_callee (f := 40) rfl ?_); refine gL (some 47) Try.func40 #[.int .i64 t830, .slice Ao10 t831.length co10, .int .i64 t832, .int .i64 t833] ?_; (with_reducible refine (impl_PrintFilterOf.calls k t830 _ _ t831 t832 t833 t836 t837 t838 t839 t842 _ ?side1 ?side2 A6.out).mono ?_); (case side1 => exact Cz ((Kd.R_reads' HO835.out).2.2)); (case side2 => exact (Kd.R_reads' HO835.out).2.1); rintro e w11 ⟨v840, rfl, ho0, hb⟩; refine ⟨_, rfl, ?_⟩; have n0_ := Rb HO835 hb; have n1_ := Rl ho0 HB; have n2_ := Bb HB hb; clear HO835 HB; revert n0_ n1_ n2_; intro HO835 HO841 HB; (try clear hb); (try clear hb2); (try clear hk); (try clear hi); (try clear ho0)) | ((with_reducible refine gate_dst (N := 9) rfl ?_); refine bE 9 #[.int .i64 0, .int .i64 0, .int .i64 0, .slice none 0 0] 71 ?_; intro gb843 hg w12 hbox hb; have n0_ := Rb HO835 hb; have n1_ := Rb HO841 hb; have n2_ := Bb HB hb; have n3_ := am (hbox); have n4_ := Gl HB hg; have n5_ := Gl HB hg; clear HO835 HO841 HB; revert n0_ n1_ n2_ n3_ n4_ n5_; intro HO835 HO841 HB BK843 GW843 GE843; clear hb hbox hg; obtain ⟨hcz13_0, hcz13_1, hcz13_2, hcz13_3, hfz13_0, hfz13_1, hfz13_2, hfz13_3⟩ := cf4 (w := w12) BK843; obtain ⟨Ao14, co14, eo14⟩ := Kd.R_slice HO841.out; subst eo14) | ((with_reducible refine gate_callee (f := 41) rfl ?_); refine gL (some 55) Try.func41 #[.int .i64 t830, .slice Ao10 t831.length co10, .int .i64 t832, .int .i64 t833] ?_; (with_reducible refine (spec_PrintFilterOf.calls k t830 _ _ t831 t832 t833 t844 t845 t846 t847 t850 _ ?side1 ?side2 A7.out).mono ?_); (case side1 => refine (Kd.R_reads' (e := 9) (base := w.heap.size) (ok := fun k_ => True) (n := t831.length) (c := co10) ?_).2.2; exact (Rz (Kd.R_mono (Kd.R_far (p := ⟨gb843, 3, none⟩) (Kd.R_far (p := ⟨gb843, 2, none⟩) (Kd.R_far (p := ⟨gb843, 1, none⟩) (Kd.R_far (p := ⟨gb843, 0, none⟩) (Kd.R_types HO835.out BK843.out (by decide)) (fun _ hk => hk.2) (.int .i64 t836)) (fun _ hk => hk.2) (.int .i64 t837)) (fun _ hk => hk.2) (.int .i64 t838)) (fun _ hk => hk.2) (.slice Ao14 t839.length co14)) (fun _ h_ => h_.1)))); (case side2 => exact (Kd.R_reads' HO835.out).2.1); rintro e w15 ⟨v848, rfl, ho0, hb⟩; refine ⟨_, rfl, ?_⟩; have n0_ := am (Kd.R_below (Rz (Kd.R_mono (Kd.R_far (p := ⟨gb843, 3, none⟩) (Kd.R_far (p := ⟨gb843, 2, none⟩) (Kd.R_far (p := ⟨gb843, 1, none⟩) (Kd.R_far (p := ⟨gb843, 0, none⟩) (Kd.R_types HO835.out BK843.out (by decide)) (fun _ hk => hk.2) (.int .i64 t836)) (fun _ hk => hk.2) (.int .i64 t837)) (fun _ hk => hk.2) (.int .i64 t838)) (fun _ hk => hk.2) (.slice Ao14 t839.length co14)) (fun _ h_ => h_.1))) hb); have n1_ := am (Kd.R_elder' (Rz (Kd.R_mono (Kd.R_far (p := ⟨gb843, 3, none⟩) (Kd.R_far (p := ⟨gb843, 2, none⟩) (Kd.R_far (p := ⟨gb843, 1, none⟩) (Kd.R_far (p := ⟨gb843, 0, none⟩) (Kd.R_types HO841.out BK843.out (by decide)) (fun _ hk => hk.2) (.int .i64 t836)) (fun _ hk => hk.2) (.int .i64 t837)) (fun _ hk => hk.2) (.int .i64 t838)) (fun _ hk => hk.2) (.slice Ao14 t839.length co14)) (fun _ h_ => h_.1))) (Kd.R_base ho0) hb); have n2_ := am (Kd.R_lower (Kd.R_new' ho0 (Kd.R_lt (Rz (Kd.R_mono (Kd.R_far (p := ⟨gb843, 3, none⟩) (Kd.R_far (p := ⟨gb843, 2, none⟩) (Kd.R_far (p := ⟨gb843, 1, none⟩) (Kd.R_far (p := ⟨gb843, 0, none⟩) (Kd.R_types HO841.out BK843.out (by decide)) (fun _ hk => hk.2) (.int .i64 t836)) (fun _ hk => hk.2) (.int .i64 t837)) (fun _ hk => hk.2) (.int .i64 t838)) (fun _ hk => hk.2) (.slice Ao14 t839.length co14)) (fun _ h_ => h_.1))))) (below_size (w := w) (Bq))); have n3_ := am (blk_below (g := gb843) (o := .cells #[.int .i64 t836, .int .i64 t837, .int .i64 t838, .slice Ao14 t839.length co14] 71 (0, 0)) (by refine bp ?_; refine blk_put (cs := #[.int .i64 t836, .int .i64 t837, .int .i64 t838, .slice none 0 0]) ?_ 3 _ rfl; refine bp ?_; refine blk_put (cs := #[.int .i64 t836, .int .i64 t837, .int .i64 0, .slice none 0 0]) ?_ 2 _ rfl; refine bp ?_; refine blk_put (cs := #[.int .i64 t836, .int .i64 0, .int .i64 0, .slice none 0 0]) ?_ 1 _ rfl; refine bp ?_; refine blk_put (cs := #[.int .i64 0, .int .i64 0, .int .i64 0, .slice none 0 0]) ?_ 0 _ rfl; exact Kz BK843.out) hb); have n4_ := Bc HB hb; clear HO835 HO841 BK843 HB; revert n0_ n1_ n2_ n3_ n4_; intro HO835 HO841 HO849 BK843 HB; (try clear hb); (try clear hb2); (try clear hk); (try clear hi); (try clear ho0)) | ((with_reducible refine gate_dst (N := 11) rfl ?_); refine bE 11 #[.int .i64 0, .int .i64 0, .int .i64 0, .slice none 0 0] 71 ?_; intro gb851 hg w16 hbox hb; have n0_ := Rb HO835 hb; have n1_ := Rb HO841 hb; have n2_ := Rb HO849 hb; have n3_ := Kb BK843 hb; have n4_ := Bc HB hb; have n5_ := am (hbox); have n6_ := Gm HB hg; have n7_ := Gm HB hg; have n8_ := Nl BK843 hg; have n9_ := Ng BK843 hg; clear HO835 HO841 HO849 BK843 HB; revert n0_ n1_ n2_ n3_ n4_ n5_ n6_ n7_ n8_ n9_; intro HO835 HO841 HO849 BK843 HB BK851 GW851 GE851 NB843_851 NB851_843; clear hb hbox hg; have hnb17 := NB851_843.out; have hnc17 := NB843_851.out; obtain ⟨hcz18_0, hcz18_1, hcz18_2, hcz18_3, hfz18_0, hfz18_1, hfz18_2, hfz18_3⟩ := cf4 (w := w16) BK851; obtain ⟨Ao19, co19, eo19⟩ := Kd.R_slice HO849.out; subst eo19))
  (try simp only [aP])
  go_cut [66] (fun v66 wc => ∃ (kq : Nat) (x66_7 : Bool), v66 = .bool x66_7 ∧ Aside0 (laws_FnPrintsNeverDeny.j0 kq l1 t830 t831 t833 t842 x66_7 t836 t837 t838 t839 = some r) ∧ Aside0 (kq ≤ k) ∧ Aside0 (Kd.R Kd.string 9 wc w.heap.size (fun _ => True) (.slice Ao10 t831.length co10) t831) ∧ Aside0 (Kd.R (Kd.int .i64) 3 wc w.heap.size (fun k_ => some k_ ≠ ((.slice Ao19 t847.length co19) : Value).ownBlock) (.slice Ao14 t839.length co14) t839) ∧ Aside0 (Kd.R (Kd.int .i64) 3 wc w.heap.size (fun k_ => some k_ ≠ ((.slice Ao14 t839.length co14) : Value).ownBlock) (.slice Ao19 t847.length co19) t847) ∧ Aside0 (wc.heap[gb843]? = some (.cells #[.int .i64 t836, .int .i64 t837, .int .i64 t838, (.slice Ao14 t839.length co14)] 71 (0, 0))) ∧ Aside0 (wc.heap[gb851]? = some (.cells #[.int .i64 t844, .int .i64 t845, .int .i64 t846, (.slice Ao19 t847.length co19)] 71 (0, 0))) ∧ Aside0 (Below w.heap.size w wc))
  case first =>
   have H := HC8.out; clear HC8
   by_cases c20 : (t842 != t850) = true
   ·rw [if_pos c20] at H
    have c20b0 : (t842 != t850) = true := c20
    (try (have c20b1 : decide (t842 = t850) = false := by simpa using c20))
    (try (have c20b2 : (t842 == t850) = false := by simpa using c20))
    (try (have c20b3 : ¬ (t842 = t850) := by simpa using c20))
    (try (have c20b4 : (!(t842 == t850)) = true := c20b0))
    clear c20
    (first | rw [c20b0] | (simp only [i64_w, i32_w]; rw [c20b0]) | skip)
    exact absurd (H.trans (congrArg some HQT_.out)) (laws_FnPrintsNeverDeny.j0.dead _ _ _ _ _ _ _ _ _ _)
   ·rw [if_neg c20] at H
    have c20b0 : (t842 != t850) = false := by simpa using c20
    (try (have c20b1 : decide (t842 = t850) = true := by simpa using c20))
    (try (have c20b2 : (t842 == t850) = true := by simpa using c20))
    (try (have c20b3 : (!(t842 == t850)) = false := c20b0))
    clear c20
    (first | rw [c20b0] | (simp only [i64_w, i32_w]; rw [c20b0]) | skip)
    obtain ⟨t852, A21, H⟩ := ob H; (try dsimp -simprocs only at H); have H' := am H; clear H; have hnb22 := NB843_851.out; have hnc22 := NB851_843.out; obtain ⟨hcz23_0, hcz23_1, hcz23_2, hcz23_3, hfz23_0, hfz23_1, hfz23_2, hfz23_3⟩ := cf4 (w := w16) BK843; obtain ⟨hcz24_0, hcz24_1, hcz24_2, hcz24_3, hfz24_0, hfz24_1, hfz24_2, hfz24_3⟩ := cf4 (w := w16) BK851
    go_wp2_with (first | (go_at_call 42; (with_reducible refine (laws_rSameTable.calls k t836 t837 t838 _ _ t839 t844 t845 t846 _ _ t847 t852 _ ?side1 ?side2 ?side3 ?side4 A21.out).mono ?_); (case side1 => refine (Kd.R_reads' (e := 3) (base := w.heap.size) (ok := fun k_ => (True ∧ some k_ ≠ (.slice Ao19 t847.length co19 : Value).ownBlock)) (n := t839.length) (c := co14) ?_).2.2; exact (Rz (Kd.R_mono (Kd.R_far (p := ⟨gb851, 3, none⟩) (Kd.R_far (p := ⟨gb851, 2, none⟩) (Kd.R_far (p := ⟨gb851, 1, none⟩) (Kd.R_far (p := ⟨gb851, 0, none⟩) (Kd.R_types HO841.out BK851.out (by decide)) (fun _ hk => hk.2) (.int .i64 t844)) (fun _ hk => hk.2) (.int .i64 t845)) (fun _ hk => hk.2) (.int .i64 t846)) (fun _ hk => hk.2) (.slice Ao19 t847.length co19)) (fun _ h_ => h_.1)))); (case side2 => exact (Kd.R_reads' HO841.out).2.1); (case side3 => refine (Kd.R_reads' (e := 3) (base := w.heap.size) (ok := fun k_ => (True ∧ some k_ ≠ (.slice Ao14 t839.length co14 : Value).ownBlock)) (n := t847.length) (c := co19) ?_).2.2; exact (Rz (Kd.R_mono (Kd.R_far (p := ⟨gb851, 3, none⟩) (Kd.R_far (p := ⟨gb851, 2, none⟩) (Kd.R_far (p := ⟨gb851, 1, none⟩) (Kd.R_far (p := ⟨gb851, 0, none⟩) (Kd.R_types HO849.out BK851.out (by decide)) (fun _ hk => hk.2) (.int .i64 t844)) (fun _ hk => hk.2) (.int .i64 t845)) (fun _ hk => hk.2) (.int .i64 t846)) (fun _ hk => hk.2) (.slice Ao19 t847.length co19)) (fun _ h_ => h_.1)))); (case side4 => exact (Kd.R_reads' HO849.out).2.1); rintro e w25 ⟨rfl, hb⟩; have n0_ := am (Kd.R_below (Rz (Kd.R_mono (Kd.R_far (p := ⟨gb851, 3, none⟩) (Kd.R_far (p := ⟨gb851, 2, none⟩) (Kd.R_far (p := ⟨gb851, 1, none⟩) (Kd.R_far (p := ⟨gb851, 0, none⟩) (Kd.R_types HO835.out BK851.out (by decide)) (fun _ hk => hk.2) (.int .i64 t844)) (fun _ hk => hk.2) (.int .i64 t845)) (fun _ hk => hk.2) (.int .i64 t846)) (fun _ hk => hk.2) (.slice Ao19 t847.length co19)) (fun _ h_ => h_.1))) hb); have n1_ := am (Kd.R_below (Rz (Kd.R_mono (Kd.R_far (p := ⟨gb851, 3, none⟩) (Kd.R_far (p := ⟨gb851, 2, none⟩) (Kd.R_far (p := ⟨gb851, 1, none⟩) (Kd.R_far (p := ⟨gb851, 0, none⟩) (Kd.R_types HO841.out BK851.out (by decide)) (fun _ hk => hk.2) (.int .i64 t844)) (fun _ hk => hk.2) (.int .i64 t845)) (fun _ hk => hk.2) (.int .i64 t846)) (fun _ hk => hk.2) (.slice Ao19 t847.length co19)) (fun _ h_ => h_.1))) hb); have n2_ := am (Kd.R_below (Rz (Kd.R_mono (Kd.R_far (p := ⟨gb851, 3, none⟩) (Kd.R_far (p := ⟨gb851, 2, none⟩) (Kd.R_far (p := ⟨gb851, 1, none⟩) (Kd.R_far (p := ⟨gb851, 0, none⟩) (Kd.R_types HO849.out BK851.out (by decide)) (fun _ hk => hk.2) (.int .i64 t844)) (fun _ hk => hk.2) (.int .i64 t845)) (fun _ hk => hk.2) (.int .i64 t846)) (fun _ hk => hk.2) (.slice Ao19 t847.length co19)) (fun _ h_ => h_.1))) hb); have n3_ := am (blk_below (g := gb843) (o := .cells #[.int .i64 t836, .int .i64 t837, .int .i64 t838, .slice Ao14 t839.length co14] 71 (0, 0)) (by refine bp ?_; refine blk_far ?_ NB843_851.out _; refine bp ?_; refine blk_far ?_ NB843_851.out _; refine bp ?_; refine blk_far ?_ NB843_851.out _; refine bp ?_; refine blk_far ?_ NB843_851.out _; exact Kz BK843.out) hb); have n4_ := am (blk_below (g := gb851) (o := .cells #[.int .i64 t844, .int .i64 t845, .int .i64 t846, .slice Ao19 t847.length co19] 71 (0, 0)) (by refine bp ?_; refine blk_put (cs := #[.int .i64 t844, .int .i64 t845, .int .i64 t846, .slice none 0 0]) ?_ 3 _ rfl; refine bp ?_; refine blk_put (cs := #[.int .i64 t844, .int .i64 t845, .int .i64 0, .slice none 0 0]) ?_ 2 _ rfl; refine bp ?_; refine blk_put (cs := #[.int .i64 t844, .int .i64 0, .int .i64 0, .slice none 0 0]) ?_ 1 _ rfl; refine bp ?_; refine blk_put (cs := #[.int .i64 0, .int .i64 0, .int .i64 0, .slice none 0 0]) ?_ 0 _ rfl; exact Kz BK851.out) hb); have n5_ := Bc HB hb; clear HO835 HO841 HO849 BK843 BK851 HB; revert n0_ n1_ n2_ n3_ n4_ n5_; intro HO835 HO841 HO849 BK843 BK851 HB; (try clear hb); (try clear hb2); (try clear hk); (try clear hi)))
    go_meet
    case rel => exact ⟨_, (!t852), wZ, H', ⟨by first | omega | exact Nat.le_refl _⟩, ⟨Rz HO835.out⟩, ⟨Rz (Kd.R_mono HO841.out (fun _ hk => hk.2))⟩, ⟨Rz (Kd.R_mono HO849.out (fun _ hk => hk.2))⟩, ⟨Kz BK843.out⟩, ⟨Kz BK851.out⟩, ⟨Bq⟩⟩
  case rest =>
   clear HC8
   try clear c1
   try clear c2
   try clear p2
   try clear c3
   try clear c4
   try clear c7
   try clear c8
   try clear c17
   try clear c20
   try clear c20b0
   try clear c20b1
   try clear c20b2
   try clear c22
   obtain ⟨kq, x66_7, rfl, HA, HJ7, HO_6, HO_844003, HO_852003, BK843, BK851, HB⟩ := hcut; cases kq with
   | zero => exact absurd HA.out (by simp [laws_FnPrintsNeverDeny.j0])
   | succ kj7 =>
    have H := HA.out; clear HA
    simp only [laws_FnPrintsNeverDeny.j0] at H
    by_cases c26 : x66_7 = true
    ·subst c26
     rw [if_pos rfl] at H; exact absurd (Option.some.inj H) (by rw [HQT_.out]; decide)
    ·replace c26 := Bool.eq_false_iff.mpr c26
     subst c26
     rw [if_neg Bool.false_ne_true] at H; have HC27 := am H; clear H
     go_upto_if 67 with (fail)
     go_cut [] (fun wc => ∃ (kq : Nat), Aside0 (laws_FnPrintsNeverDeny.j2 kq l1 = some r) ∧ Aside0 (kq ≤ kj7) ∧ Aside0 (Kd.R (Kd.int .i64) 3 wc w.heap.size (fun k_ => some k_ ≠ ((.slice Ao19 t847.length co19) : Value).ownBlock) (.slice Ao14 t839.length co14) t839) ∧ Aside0 (Kd.R (Kd.int .i64) 3 wc w.heap.size (fun k_ => some k_ ≠ ((.slice Ao14 t839.length co14) : Value).ownBlock) (.slice Ao19 t847.length co19) t847) ∧ Aside0 (wc.heap[gb843]? = some (.cells #[.int .i64 t836, .int .i64 t837, .int .i64 t838, (.slice Ao14 t839.length co14)] 71 (0, 0))) ∧ Aside0 (wc.heap[gb851]? = some (.cells #[.int .i64 t844, .int .i64 t845, .int .i64 t846, (.slice Ao19 t847.length co19)] 71 (0, 0))) ∧ Aside0 (Below w.heap.size w wc))
     case first =>
      have H := HC27.out; clear HC27
      by_cases c28 : t842 = true
      ·subst c28
       rw [if_pos rfl] at H; have H' := am H; clear H
       go_wp2
       go_loopg [70] kj7 (fun kq v70 w' => ∃ (x70_2 : Int), v70 = .int .i64 x70_2 ∧ Aside0 (laws_FnPrintsNeverDeny.l0 kq l1 t830 t833 t831 (t831.length : Int) x70_2 t836 t837 t838 t839 = some r) ∧ Aside0 (kq ≤ kj7) ∧ Aside0 (Kd.R Kd.string 9 w' w.heap.size (fun _ => True) (.slice Ao10 t831.length co10) t831) ∧ Aside0 (Kd.R (Kd.int .i64) 3 w' w.heap.size (fun k_ => some k_ ≠ ((.slice Ao19 t847.length co19) : Value).ownBlock) (.slice Ao14 t839.length co14) t839) ∧ Aside0 (Kd.R (Kd.int .i64) 3 w' w.heap.size (fun k_ => some k_ ≠ ((.slice Ao14 t839.length co14) : Value).ownBlock) (.slice Ao19 t847.length co19) t847) ∧ Aside0 (w'.heap[gb843]? = some (.cells #[.int .i64 t836, .int .i64 t837, .int .i64 t838, (.slice Ao14 t839.length co14)] 71 (0, 0))) ∧ Aside0 (w'.heap[gb851]? = some (.cells #[.int .i64 t844, .int .i64 t845, .int .i64 t846, (.slice Ao19 t847.length co19)] 71 (0, 0))) ∧ Aside0 (Below w.heap.size w w'))
       case atStart => exact ⟨(0), wZ, H', ⟨Nat.le_refl _⟩, ⟨Rz HO_6.out⟩, ⟨Rz HO_844003.out⟩, ⟨Rz HO_852003.out⟩, ⟨Kz BK843.out⟩, ⟨Kz BK851.out⟩, ⟨Bq⟩⟩
       case round =>
        clear H'
        try clear c1
        try clear c2
        try clear p2
        try clear c3
        try clear c4
        try clear c7
        try clear c8
        try clear c17
        try clear c20
        try clear c20b0
        try clear c20b1
        try clear c20b2
        try clear c22
        try clear c26
        try clear c28
        try clear p2
        obtain ⟨x70_2, rfl, HA, HK2, HO_68, HO_844003, HO_852003, BK843, BK851, HB⟩ := hrel; cases gk with
        | zero => exact absurd HA.out (by simp [laws_FnPrintsNeverDeny.l0])
        | succ k2 =>
         have H := HA.out; clear HA
         simp only [laws_FnPrintsNeverDeny.l0] at H
         by_cases c29 : x70_2 < (t831.length : Int)
         ·rw [if_pos c29] at H
          have c29b0 : decide (x70_2 < (t831.length : Int)) = true := decide_eq_true c29; clear c29
          (first | rw [c29b0] | (simp only [i64_w, i32_w]; rw [c29b0]) | skip)
          by_cases c30 : 0 ≤ x70_2
          ·rw [if_pos c30] at H
           have c30b0 : decide (0 ≤ x70_2) = true := decide_eq_true c30; clear c30
           by_cases c31 : x70_2 < (t831.length : Int)
           ·rw [if_pos c31] at H
            have c31b0 : decide (x70_2 < (t831.length : Int)) = true := decide_eq_true c31; clear c31; obtain ⟨⟨t854, t855⟩, A32, H⟩ := ob H; (try dsimp -simprocs only at H); obtain ⟨⟨t856, t857⟩, A33, H⟩ := ob H; (try dsimp -simprocs only at H); obtain ⟨⟨t858, t859⟩, A34, H⟩ := ob H; (try dsimp -simprocs only at H)
            by_cases c35 : t855 = true
            ·subst c35
             rw [if_pos rfl] at H
             by_cases c36 : t854 = true
             ·subst c36
              rw [if_pos rfl] at H
              by_cases c37 : t857 = true
              ·subst c37
               rw [if_pos rfl] at H
               by_cases c38 : t859 = true
               ·subst c38
                rw [if_pos rfl] at H
                by_cases c39 : t856 = t858
                ·rw [if_pos c39] at H
                 have c39b0 : (t856 == t858) = true := beq_iff_eq.mpr c39; have c39b1 : (t856 != t858) = false := bne_eq_false_iff_eq.mpr c39; clear c39; have H' := am H; clear H; obtain ⟨ad853, e853, hx853_0⟩ := Kd.at_string (Kd.R_reads' HO_68.out).2.2 x70_2 dT dT; cases e853; have p853 := eT (0 ≤ (x70_2 : Int)); have q853 := eT (x70_2 < (t831.length : Int)); have hnb40 := NB843_851.out; have hnc40 := NB851_843.out; obtain ⟨hcz41_0, hcz41_1, hcz41_2, hcz41_3, hfz41_0, hfz41_1, hfz41_2, hfz41_3⟩ := cf4 (w := wr) BK843
                 go_wp2_with (first | ((with_reducible refine gate_callee (f := 43) rfl ?_); refine gL (some 77) Try.func43 #[.agg #[.int .i64 t836, .int .i64 t837, .int .i64 t838, .slice Ao14 t839.length co14], .string (rdOf ByteArray.empty t831 x70_2)] ?_; (with_reducible refine (impl_PrintHas.calls k2 t836 t837 t838 _ _ t839 (rdOf ByteArray.empty t831 x70_2) true true _ ?side1 ?side2 A32.out).mono ?_); (case side1 => exact Cz ((Kd.R_reads' HO_844003.out).2.2)); (case side2 => exact (Kd.R_reads' HO_844003.out).2.1); rintro e w42 ⟨rfl, hb⟩; refine ⟨_, rfl, ?_⟩; have n0_ := Rb HO_68 hb; have n1_ := Rb HO_844003 hb; have n2_ := Rb HO_852003 hb; have n3_ := Kb BK843 hb; have n4_ := Kb BK851 hb; have n5_ := Bc HB hb; clear HO_68 HO_844003 HO_852003 BK843 BK851 HB; revert n0_ n1_ n2_ n3_ n4_ n5_; intro HO_68 HO_844003 HO_852003 BK843 BK851 HB; (try clear hb); (try clear hb2); (try clear hk); (try clear hi)) | ((with_reducible refine gate_callee (f := 44) rfl ?_); refine gL (some 84) Try.func44 #[.int .i64 t830, .int .i64 t833, .string (rdOf ByteArray.empty t831 x70_2)] ?_; (with_reducible refine (impl_PrintOf.calls k2 t830 t833 (rdOf ByteArray.empty t831 x70_2) t856 true _ A33.out).mono ?_); rintro e w' ⟨rfl, ⟨nd, rfl⟩⟩; refine ⟨_, rfl, ?_⟩; obtain ⟨hcz43_0, hcz43_1, hcz43_2, hcz43_3, hfz43_0, hfz43_1, hfz43_2, hfz43_3⟩ := cf4 (w := w42) BK843) | ((with_reducible refine gate_callee (f := 38) rfl ?_); refine gL (some 90) Try.func38 #[.agg #[.int .i64 t836, .int .i64 t837, .int .i64 t838, .slice Ao14 t839.length co14], .string (rdOf ByteArray.empty t831 x70_2)] ?_; (with_reducible refine (impl_RetrieveValue.calls k2 t836 t837 t838 _ _ t839 (rdOf ByteArray.empty t831 x70_2) t858 true _ ?side1 ?side2 A34.out).mono ?_); (case side1 => exact Cz ((Kd.R_reads' HO_844003.out).2.2)); (case side2 => exact (Kd.R_reads' HO_844003.out).2.1); rintro e w44 ⟨rfl, hb⟩; refine ⟨_, rfl, ?_⟩; have n0_ := Rb HO_68 hb; have n1_ := Rb HO_844003 hb; have n2_ := Rb HO_852003 hb; have n3_ := Kb BK843 hb; have n4_ := Kb BK851 hb; have n5_ := Bc HB hb; clear HO_68 HO_844003 HO_852003 BK843 BK851 HB; revert n0_ n1_ n2_ n3_ n4_ n5_; intro HO_68 HO_844003 HO_852003 BK843 BK851 HB; (try clear hb); (try clear hb2); (try clear hk); (try clear hi)))
                 go_roundg k2
                 case measure => have := HJ7.out; have := HK2.out; omega
                 case rel => exact ⟨(wrap64 (x70_2 + 1)), wZ, H', ⟨by have := HJ7.out; have := HK2.out; omega⟩, ⟨Rz HO_68.out⟩, ⟨Rz HO_844003.out⟩, ⟨Rz HO_852003.out⟩, ⟨Kz BK843.out⟩, ⟨Kz BK851.out⟩, ⟨Bq⟩⟩
                ·rw [if_neg c39] at H
                 have c39b0 : (t856 == t858) = false := beq_eq_false_iff_ne.mpr c39; have c39b1 : (t856 != t858) = true := bne_iff_ne.mpr c39; exact absurd (Option.some.inj H) (by rw [HQT_.out]; decide)
               ·replace c38 := Bool.eq_false_iff.mpr c38
                subst c38
                rw [if_neg Bool.false_ne_true] at H; exact absurd (Option.some.inj H) (by rw [HQT_.out]; decide)
              ·replace c37 := Bool.eq_false_iff.mpr c37
               subst c37
               rw [if_neg Bool.false_ne_true] at H; exact absurd (Option.some.inj H) (by rw [HQT_.out]; decide)
             ·replace c36 := Bool.eq_false_iff.mpr c36
              subst c36
              rw [if_neg Bool.false_ne_true] at H; exact absurd (Option.some.inj H) (by rw [HQT_.out]; decide)
            ·replace c35 := Bool.eq_false_iff.mpr c35
             subst c35
             rw [if_neg Bool.false_ne_true] at H; exact absurd (Option.some.inj H) (by rw [HQT_.out]; decide)
           ·rw [if_neg c31] at H
            exact absurd H (by simp)
          ·rw [if_neg c30] at H
           exact absurd H (by simp)
         ·rw [if_neg c29] at H
          have c29b0 : decide (x70_2 < (t831.length : Int)) = false := decide_eq_false c29; clear c29
          (first | rw [c29b0] | (simp only [i64_w, i32_w]; rw [c29b0]) | skip)
          have H' := am H; clear H
          go_wp2
          go_meet
          case rel => exact ⟨_, H', ⟨by have := HJ7.out; have := HK2.out; first | omega | exact Nat.le_refl _⟩, ⟨Rz HO_844003.out⟩, ⟨Rz HO_852003.out⟩, ⟨Kz BK843.out⟩, ⟨Kz BK851.out⟩, ⟨Bq⟩⟩
      ·replace c28 := Bool.eq_false_iff.mpr c28
       subst c28
       rw [if_neg Bool.false_ne_true] at H; have H' := am H; clear H
       go_wp2
       go_meet
       case rel => exact ⟨_, H', ⟨by have := HJ7.out; first | omega | exact Nat.le_refl _⟩, ⟨Rz HO_844003.out⟩, ⟨Rz HO_852003.out⟩, ⟨Kz BK843.out⟩, ⟨Kz BK851.out⟩, ⟨Bq⟩⟩
     case rest =>
      clear HC27
      try clear c1
      try clear c2
      try clear p2
      try clear c3
      try clear c4
      try clear p6
      try clear c7
      try clear c8
      try clear p8
      try clear q8
      try clear hx8
      try clear c17
      try clear c20
      try clear c20b0
      try clear c20b1
      try clear c20b2
      try clear c22
      try clear c26
      try clear c28
      try clear c29
      try clear c29b0
      try clear c30
      try clear c30b0
      try clear c31
      try clear c31b0
      try clear c35
      try clear c36
      try clear c37
      try clear c38
      try clear c39
      try clear c39b0
      try clear c39b1
      try clear c40
      try clear c41
      try clear c43
      try clear c44
      try clear hx853_0
      try clear p2
      try clear p853
      try clear q853
      obtain ⟨kq, HA, HJ26, HO_844003, HO_852003, BK843, BK851, HB⟩ := hcut; cases kq with
      | zero => exact absurd HA.out (by simp [laws_FnPrintsNeverDeny.j2])
      | succ kj26 =>
       have H := HA.out; clear HA
       simp only [laws_FnPrintsNeverDeny.j2] at H
       obtain ⟨⟨t860, t861, t862, t863, t866, t869⟩, A45, H⟩ := ob H; (try dsimp -simprocs only at H); obtain ⟨⟨t873, t876⟩, A46, H⟩ := ob H; (try dsimp -simprocs only at H); obtain ⟨⟨t877, t880⟩, A47, H⟩ := ob H; (try dsimp -simprocs only at H); have HC48 := am H; clear H
       go_upto_region 21 with (first | ((with_reducible refine gate_callee (f := 45) rfl ?_); refine gL (some 115) Try.func45 #[.slice A1 l1.length c1] ?_; (with_reducible refine (spec_DrawPrintFalse.calls kj26 _ _ l1 t860 t861 t862 t863 t866 t869 _ ?side1 ?side2 A45.out).mono ?_); (case side1 => exact Cz (Kd.C_below HR1.out HB.out)); (case side2 => exact HC1.out); rintro e w49 ⟨v864, v867, v870, rfl, ho0, ho1, ho2, hb⟩; refine ⟨_, rfl, ?_⟩; have n0_ := Re HO_844003 (Kd.R_base ho0) hb; have n1_ := Re HO_852003 (Kd.R_base ho0) hb; have n2_ := Rm (Kd.R_new' (Kd.R_new' ho0 (Kd.R_lt (Rz HO_844003.out))) (Kd.R_lt (Rz HO_852003.out))) HB; have n3_ := Rm ho1 HB; have n4_ := Rm ho2 HB; have n5_ := Kb BK843 hb; have n6_ := Kb BK851 hb; have n7_ := Bc HB hb; clear HO_844003 HO_852003 BK843 BK851 HB; revert n0_ n1_ n2_ n3_ n4_ n5_ n6_ n7_; intro HO_844003 HO_852003 HO865 HO868 HO871 BK843 BK851 HB; (try clear hb); (try clear hb2); (try clear hk); (try clear hi); (try clear ho0); (try clear ho1); (try clear ho2)) | ((with_reducible refine gate_dst (N := 21) rfl ?_); refine bE 21 #[.int .i64 0, .int .i64 0, .int .i64 0, .slice none 0 0] 71 ?_; intro gb872 hg w50 hbox hb; have n0_ := Rb HO_844003 hb; have n1_ := Rb HO_852003 hb; have n2_ := Rb HO865 hb; have n3_ := Rb HO868 hb; have n4_ := Rb HO871 hb; have n5_ := Kb BK843 hb; have n6_ := Kb BK851 hb; have n7_ := Bc HB hb; have n8_ := am (hbox); have n9_ := Gm HB hg; have n10_ := Gm HB hg; have n11_ := Nl BK843 hg; have n12_ := Ng BK843 hg; have n13_ := Nl BK851 hg; have n14_ := Ng BK851 hg; clear HO_844003 HO_852003 HO865 HO868 HO871 BK843 BK851 HB; revert n0_ n1_ n2_ n3_ n4_ n5_ n6_ n7_ n8_ n9_ n10_ n11_ n12_ n13_ n14_; intro HO_844003 HO_852003 HO865 HO868 HO871 BK843 BK851 HB BK872 GW872 GE872 NB843_872 NB872_843 NB851_872 NB872_851; clear hb hbox hg; have hnb51 := NB872_843.out; have hnc51 := NB843_872.out; have hnb52 := NB872_851.out; have hnc52 := NB851_872.out; obtain ⟨hcz53_0, hcz53_1, hcz53_2, hcz53_3, hfz53_0, hfz53_1, hfz53_2, hfz53_3⟩ := cf4 (w := w50) BK872; obtain ⟨Ao54, co54, eo54⟩ := Kd.R_slice HO865.out; subst eo54; obtain ⟨Ao55, co55, eo55⟩ := Kd.R_slice HO868.out; subst eo55; obtain ⟨Ao56, co56, eo56⟩ := Kd.R_slice HO871.out; subst eo56) | ((with_reducible refine gate_callee (f := 46) rfl ?_); refine gL (some 123) Try.func46 #[.agg #[.int .i64 t860, .int .i64 t861, .int .i64 t862, .slice Ao54 t863.length co54], .slice Ao55 t866.length co55, .slice Ao56 t869.length co56] ?_; (with_reducible refine (impl_PrintFalse.calls kj26 t860 t861 t862 _ _ t863 _ _ t866 _ _ t869 t873 t876 _ ?side1 ?side2 ?side3 ?side4 ?side5 ?side6 A46.out).mono ?_); (case side1 => refine (Kd.R_reads' (e := 3) (base := w.heap.size) (ok := fun k_ => ((True ∧ some k_ ≠ (.slice Ao14 t839.length co14 : Value).ownBlock) ∧ some k_ ≠ (.slice Ao19 t847.length co19 : Value).ownBlock)) (n := t863.length) (c := co54) ?_).2.2; exact (Rz (Kd.R_mono (Kd.R_far (p := ⟨gb872, 3, none⟩) (Kd.R_far (p := ⟨gb872, 2, none⟩) (Kd.R_far (p := ⟨gb872, 1, none⟩) (Kd.R_far (p := ⟨gb872, 0, none⟩) (Kd.R_types HO865.out BK872.out (by decide)) (fun _ hk => hk.2) (.int .i64 t860)) (fun _ hk => hk.2) (.int .i64 t861)) (fun _ hk => hk.2) (.int .i64 t862)) (fun _ hk => hk.2) (.slice Ao54 t863.length co54)) (fun _ h_ => h_.1)))); (case side2 => exact (Kd.R_reads' HO865.out).2.1); (case side3 => refine (Kd.R_reads' (e := 9) (base := w.heap.size) (ok := fun k_ => some k_ ≠ (.slice Ao56 t869.length co56 : Value).ownBlock) (n := t866.length) (c := co55) ?_).2.2; exact (Rz (Kd.R_mono (Kd.R_far (p := ⟨gb872, 3, none⟩) (Kd.R_far (p := ⟨gb872, 2, none⟩) (Kd.R_far (p := ⟨gb872, 1, none⟩) (Kd.R_far (p := ⟨gb872, 0, none⟩) (Kd.R_types HO868.out BK872.out (by decide)) (fun _ hk => hk.2) (.int .i64 t860)) (fun _ hk => hk.2) (.int .i64 t861)) (fun _ hk => hk.2) (.int .i64 t862)) (fun _ hk => hk.2) (.slice Ao54 t863.length co54)) (fun _ h_ => h_.1)))); (case side4 => exact (Kd.R_reads' HO868.out).2.1); (case side5 => refine (Kd.R_reads' (e := 9) (base := w.heap.size) (ok := fun k_ => some k_ ≠ (.slice Ao55 t866.length co55 : Value).ownBlock) (n := t869.length) (c := co56) ?_).2.2; exact (Rz (Kd.R_mono (Kd.R_far (p := ⟨gb872, 3, none⟩) (Kd.R_far (p := ⟨gb872, 2, none⟩) (Kd.R_far (p := ⟨gb872, 1, none⟩) (Kd.R_far (p := ⟨gb872, 0, none⟩) (Kd.R_types HO871.out BK872.out (by decide)) (fun _ hk => hk.2) (.int .i64 t860)) (fun _ hk => hk.2) (.int .i64 t861)) (fun _ hk => hk.2) (.int .i64 t862)) (fun _ hk => hk.2) (.slice Ao54 t863.length co54)) (fun _ h_ => h_.1)))); (case side6 => exact (Kd.R_reads' HO871.out).2.1); rintro e w57 ⟨v874, rfl, ho0, hb⟩; refine ⟨_, rfl, ?_⟩; have n0_ := am (Kd.R_elder' (Rz (Kd.R_mono (Kd.R_far (p := ⟨gb872, 3, none⟩) (Kd.R_far (p := ⟨gb872, 2, none⟩) (Kd.R_far (p := ⟨gb872, 1, none⟩) (Kd.R_far (p := ⟨gb872, 0, none⟩) (Kd.R_types HO_844003.out BK872.out (by decide)) (fun _ hk => hk.2) (.int .i64 t860)) (fun _ hk => hk.2) (.int .i64 t861)) (fun _ hk => hk.2) (.int .i64 t862)) (fun _ hk => hk.2) (.slice Ao54 t863.length co54)) (fun _ h_ => h_.1))) (Kd.R_base ho0) hb); have n1_ := am (Kd.R_elder' (Rz (Kd.R_mono (Kd.R_far (p := ⟨gb872, 3, none⟩) (Kd.R_far (p := ⟨gb872, 2, none⟩) (Kd.R_far (p := ⟨gb872, 1, none⟩) (Kd.R_far (p := ⟨gb872, 0, none⟩) (Kd.R_types HO_852003.out BK872.out (by decide)) (fun _ hk => hk.2) (.int .i64 t860)) (fun _ hk => hk.2) (.int .i64 t861)) (fun _ hk => hk.2) (.int .i64 t862)) (fun _ hk => hk.2) (.slice Ao54 t863.length co54)) (fun _ h_ => h_.1))) (Kd.R_base ho0) hb); have n2_ := am (Kd.R_elder' (Rz (Kd.R_mono (Kd.R_far (p := ⟨gb872, 3, none⟩) (Kd.R_far (p := ⟨gb872, 2, none⟩) (Kd.R_far (p := ⟨gb872, 1, none⟩) (Kd.R_far (p := ⟨gb872, 0, none⟩) (Kd.R_types HO865.out BK872.out (by decide)) (fun _ hk => hk.2) (.int .i64 t860)) (fun _ hk => hk.2) (.int .i64 t861)) (fun _ hk => hk.2) (.int .i64 t862)) (fun _ hk => hk.2) (.slice Ao54 t863.length co54)) (fun _ h_ => h_.1))) (Kd.R_base ho0) hb); have n3_ := am (Kd.R_below (Rz (Kd.R_mono (Kd.R_far (p := ⟨gb872, 3, none⟩) (Kd.R_far (p := ⟨gb872, 2, none⟩) (Kd.R_far (p := ⟨gb872, 1, none⟩) (Kd.R_far (p := ⟨gb872, 0, none⟩) (Kd.R_types HO868.out BK872.out (by decide)) (fun _ hk => hk.2) (.int .i64 t860)) (fun _ hk => hk.2) (.int .i64 t861)) (fun _ hk => hk.2) (.int .i64 t862)) (fun _ hk => hk.2) (.slice Ao54 t863.length co54)) (fun _ h_ => h_.1))) hb); have n4_ := am (Kd.R_below (Rz (Kd.R_mono (Kd.R_far (p := ⟨gb872, 3, none⟩) (Kd.R_far (p := ⟨gb872, 2, none⟩) (Kd.R_far (p := ⟨gb872, 1, none⟩) (Kd.R_far (p := ⟨gb872, 0, none⟩) (Kd.R_types HO871.out BK872.out (by decide)) (fun _ hk => hk.2) (.int .i64 t860)) (fun _ hk => hk.2) (.int .i64 t861)) (fun _ hk => hk.2) (.int .i64 t862)) (fun _ hk => hk.2) (.slice Ao54 t863.length co54)) (fun _ h_ => h_.1))) hb); have n5_ := am (Kd.R_lower (Kd.R_new' (Kd.R_new' (Kd.R_new' ho0 (Kd.R_lt (Rz (Kd.R_mono (Kd.R_far (p := ⟨gb872, 3, none⟩) (Kd.R_far (p := ⟨gb872, 2, none⟩) (Kd.R_far (p := ⟨gb872, 1, none⟩) (Kd.R_far (p := ⟨gb872, 0, none⟩) (Kd.R_types HO_844003.out BK872.out (by decide)) (fun _ hk => hk.2) (.int .i64 t860)) (fun _ hk => hk.2) (.int .i64 t861)) (fun _ hk => hk.2) (.int .i64 t862)) (fun _ hk => hk.2) (.slice Ao54 t863.length co54)) (fun _ h_ => h_.1))))) (Kd.R_lt (Rz (Kd.R_mono (Kd.R_far (p := ⟨gb872, 3, none⟩) (Kd.R_far (p := ⟨gb872, 2, none⟩) (Kd.R_far (p := ⟨gb872, 1, none⟩) (Kd.R_far (p := ⟨gb872, 0, none⟩) (Kd.R_types HO_852003.out BK872.out (by decide)) (fun _ hk => hk.2) (.int .i64 t860)) (fun _ hk => hk.2) (.int .i64 t861)) (fun _ hk => hk.2) (.int .i64 t862)) (fun _ hk => hk.2) (.slice Ao54 t863.length co54)) (fun _ h_ => h_.1))))) (Kd.R_lt (Rz (Kd.R_mono (Kd.R_far (p := ⟨gb872, 3, none⟩) (Kd.R_far (p := ⟨gb872, 2, none⟩) (Kd.R_far (p := ⟨gb872, 1, none⟩) (Kd.R_far (p := ⟨gb872, 0, none⟩) (Kd.R_types HO865.out BK872.out (by decide)) (fun _ hk => hk.2) (.int .i64 t860)) (fun _ hk => hk.2) (.int .i64 t861)) (fun _ hk => hk.2) (.int .i64 t862)) (fun _ hk => hk.2) (.slice Ao54 t863.length co54)) (fun _ h_ => h_.1))))) (below_size (w := w) (Bq))); have n6_ := am (blk_below (g := gb843) (o := .cells #[.int .i64 t836, .int .i64 t837, .int .i64 t838, .slice Ao14 t839.length co14] 71 (0, 0)) (by refine bp ?_; refine blk_far ?_ NB843_872.out _; refine bp ?_; refine blk_far ?_ NB843_872.out _; refine bp ?_; refine blk_far ?_ NB843_872.out _; refine bp ?_; refine blk_far ?_ NB843_872.out _; exact Kz BK843.out) hb); have n7_ := am (blk_below (g := gb851) (o := .cells #[.int .i64 t844, .int .i64 t845, .int .i64 t846, .slice Ao19 t847.length co19] 71 (0, 0)) (by refine bp ?_; refine blk_far ?_ NB851_872.out _; refine bp ?_; refine blk_far ?_ NB851_872.out _; refine bp ?_; refine blk_far ?_ NB851_872.out _; refine bp ?_; refine blk_far ?_ NB851_872.out _; exact Kz BK851.out) hb); have n8_ := am (blk_below (g := gb872) (o := .cells #[.int .i64 t860, .int .i64 t861, .int .i64 t862, .slice Ao54 t863.length co54] 71 (0, 0)) (by refine bp ?_; refine blk_put (cs := #[.int .i64 t860, .int .i64 t861, .int .i64 t862, .slice none 0 0]) ?_ 3 _ rfl; refine bp ?_; refine blk_put (cs := #[.int .i64 t860, .int .i64 t861, .int .i64 0, .slice none 0 0]) ?_ 2 _ rfl; refine bp ?_; refine blk_put (cs := #[.int .i64 t860, .int .i64 0, .int .i64 0, .slice none 0 0]) ?_ 1 _ rfl; refine bp ?_; refine blk_put (cs := #[.int .i64 0, .int .i64 0, .int .i64 0, .slice none 0 0]) ?_ 0 _ rfl; exact Kz BK872.out) hb); have n9_ := Bc HB hb; clear HO_844003 HO_852003 HO865 HO868 HO871 BK843 BK851 BK872 HB; revert n0_ n1_ n2_ n3_ n4_ n5_ n6_ n7_ n8_ n9_; intro HO_844003 HO_852003 HO865 HO868 HO871 HO875 BK843 BK851 BK872 HB; (try clear hb); (try clear hb2); (try clear hk); (try clear hi); (try clear ho0); obtain ⟨hcz58_0, hcz58_1, hcz58_2, hcz58_3, hfz58_0, hfz58_1, hfz58_2, hfz58_3⟩ := cf4 (w := w57) BK872) | ((with_reducible refine gate_callee (f := 47) rfl ?_); refine gL (some 130) Try.func47 #[.agg #[.int .i64 t860, .int .i64 t861, .int .i64 t862, .slice Ao54 t863.length co54], .slice Ao55 t866.length co55, .slice Ao56 t869.length co56] ?_; (with_reducible refine (spec_PrintFalse.calls kj26 t860 t861 t862 _ _ t863 _ _ t866 _ _ t869 t877 t880 _ ?side1 ?side2 ?side3 ?side4 ?side5 ?side6 A47.out).mono ?_); (case side1 => exact Cz ((Kd.R_reads' HO865.out).2.2)); (case side2 => exact (Kd.R_reads' HO865.out).2.1); (case side3 => exact Cz ((Kd.R_reads' HO868.out).2.2)); (case side4 => exact (Kd.R_reads' HO868.out).2.1); (case side5 => exact Cz ((Kd.R_reads' HO871.out).2.2)); (case side6 => exact (Kd.R_reads' HO871.out).2.1); rintro e w59 ⟨v878, rfl, ho0, hb⟩; refine ⟨_, rfl, ?_⟩; have n0_ := Re HO_844003 (Kd.R_base ho0) hb; have n1_ := Re HO_852003 (Kd.R_base ho0) hb; have n2_ := Re HO865 (Kd.R_base ho0) hb; have n3_ := Rb HO868 hb; have n4_ := Rb HO871 hb; have n5_ := Re HO875 (Kd.R_base ho0) hb; have n6_ := am (Kd.R_lower (Kd.R_new' (Kd.R_new' (Kd.R_new' (Kd.R_new' ho0 (Kd.R_lt (Rz HO_844003.out))) (Kd.R_lt (Rz HO_852003.out))) (Kd.R_lt (Rz HO865.out))) (Kd.R_lt (Rz HO875.out))) (below_size (w := w) (Bq))); have n7_ := Kb BK843 hb; have n8_ := Kb BK851 hb; have n9_ := Kb BK872 hb; have n10_ := Bc HB hb; clear HO_844003 HO_852003 HO865 HO868 HO871 HO875 BK843 BK851 BK872 HB; revert n0_ n1_ n2_ n3_ n4_ n5_ n6_ n7_ n8_ n9_ n10_; intro HO_844003 HO_852003 HO865 HO868 HO871 HO875 HO879 BK843 BK851 BK872 HB; (try clear hb); (try clear hb2); (try clear hk); (try clear hi); (try clear ho0)))
       (try simp only [aP])
       go_cut [141] (fun v141 wc => ∃ (kq : Nat) (x141_47 : Bool), v141 = .bool x141_47 ∧ Aside0 (laws_FnPrintsNeverDeny.j3 kq t866 t869 t873 t876 x141_47 t860 t861 t862 t863 = some r) ∧ Aside0 (kq ≤ kj26) ∧ Aside0 (Kd.R Kd.string 9 wc w.heap.size (fun k_ => some k_ ≠ ((.slice Ao56 t869.length co56) : Value).ownBlock) (.slice Ao55 t866.length co55) t866) ∧ Aside0 (Kd.R Kd.string 9 wc w.heap.size (fun k_ => some k_ ≠ ((.slice Ao55 t866.length co55) : Value).ownBlock) (.slice Ao56 t869.length co56) t869) ∧ Aside0 (Kd.R (Kd.int .i64) 3 wc w.heap.size (fun k_ => some k_ ≠ ((.slice Ao14 t839.length co14) : Value).ownBlock ∧ some k_ ≠ ((.slice Ao19 t847.length co19) : Value).ownBlock ∧ some k_ ≠ ((.slice Ao54 t863.length co54) : Value).ownBlock) v874 t873) ∧ Aside0 (Kd.R (Kd.int .i64) 3 wc w.heap.size (fun k_ => some k_ ≠ (v874 : Value).ownBlock ∧ some k_ ≠ ((.slice Ao19 t847.length co19) : Value).ownBlock ∧ some k_ ≠ ((.slice Ao54 t863.length co54) : Value).ownBlock) (.slice Ao14 t839.length co14) t839) ∧ Aside0 (Kd.R (Kd.int .i64) 3 wc w.heap.size (fun k_ => some k_ ≠ (v874 : Value).ownBlock ∧ some k_ ≠ ((.slice Ao14 t839.length co14) : Value).ownBlock ∧ some k_ ≠ ((.slice Ao54 t863.length co54) : Value).ownBlock) (.slice Ao19 t847.length co19) t847) ∧ Aside0 (Kd.R (Kd.int .i64) 3 wc w.heap.size (fun k_ => some k_ ≠ (v874 : Value).ownBlock ∧ some k_ ≠ ((.slice Ao14 t839.length co14) : Value).ownBlock ∧ some k_ ≠ ((.slice Ao19 t847.length co19) : Value).ownBlock) (.slice Ao54 t863.length co54) t863) ∧ Aside0 (wc.heap[gb843]? = some (.cells #[.int .i64 t836, .int .i64 t837, .int .i64 t838, (.slice Ao14 t839.length co14)] 71 (0, 0))) ∧ Aside0 (wc.heap[gb851]? = some (.cells #[.int .i64 t844, .int .i64 t845, .int .i64 t846, (.slice Ao19 t847.length co19)] 71 (0, 0))) ∧ Aside0 (wc.heap[gb872]? = some (.cells #[.int .i64 t860, .int .i64 t861, .int .i64 t862, (.slice Ao54 t863.length co54)] 71 (0, 0))) ∧ Aside0 (Below w.heap.size w wc))
       case first =>
        have H := HC48.out; clear HC48
        by_cases c60 : (t876 != t880) = true
        ·rw [if_pos c60] at H
         have c60b0 : (t876 != t880) = true := c60
         (try (have c60b1 : decide (t876 = t880) = false := by simpa using c60))
         (try (have c60b2 : (t876 == t880) = false := by simpa using c60))
         (try (have c60b3 : ¬ (t876 = t880) := by simpa using c60))
         (try (have c60b4 : (!(t876 == t880)) = true := c60b0))
         clear c60
         (first | rw [c60b0] | (simp only [i64_w, i32_w]; rw [c60b0]) | skip)
         exact absurd (H.trans (congrArg some HQT_.out)) (laws_FnPrintsNeverDeny.j3.dead _ _ _ _ _ _ _ _ _)
        ·rw [if_neg c60] at H
         have c60b0 : (t876 != t880) = false := by simpa using c60
         (try (have c60b1 : decide (t876 = t880) = true := by simpa using c60))
         (try (have c60b2 : (t876 == t880) = true := by simpa using c60))
         (try (have c60b3 : (!(t876 == t880)) = false := c60b0))
         clear c60
         (first | rw [c60b0] | (simp only [i64_w, i32_w]; rw [c60b0]) | skip)
         obtain ⟨t881, A61, H⟩ := ob H; (try dsimp -simprocs only at H); have H' := am H; clear H; obtain ⟨Ao62, co62, eo62⟩ := Kd.R_slice HO875.out; subst eo62; obtain ⟨Ao63, co63, eo63⟩ := Kd.R_slice HO879.out; subst eo63
         go_wp2_with (first | (go_at_call 21; (with_reducible refine (laws_pSameInts.calls kj26 _ _ t873 _ _ t877 t881 _ ?side1 ?side2 ?side3 ?side4 A61.out).mono ?_); (case side1 => exact Cz ((Kd.R_reads' HO875.out).2.2)); (case side2 => exact (Kd.R_reads' HO875.out).2.1); (case side3 => exact Cz ((Kd.R_reads' HO879.out).2.2)); (case side4 => exact (Kd.R_reads' HO879.out).2.1); rintro e w' ⟨rfl, ⟨nd, rfl⟩⟩))
         go_meet
         case rel => exact ⟨_, (!t881), wZ, H', ⟨by have := HJ7.out; have := HJ26.out; first | omega | exact Nat.le_refl _⟩, ⟨Rz HO868.out⟩, ⟨Rz HO871.out⟩, ⟨Rz (Kd.R_mono HO875.out (fun _ hk => ⟨hk.1.1.1.2, ⟨hk.1.1.2, hk.1.2⟩⟩))⟩, ⟨Rz (Kd.R_mono HO_844003.out (fun _ hk => ⟨hk.1.2, ⟨hk.1.1.1, hk.1.1.2⟩⟩))⟩, ⟨Rz (Kd.R_mono HO_852003.out (fun _ hk => ⟨hk.1.2, ⟨hk.1.1.1, hk.1.1.2⟩⟩))⟩, ⟨Rz (Kd.R_mono HO865.out (fun _ hk => ⟨hk.1.2, ⟨hk.1.1.1.2, hk.1.1.2⟩⟩))⟩, ⟨Kz BK843.out⟩, ⟨Kz BK851.out⟩, ⟨Kz BK872.out⟩, ⟨Bq⟩⟩
       case rest =>
        clear HC48
        try clear c1
        try clear c2
        try clear p2
        try clear c3
        try clear c4
        try clear c5
        try clear c6
        try clear p6
        try clear c7
        try clear c8
        try clear p8
        try clear q8
        try clear hx8
        try clear c17
        try clear c20
        try clear c20b0
        try clear c20b1
        try clear c20b2
        try clear c22
        try clear c26
        try clear c28
        try clear c29
        try clear c29b0
        try clear c30
        try clear c30b0
        try clear c31
        try clear c31b0
        try clear c35
        try clear c36
        try clear c37
        try clear c38
        try clear c39
        try clear c39b0
        try clear c39b1
        try clear c40
        try clear c41
        try clear c43
        try clear c44
        try clear c45
        try clear c46
        try clear c47
        try clear c51
        try clear c52
        try clear c60
        try clear c60b0
        try clear c60b1
        try clear c60b2
        try clear hx853_0
        try clear p2
        try clear p6
        try clear p8
        try clear p853
        try clear q8
        try clear q853
        obtain ⟨kq, x141_47, rfl, HA, HJ47, HO_22, HO_23, HO_24, HO_844003, HO_852003, HO_873003, BK843, BK851, BK872, HB⟩ := hcut; cases kq with
        | zero => exact absurd HA.out (by simp [laws_FnPrintsNeverDeny.j3])
        | succ kj47 =>
         have H := HA.out; clear HA
         simp only [laws_FnPrintsNeverDeny.j3] at H
         by_cases c64 : x141_47 = true
         ·subst c64
          rw [if_pos rfl] at H; exact absurd (Option.some.inj H) (by rw [HQT_.out]; decide)
         ·replace c64 := Bool.eq_false_iff.mpr c64
          subst c64
          rw [if_neg Bool.false_ne_true] at H
          by_cases c65 : t876 = true
          ·subst c65
           rw [if_pos rfl] at H; have H' := am H; clear H
           go_wp2
           go_loopg [145] kj47 (fun kq v145 w' => ∃ (x145_4 : Int), v145 = .int .i64 x145_4 ∧ Aside0 (laws_FnPrintsNeverDeny.l1 kq t866 t873 t869 (t869.length : Int) x145_4 t860 t861 t862 t863 = some r) ∧ Aside0 (kq ≤ kj47) ∧ Aside0 (Kd.R Kd.string 9 w' w.heap.size (fun k_ => some k_ ≠ ((.slice Ao56 t869.length co56) : Value).ownBlock) (.slice Ao55 t866.length co55) t866) ∧ Aside0 (Kd.R (Kd.int .i64) 3 w' w.heap.size (fun k_ => some k_ ≠ ((.slice Ao14 t839.length co14) : Value).ownBlock ∧ some k_ ≠ ((.slice Ao19 t847.length co19) : Value).ownBlock ∧ some k_ ≠ ((.slice Ao54 t863.length co54) : Value).ownBlock) v874 t873) ∧ Aside0 (Kd.R Kd.string 9 w' w.heap.size (fun k_ => some k_ ≠ ((.slice Ao55 t866.length co55) : Value).ownBlock) (.slice Ao56 t869.length co56) t869) ∧ Aside0 (Kd.R (Kd.int .i64) 3 w' w.heap.size (fun k_ => some k_ ≠ (v874 : Value).ownBlock ∧ some k_ ≠ ((.slice Ao19 t847.length co19) : Value).ownBlock ∧ some k_ ≠ ((.slice Ao54 t863.length co54) : Value).ownBlock) (.slice Ao14 t839.length co14) t839) ∧ Aside0 (Kd.R (Kd.int .i64) 3 w' w.heap.size (fun k_ => some k_ ≠ (v874 : Value).ownBlock ∧ some k_ ≠ ((.slice Ao14 t839.length co14) : Value).ownBlock ∧ some k_ ≠ ((.slice Ao54 t863.length co54) : Value).ownBlock) (.slice Ao19 t847.length co19) t847) ∧ Aside0 (Kd.R (Kd.int .i64) 3 w' w.heap.size (fun k_ => some k_ ≠ (v874 : Value).ownBlock ∧ some k_ ≠ ((.slice Ao14 t839.length co14) : Value).ownBlock ∧ some k_ ≠ ((.slice Ao19 t847.length co19) : Value).ownBlock) (.slice Ao54 t863.length co54) t863) ∧ Aside0 (w'.heap[gb843]? = some (.cells #[.int .i64 t836, .int .i64 t837, .int .i64 t838, (.slice Ao14 t839.length co14)] 71 (0, 0))) ∧ Aside0 (w'.heap[gb851]? = some (.cells #[.int .i64 t844, .int .i64 t845, .int .i64 t846, (.slice Ao19 t847.length co19)] 71 (0, 0))) ∧ Aside0 (w'.heap[gb872]? = some (.cells #[.int .i64 t860, .int .i64 t861, .int .i64 t862, (.slice Ao54 t863.length co54)] 71 (0, 0))) ∧ Aside0 (Below w.heap.size w w'))
           case atStart => exact ⟨(0), wZ, H', ⟨Nat.le_refl _⟩, ⟨Rz HO_22.out⟩, ⟨Rz HO_24.out⟩, ⟨Rz HO_23.out⟩, ⟨Rz HO_844003.out⟩, ⟨Rz HO_852003.out⟩, ⟨Rz HO_873003.out⟩, ⟨Kz BK843.out⟩, ⟨Kz BK851.out⟩, ⟨Kz BK872.out⟩, ⟨Bq⟩⟩
           case round =>
            clear H'
            try clear c1
            try clear c2
            try clear p2
            try clear c3
            try clear c4
            try clear c5
            try clear c6
            try clear p6
            try clear c7
            try clear c8
            try clear p8
            try clear q8
            try clear hx8
            try clear c17
            try clear c20
            try clear c20b0
            try clear c20b1
            try clear c20b2
            try clear c22
            try clear c26
            try clear c28
            try clear c29
            try clear c29b0
            try clear c30
            try clear c30b0
            try clear c31
            try clear c31b0
            try clear c35
            try clear c36
            try clear c37
            try clear c38
            try clear c39
            try clear c39b0
            try clear c39b1
            try clear c40
            try clear c41
            try clear c43
            try clear c44
            try clear c45
            try clear c46
            try clear c47
            try clear c51
            try clear c52
            try clear c60
            try clear c60b0
            try clear c60b1
            try clear c60b2
            try clear c64
            try clear p64
            try clear c65
            try clear hx853_0
            try clear p2
            try clear p6
            try clear p8
            try clear p853
            try clear q8
            try clear q853
            obtain ⟨x145_4, rfl, HA, HK4, HO_22, HO_24, HO_143, HO_844003, HO_852003, HO_873003, BK843, BK851, BK872, HB⟩ := hrel; cases gk with
            | zero => exact absurd HA.out (by simp [laws_FnPrintsNeverDeny.l1])
            | succ k4 =>
             have H := HA.out; clear HA
             simp only [laws_FnPrintsNeverDeny.l1] at H
             by_cases c66 : x145_4 < (t869.length : Int)
             ·rw [if_pos c66] at H
              have c66b0 : decide (x145_4 < (t869.length : Int)) = true := decide_eq_true c66; clear c66
              by_cases c67 : 0 ≤ x145_4
              ·rw [if_pos c67] at H
               have c67b0 : decide (0 ≤ x145_4) = true := decide_eq_true c67; clear c67
               by_cases c68 : x145_4 < (t869.length : Int)
               ·rw [if_pos c68] at H
                have c68b0 : decide (x145_4 < (t869.length : Int)) = true := decide_eq_true c68; clear c68; obtain ⟨⟨t883, t884⟩, A69, H⟩ := ob H; (try dsimp -simprocs only at H)
                by_cases c70 : t884 = true
                ·subst c70
                 rw [if_pos rfl] at H; obtain ⟨t885, A71, H⟩ := ob H; (try dsimp -simprocs only at H)
                 by_cases c72 : t883 = true
                 ·subst c72
                  rw [if_pos rfl] at H; obtain ⟨t886, A73, H⟩ := ob H; (try dsimp -simprocs only at H)
                  by_cases c74 : (t885 != (!t886)) = true
                  ·rw [if_pos c74] at H
                   have c74b0 : (t885 != (!t886)) = true := c74
                   (try (have c74b1 : decide (t885 = (!t886)) = false := by simpa using c74))
                   (try (have c74b2 : (t885 == (!t886)) = false := by simpa using c74))
                   (try (have c74b3 : ¬ (t885 = (!t886)) := by simpa using c74))
                   (try (have c74b4 : (!(t885 == (!t886))) = true := c74b0))
                   clear c74; exact absurd (Option.some.inj H) (by rw [HQT_.out]; decide)
                  ·rw [if_neg c74] at H
                   have c74b0 : (t885 != (!t886)) = false := by simpa using c74
                   (try (have c74b1 : decide (t885 = (!t886)) = true := by simpa using c74))
                   (try (have c74b2 : (t885 == (!t886)) = true := by simpa using c74))
                   (try (have c74b3 : (!(t885 == (!t886))) = false := c74b0))
                   clear c74; have H' := am H; clear H; obtain ⟨ad882, e882, hx882_0⟩ := Kd.at_string (Kd.R_reads' HO_143.out).2.2 x145_4 dT dT; cases e882; have p882 := eT (0 ≤ (x145_4 : Int)); have q882 := eT (x145_4 < (t869.length : Int)); have hnb75 := NB872_843.out; have hnc75 := NB843_872.out; have hnb76 := NB872_851.out; have hnc76 := NB851_872.out; obtain ⟨hcz77_0, hcz77_1, hcz77_2, hcz77_3, hfz77_0, hfz77_1, hfz77_2, hfz77_3⟩ := cf4 (w := wr) BK872
                   go_wp2_with (first | ((with_reducible refine gate_callee (f := 43) rfl ?_); refine gL (some 153) Try.func43 #[.agg #[.int .i64 t860, .int .i64 t861, .int .i64 t862, .slice Ao54 t863.length co54], .string (rdOf ByteArray.empty t869 x145_4)] ?_; (with_reducible refine (impl_PrintHas.calls k4 t860 t861 t862 _ _ t863 (rdOf ByteArray.empty t869 x145_4) true true _ ?side1 ?side2 A69.out).mono ?_); (case side1 => exact Cz ((Kd.R_reads' HO_873003.out).2.2)); (case side2 => exact (Kd.R_reads' HO_873003.out).2.1); rintro e w78 ⟨rfl, hb⟩; refine ⟨_, rfl, ?_⟩; have n0_ := Rb HO_22 hb; have n1_ := Rb HO_24 hb; have n2_ := Rb HO_143 hb; have n3_ := Rb HO_844003 hb; have n4_ := Rb HO_852003 hb; have n5_ := Rb HO_873003 hb; have n6_ := Kb BK843 hb; have n7_ := Kb BK851 hb; have n8_ := Kb BK872 hb; have n9_ := Bc HB hb; clear HO_22 HO_24 HO_143 HO_844003 HO_852003 HO_873003 BK843 BK851 BK872 HB; revert n0_ n1_ n2_ n3_ n4_ n5_ n6_ n7_ n8_ n9_; intro HO_22 HO_24 HO_143 HO_844003 HO_852003 HO_873003 BK843 BK851 BK872 HB; (try clear hb); (try clear hb2); (try clear hk); (try clear hi); obtain ⟨Ao79, co79, eo79⟩ := Kd.R_slice HO_24.out; subst eo79) | (go_at_call 17; (with_reducible refine (laws_pHas.calls k4 _ _ t873 x145_4 t885 _ ?side1 ?side2 A71.out).mono ?_); (case side1 => exact Cz ((Kd.R_reads' HO_24.out).2.2)); (case side2 => exact (Kd.R_reads' HO_24.out).2.1); rintro e w' ⟨rfl, ⟨nd, rfl⟩⟩) | (go_at_call 48; (with_reducible refine (laws_rHasText.calls k4 _ _ t866 (rdOf ByteArray.empty t869 x145_4) t886 _ ?side1 ?side2 A73.out).mono ?_); (case side1 => exact Cz ((Kd.R_reads' HO_22.out).2.2)); (case side2 => exact (Kd.R_reads' HO_22.out).2.1); rintro e w' ⟨rfl, ⟨nd, rfl⟩⟩))
                   go_roundg k4
                   case measure => have := HJ7.out; have := HJ26.out; have := HJ47.out; have := HK4.out; omega
                   case rel => exact ⟨(wrap64 (x145_4 + 1)), wZ, H', ⟨by have := HJ7.out; have := HJ26.out; have := HJ47.out; have := HK4.out; omega⟩, ⟨Rz HO_22.out⟩, ⟨Rz HO_24.out⟩, ⟨Rz HO_143.out⟩, ⟨Rz HO_844003.out⟩, ⟨Rz HO_852003.out⟩, ⟨Rz HO_873003.out⟩, ⟨Kz BK843.out⟩, ⟨Kz BK851.out⟩, ⟨Kz BK872.out⟩, ⟨Bq⟩⟩
                 ·replace c72 := Bool.eq_false_iff.mpr c72
                  subst c72
                  rw [if_neg Bool.false_ne_true] at H
                  by_cases c80 : (t885 != false) = true
                  ·rw [if_pos c80] at H
                   have c80b0 : (t885 != false) = true := c80
                   (try (have c80b1 : decide (t885 = false) = false := by simpa using c80))
                   (try (have c80b2 : (t885 == false) = false := by simpa using c80))
                   (try (have c80b3 : ¬ (t885 = false) := by simpa using c80))
                   (try (have c80b4 : (!(t885 == false)) = true := c80b0))
                   clear c80; exact absurd (Option.some.inj H) (by rw [HQT_.out]; decide)
                  ·rw [if_neg c80] at H
                   have c80b0 : (t885 != false) = false := by simpa using c80
                   (try (have c80b1 : decide (t885 = false) = true := by simpa using c80))
                   (try (have c80b2 : (t885 == false) = true := by simpa using c80))
                   (try (have c80b3 : (!(t885 == false)) = false := c80b0))
                   clear c80; have H' := am H; clear H; obtain ⟨ad882, e882, hx882_0⟩ := Kd.at_string (Kd.R_reads' HO_143.out).2.2 x145_4 dT dT; cases e882; have p882 := eT (0 ≤ (x145_4 : Int)); have q882 := eT (x145_4 < (t869.length : Int)); have hnb81 := NB872_843.out; have hnc81 := NB843_872.out; have hnb82 := NB872_851.out; have hnc82 := NB851_872.out; obtain ⟨hcz83_0, hcz83_1, hcz83_2, hcz83_3, hfz83_0, hfz83_1, hfz83_2, hfz83_3⟩ := cf4 (w := wr) BK872
                   go_wp2_with (first | ((with_reducible refine gate_callee (f := 43) rfl ?_); refine gL (some 153) Try.func43 #[.agg #[.int .i64 t860, .int .i64 t861, .int .i64 t862, .slice Ao54 t863.length co54], .string (rdOf ByteArray.empty t869 x145_4)] ?_; (with_reducible refine (impl_PrintHas.calls k4 t860 t861 t862 _ _ t863 (rdOf ByteArray.empty t869 x145_4) false true _ ?side1 ?side2 A69.out).mono ?_); (case side1 => exact Cz ((Kd.R_reads' HO_873003.out).2.2)); (case side2 => exact (Kd.R_reads' HO_873003.out).2.1); rintro e w84 ⟨rfl, hb⟩; refine ⟨_, rfl, ?_⟩; have n0_ := Rb HO_22 hb; have n1_ := Rb HO_24 hb; have n2_ := Rb HO_143 hb; have n3_ := Rb HO_844003 hb; have n4_ := Rb HO_852003 hb; have n5_ := Rb HO_873003 hb; have n6_ := Kb BK843 hb; have n7_ := Kb BK851 hb; have n8_ := Kb BK872 hb; have n9_ := Bc HB hb; clear HO_22 HO_24 HO_143 HO_844003 HO_852003 HO_873003 BK843 BK851 BK872 HB; revert n0_ n1_ n2_ n3_ n4_ n5_ n6_ n7_ n8_ n9_; intro HO_22 HO_24 HO_143 HO_844003 HO_852003 HO_873003 BK843 BK851 BK872 HB; (try clear hb); (try clear hb2); (try clear hk); (try clear hi); obtain ⟨Ao85, co85, eo85⟩ := Kd.R_slice HO_24.out; subst eo85) | (go_at_call 17; (with_reducible refine (laws_pHas.calls k4 _ _ t873 x145_4 t885 _ ?side1 ?side2 A71.out).mono ?_); (case side1 => exact Cz ((Kd.R_reads' HO_24.out).2.2)); (case side2 => exact (Kd.R_reads' HO_24.out).2.1); rintro e w' ⟨rfl, ⟨nd, rfl⟩⟩))
                   go_roundg k4
                   case measure => have := HJ7.out; have := HJ26.out; have := HJ47.out; have := HK4.out; omega
                   case rel => exact ⟨(wrap64 (x145_4 + 1)), wZ, H', ⟨by have := HJ7.out; have := HJ26.out; have := HJ47.out; have := HK4.out; omega⟩, ⟨Rz HO_22.out⟩, ⟨Rz HO_24.out⟩, ⟨Rz HO_143.out⟩, ⟨Rz HO_844003.out⟩, ⟨Rz HO_852003.out⟩, ⟨Rz HO_873003.out⟩, ⟨Kz BK843.out⟩, ⟨Kz BK851.out⟩, ⟨Kz BK872.out⟩, ⟨Bq⟩⟩
                ·replace c70 := Bool.eq_false_iff.mpr c70
                 subst c70
                 rw [if_neg Bool.false_ne_true] at H; exact absurd (Option.some.inj H) (by rw [HQT_.out]; decide)
               ·rw [if_neg c68] at H
                exact absurd H (by simp)
              ·rw [if_neg c67] at H
               exact absurd H (by simp)
             ·rw [if_neg c66] at H
              have c66b0 : decide (x145_4 < (t869.length : Int)) = false := decide_eq_false c66; clear c66; obtain rfl := Option.some.inj H
              go_wp2
              go_ret
              exact ⟨eZ, Bq⟩
          ·replace c65 := Bool.eq_false_iff.mpr c65
           subst c65
           rw [if_neg Bool.false_ne_true] at H; obtain rfl := Option.some.inj H
           go_wp2
           go_ret
           exact ⟨eZ, Bq⟩

def laws_FnPrintsNeverDeny.Pure : Prop := ∀ (l0 : List Int) (l1 : List Int), l0.length ≤ maxLen → l0.length * 1 ≤ 140737488351232 → (∀ x ∈ l0, (Lit.int .u8 x).wf = true) → l1.length ≤ maxLen → l1.length * 1 ≤ 140737488351232 → (∀ x ∈ l1, (Lit.int .u8 x).wf = true) → ∃ k, laws_FnPrintsNeverDeny.f k l0 l1 = some true
theorem laws_FnPrintsNeverDeny.walk (P : laws_FnPrintsNeverDeny.Pure) (a0 : Option Addr) (len0 cap0 : Nat) (z0 : List Int) (a1 : Option Addr) (len1 cap1 : Nat) (z1 : List Int) (w : World) (w0 : (a0 = none ∧ len0 = 0 ∧ cap0 = 0 ∧ z0 = []) ∨ ∃ x, a0 = some x ∧ len0 ≤ cap0 ∧ cap0 ≤ maxLen ∧ z0.length = cap0 ∧ (∀ i, i < z0.length → w.cell? (x.add i) = some (.int .u8 (z0.getD i 0))) ∧ ∀ n ∈ z0, (Lit.int .u8 n).wf = true) (y0 : len0 * 1 ≤ 140737488351232) (w1 : (a1 = none ∧ len1 = 0 ∧ cap1 = 0 ∧ z1 = []) ∨ ∃ x, a1 = some x ∧ len1 ≤ cap1 ∧ cap1 ≤ maxLen ∧ z1.length = cap1 ∧ (∀ i, i < z1.length → w.cell? (x.add i) = some (.int .u8 (z1.getD i 0))) ∧ ∀ n ∈ z1, (Lit.int .u8 n).wf = true) (y1 : len1 * 1 ≤ 140737488351232) :
  Calls Try.prog 7 #[.slice a0 len0 cap0, .slice a1 len1 cap1] w fun e w' => e = .returned (.bool true) ∧ Below w.heap.size w w' := by
 obtain ⟨l0, rfl, hr0, hm0, hw0, hc0⟩ := ReadsInt.ofRowC w0; obtain ⟨l1, rfl, hr1, hm1, hw1, hc1⟩ := ReadsInt.ofRowC w1; obtain ⟨k, h⟩ := P l0 l1 hm0 y0 hw0 hm1 y1 hw1; refine (laws_FnPrintsNeverDeny.calls k _ _ l0 _ _ l1 true w (Kd.C_of_reads (d := (0 : Int)) (h1 := fun _ => rfl) hr0) hc0 (Kd.C_of_reads (d := (0 : Int)) (h1 := fun _ => rfl) hr1) hc1 h rfl).mono ?_; rintro e w' ⟨rfl, hd⟩; exact ⟨rfl, hd⟩

end Go.Proofs.Ytmehagedoaopeaa.PR
namespace Go.Proofs.YtmehagedoaopeaaQ
open Go Go.RowKit Go.Proofs.YtmehagedoaopeaaW.PrintWords Go.Proofs.YtmehagedoaopeaaGp

theorem ev_succ {α : Type} {g : Nat → Option α} {r : α} (h : Ev (fun k => g (k + 1)) r) : Ev g r := Ev.step (f := fun k => g (k + 1)) (fun _ => rfl) h
theorem ev_some' {α : Type} {o : Option α} {r : α} (h : o = some r) : Ev (fun _ => o) r := h ▸ Ev.now r
theorem ev_some {α : Type} {a r : α} (h : a = r) : Ev (fun _ => some a) r := h ▸ Ev.now a
theorem ev_pos {α : Type} {c : Prop} [Decidable c] {f g : Nat → Option α} {r : α} (h : c) (k : Ev f r) : Ev (fun n => if c then f n else g n) r := by simpa only [if_pos h] using k
theorem ev_neg {α : Type} {c : Prop} [Decidable c] {f g : Nat → Option α} {r : α} (h : ¬ c) (k : Ev g r) : Ev (fun n => if c then f n else g n) r := by simpa only [if_neg h] using k
theorem ev_bind {α β : Type} {g : Nat → Option α} {f : Nat → α → Option β} {r : β} (a : α) (h : Ev g a) (k : Ev (fun n => f n a) r) : Ev (fun n => (g n).bind (f n)) r := Ev.bind h k
theorem w64 {x : Int} (h0 : -9223372036854775808 ≤ x) (h1 : x ≤ 9223372036854775807) : wrap64 x = x := by unfold wrap64; omega
theorem winc {i : Nat} (h : (i : Int) < 9223372036854775807) : wrap64 ((i : Int) + 1) = ((i + 1 : Nat) : Int) := by unfold wrap64; omega
theorem wdec {i : Nat} (h : (i : Int) < 9223372036854775807) : wrap64 (((i + 1 : Nat) : Int) - 1) = (i : Int) := by unfold wrap64; omega
theorem maxLen_eq : maxLen = 9223372036854775807 := by unfold maxLen; rfl
section
variable {α : Type} {d : α} {pre t : List α} {s : α}
theorem rdOf_mid : rdOf d (pre ++ s :: t) ((pre.length : Nat) : Int) = s := by simp [rdOf]
theorem rdOf_last {p : α} : rdOf d ((pre ++ [p]) ++ s :: t) ((pre.length : Nat) : Int) = p := by simp [rdOf]
theorem rdOf_get {xs : List α} {i : Nat} (h : i < xs.length) : rdOf d xs (i : Int) = xs[i] := by simp [rdOf, h]
theorem lt_mid : ((pre.length : Nat) : Int) < ((pre ++ s :: t).length : Int) := by simp; omega
theorem not_lt_end : ¬ ((pre.length : Nat) : Int) < ((pre ++ ([] : List α)).length : Int) := by simp
theorem len_one : ((pre ++ [s]).length : Int) = ((pre.length + 1 : Nat) : Int) := by simp
end
theorem rd_mid {pre t : List Int} {s : Int} : rd (pre ++ s :: t) ((pre.length : Nat) : Int) = s := by simp [rd]
theorem rd_get {xs : List Int} {i : Nat} (h : i < xs.length) : rd xs (i : Int) = xs[i] := by simp [rd, h]

theorem tl (s : ByteArray) : s.toList = s.data.toList := Lib.toList_data s
theorem tl_inj {x y : ByteArray} : x.toList = y.toList ↔ x = y := by
  rw [tl, tl]
  exact ⟨fun h => ByteArray.ext (Array.toList_inj.1 h), fun h => h ▸ rfl⟩
theorem size_len (s : ByteArray) : s.size = s.data.toList.length := (data_length s).symm
theorem bt_mid {s : ByteArray} {pre t : List UInt8} {c : UInt8} (h : s.data.toList = pre ++ c :: t) : bt s ((pre.length : Nat) : Int) = (c.toNat : Int) := by
  have hs : pre.length < s.size := by rw [size_len, h]; simp
  have hg : s[pre.length]'hs = c := by
    have : s.data.toList[pre.length]'(by rw [h]; simp) = c := by simp [h]
    rw [← this]; rfl
  unfold bt
  rw [dif_pos (by simpa using hs)]
  simp only [Int.toNat_natCast, hg]
theorem lt_size {s : ByteArray} {pre t : List UInt8} {c : UInt8} (h : s.data.toList = pre ++ c :: t) : ((pre.length : Nat) : Int) < (s.size : Int) := by rw [size_len, h]; simp; omega
theorem not_lt_size {s : ByteArray} {pre : List UInt8} (h : s.data.toList = pre ++ []) : ¬ ((pre.length : Nat) : Int) < (s.size : Int) := by rw [size_len, h]; simp
def lessS (a b : ByteArray) : Bool := Op.bytesLess a.toList b.toList
end Go.Proofs.YtmehagedoaopeaaQ
