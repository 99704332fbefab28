import Derived.Test.YthkcgimnagpmaaaCT1
import Derived.Test.YthkcgimnagpmaaaCT3
import Derived.Test.YthkcgimnagpmaaaCT0
import Derived.Lib.Bytes
-- printed by a program of this session (wip/gp) out of the translation; Lean checks it
namespace Go.Proofs.Ythkcgimnagpmaaa.PT
open Go.RowKit Go.Proofs.YthkcgimnagpmaaaW.PrintWords Go.Proofs.YthkcgimnagpmaaaW.PrintLast Go.Proofs.YthkcgimnagpmaaaW.PrintMore Go.Proofs.YthkcgimnagpmaaaSq
attribute [local go_sem] max2_int min2_int max_two min_two max_three min_three max_four min_four   -- for this text's walks alone
attribute [local go_sem] Go.Proofs.YthkcgimnagpmaaaGp.str_geq Go.Proofs.YthkcgimnagpmaaaGp.str_gtr Go.Proofs.YthkcgimnagpmaaaGp.str_leq
set_option linter.unusedVariables false
set_option linter.unusedSimpArgs false

set_option maxHeartbeats 8000000
set_option maxRecDepth 100000
mutual
def impl_groups.l0 : Nat → List (List Int) → List Int → Int → Int → List (List Int) → Option ((List (List Int)))
 | 0, _, _, _, _, _ => none
 | k + 1, x3, x4, x17, x18, x494000 => if x18 < x17 then (if 0 ≤ x18 then (if x18 < (x4.length : Int) then (impl_groups.l0 k x3 (x4.set (x18 : Int).toNat (-1)) x17 (wrap64 (x18 + 1)) x494000) else (none)) else (none)) else (impl_groups.l1 k x3 x4 (x494000.length : Int) 0 x494000)
def impl_groups.l1 : Nat → List (List Int) → List Int → Int → Int → List (List Int) → Option ((List (List Int)))
 | 0, _, _, _, _, _ => none
 | k + 1, x3, x4, x26, x27, x494000 => if x27 < x26 then (if 0 ≤ x27 then (if x27 < (x4.length : Int) then (if (rd x4 x27) ≥ 0 then (impl_groups.l1 k x3 x4 x26 (wrap64 (x27 + 1)) x494000) else (impl_groups.l2 k x3 (x4.set (x27 : Int).toNat (x3.length : Int)) (x3.length : Int) x26 x27 x494000 (([x27] : List Int)))) else (none)) else (none)) else (impl_groups.l4 k x3 x4 (x4.length : Int) 0)
def impl_groups.l2 : Nat → List (List Int) → List Int → Int → Int → Int → List (List Int) → List Int → Option ((List (List Int)))
 | 0, _, _, _, _, _, _, _ => none
 | k + 1, x3, x4, x7, x26, x27, x494000, x507000 => if (x507000.length : Int) > 0 then (impl_groups.l3 k x3 x4 x7 x26 x27 (x494000.length : Int) 0 x494000 x507000) else (if x3.length < 5864062014805 then (impl_groups.l1 k (x3 ++ [[]]) x4 x26 (wrap64 (x27 + 1)) x494000) else (none))
def impl_groups.l3 : Nat → List (List Int) → List Int → Int → Int → Int → Int → Int → List (List Int) → List Int → Option ((List (List Int)))
 | 0, _, _, _, _, _, _, _, _, _ => none
 | k + 1, x3, x4, x7, x26, x27, x49, x50, x494000, x507000 => if x50 < x49 then (if 0 ≤ x50 then (if x50 < (x4.length : Int) then (if (rd x4 x50) < 0 then (if x50 < (x494000.length : Int) then ((slices_ContainsFunc_int_int_at_impl_groups_1.f k (rd_L2 x494000 x50) x494000 x507000).bind fun t512 => (if t512 = true then (if x507000.length < 17592186044416 then (impl_groups.l3 k x3 (x4.set (x50 : Int).toNat x7) x7 x26 x27 x49 (wrap64 (x50 + 1)) x494000 (x507000 ++ [x50])) else (none)) else (impl_groups.l3 k x3 x4 x7 x26 x27 x49 (wrap64 (x50 + 1)) x494000 x507000))) else (none)) else (impl_groups.l3 k x3 x4 x7 x26 x27 x49 (wrap64 (x50 + 1)) x494000 x507000)) else (none)) else (none)) else (if 1 ≤ (x507000.length : Int) then (impl_groups.l2 k x3 x4 x7 x26 x27 x494000 (x507000.drop (1 : Int).toNat)) else (none))
def impl_groups.l4 : Nat → List (List Int) → List Int → Int → Int → Option ((List (List Int)))
 | 0, _, _, _, _ => none
 | k + 1, x3, x80, x81, x82 => if x82 < x81 then (if 0 ≤ x82 then (if x82 < (x80.length : Int) then (if 0 ≤ (rd x80 x82) then (if (rd x80 x82) < (x3.length : Int) then (if (rd_L2 x3 (rd x80 x82)).length < 17592186044416 then (impl_groups.l4 k (x3.set ((rd x80 x82) : Int).toNat ((rd_L2 x3 (rd x80 x82)) ++ [x82])) x80 x81 (wrap64 (x82 + 1))) else (none)) else (none)) else (none)) else (none)) else (none)) else (some x3)
end
def impl_groups.f (k : Nat) (l0 : List (List Int)) : Option ((List (List Int))) := if 0 ≤ (l0.length : Int) then (if ((l0.length : Int) : Int).toNat ≤ 35184372088832 then ((some (List.replicate ((l0.length : Int) : Int).toNat 0 : List Int)).bind fun y497 => (impl_groups.l0 k (([] : List (List Int))) y497 (y497.length : Int) 0 l0)) else (none)) else (none)
theorem impl_groups.calls (k : Nat) (A0 : Option Addr) (c0 : Nat) (l0 : List (List Int)) (r : List (List Int)) (w : World) (hr0 : Kd.C (Kd.slice 3 (Kd.int .i64)) w A0 l0.length l0) (hc0 : l0.length ≤ c0) (h : impl_groups.f k l0 = some r) :
  Calls Try.prog 108 #[.slice A0 l0.length c0] w fun e w' => ∃ v0_ : Value, e = .returned (v0_) ∧ Kd.S (Kd.slice 3 (Kd.int .i64)) 32 w' w.heap.size (fun _ => True) v0_ r ∧ Below w.heap.size w w' := by
 have HR0 := am hr0; have HC0 := am hc0; clear hr0 hc0; have HB := am (Below.refl w.heap.size w); have H : (if 0 ≤ (l0.length : Int) then (if ((l0.length : Int) : Int).toNat ≤ 35184372088832 then ((some (List.replicate ((l0.length : Int) : Int).toNat 0 : List Int)).bind fun y497 => (impl_groups.l0 k (([] : List (List Int))) y497 (y497.length : Int) 0 l0)) else (none)) else (none)) = some r := h; clear h; obtain ⟨y494, hy494⟩ : ∃ y_ : List (List Int), y_ = (([] : List (List Int))) := ⟨_, rfl⟩
 replace H : (if 0 ≤ (l0.length : Int) then (if ((l0.length : Int) : Int).toNat ≤ 35184372088832 then ((some (List.replicate ((l0.length : Int) : Int).toNat 0 : List Int)).bind fun y497 => (impl_groups.l0 k y494 y497 (y497.length : Int) 0 l0)) else (none)) else (none)) = some r := by first | (rw [hy494]; with_reducible exact H) | (have H2_ := (Option.bind_some _ _).symm.trans H; rw [hy494]; with_reducible exact H2_) | (have H2_ := (Option.bind_some _ _).symm.trans H; with_reducible exact H2_) | with_reducible exact H | (rw [hy494]; exact H) | exact H
 have Ny494 := am hy494; clear hy494
 by_cases c2 : 0 ≤ (l0.length : Int)
 ·rw [if_pos c2] at H
  have c2b0 := eq_true c2; have c2b1 : decide (0 ≤ (l0.length : Int)) = true := decide_eq_true c2; clear c2
  by_cases c3 : ((l0.length : Int) : Int).toNat ≤ 35184372088832
  ·rw [if_pos c3] at H
   have c3b0 := eq_true c3; have c3b1 : decide (((l0.length : Int) : Int).toNat ≤ 35184372088832) = true := decide_eq_true c3; clear c3; obtain ⟨y497, hy497⟩ : ∃ y_ : List Int, y_ = (List.replicate ((l0.length : Int) : Int).toNat 0) := ⟨_, rfl⟩
   replace H : (impl_groups.l0 k y494 y497 (y497.length : Int) 0 l0) = some r := by first | (rw [hy497]; with_reducible exact H) | (have H2_ := (Option.bind_some _ _).symm.trans H; rw [hy497]; with_reducible exact H2_) | (have H2_ := (Option.bind_some _ _).symm.trans H; with_reducible exact H2_) | with_reducible exact H | (rw [hy497]; exact H) | exact H
   have Ny497 := am hy497; clear hy497; have H' := am H; clear H
   go_enter Try.func108, Try.ntmps108
   try go_wp2_with (first | ((with_reducible refine gate_dst (N := 1) rfl ?_); refine bE 1 #[.slice A0 l0.length c0] 35 ?_; intro gb493 hg w4 hbox hb; have n0_ := Bb HB hb; have n1_ := am (hbox); have n2_ := Gl HB hg; have n3_ := Gl HB hg; clear HB; revert n0_ n1_ n2_ n3_; intro HB BK493 GW493 GE493; clear hb hbox hg))
   have n0_ := am (blk_drew BK493.out); have n1_ := am (below_drew1 HB.out); clear BK493 HB; revert n0_ n1_; intro BK493 HB; refine start_ (n := 6) (S := fun w' => w'.cell? ⟨gb493, 0, none⟩ = some (.slice A0 l0.length c0)) (ds := []) (bA 6 0) (by kernel_rfl) rfl rfl (cz BK493 0) (fun hHeld => ?_); generalize w4.drew = w5 at BK493 HB hHeld ⊢; refine take_ (i := 1) (N := some 13) (v := ?_) (a' := ?_) (bA 6 2) rfl rfl (by kernel_rfl) (fun _ _ _ h => h) (Or.inl ⟨by rfl, ?_⟩) hHeld ?_ ?_
   rotate_left
   ·intro w' s0
    go_simp
    with_reducible rfl
   rotate_left
   ·simp only [aP, i64_w, i32_w]
    rfl
   refine pure_ (i := 2) (N := some 14) (v := ?_) (a' := ?_) (bA 6 6) rfl rfl (by kernel_rfl) (fun _ _ _ h => h) (Or.inl ⟨by rfl, ?_⟩) ?_ ?_
   rotate_left
   ·intro w'
    go_simp
    with_reducible rfl
   rotate_left
   ·simp only [aP, i64_w, i32_w]
    rfl
   refine join_ (σ := Value × Value) 1 (bA 6 31) (fun s_ => [(12, s_.1), (15, s_.2), (3, s_.1)]) (fun s_ w' => (w'.cell? ⟨gb493, 0, none⟩ = some (.slice A0 l0.length c0)) ∧ (Kd.S (Kd.slice 3 (Kd.int .i64)) 32 w' w.heap.size (fun k_ => some k_ ≠ (s_.2 : Value).ownBlock) s_.1 y494) ∧ (Kd.R (Kd.int .i64) 3 w' w.heap.size (fun _ => True) s_.2 y497) ∧ (w'.heap[gb493]? = some (.cells #[.slice A0 l0.length c0] 35 (0, 0))) ∧ (Below w.heap.size w w')) ?_ ?_
   rotate_left
   ·intro hCont
    refine two_ (i := 0) (j := 3) (Ni := some 12) (Nj := some 15) (bA 6 7) (bA 6 14) rfl rfl rfl rfl (by kernel_rfl) (by decide) (by decide) (fun K hK => ?_) (fun K hK => ?_)
    ·skip
     refine Kd.S_lit_step (Kd.slice 3 (Kd.int .i64)) _ 32 ?hg (N := 12) ?hd (xs := ([] : List (List Int))) (inner := []) (ok := fun _ => True) (okp := fun _ => True) ?hr ?hp (fun _ hk => hk) trivial (Below.refl _ _) (Nat.le_refl _) (by simp) ?_; (case hd => rfl); (case hg => rfl); (case hr => first | (go_simp; done) | (go_simp; rfl)); (case hp => exact (Reps.none _ _)); intro v495 w6 ho7 hb hg_ hnew_; clear hg_ hnew_
     (first | rw [← Ny494.out] at ho7 | (simp only [Int.reduceToNat] at ho7; rw [← Ny494.out] at ho7))
     have n0_ := am (Kd.S_lower ho7 (below_size (w := w) (Bq))); have n1_ := Kb BK493 hb; have n2_ := Bc HB hb; clear BK493 HB; revert n0_ n1_ n2_; intro HO496 BK493 HB; clear hb ho7; refine hK.out _ _ (cz BK493 0) (fun hHeld => ?_); clear hK K; refine norm_ (a' := ?_) ?_ ?_; rotate_left; show Act.put _ (some 12) _ = _; simp only [aP, i64_w, i32_w]; rfl; refine pure_ (i := 4) (N := some 3) (v := ?_) (a' := ?_) (bA 6 23) rfl rfl (by kernel_rfl) (fun _ _ _ h => h) (Or.inl ⟨by rfl, ?_⟩) ?_ ?_
     rotate_left
     ·intro w'
      go_simp
      with_reducible rfl
     rotate_left
     ·simp only [aP, i64_w, i32_w]
      rfl
     refine one_ (i := 3) (N := some 15) (bA 6 31) rfl rfl (by kernel_rfl) (by decide) (fun K hK => ?_); refine Kd.R_make_step (Kd.int .i64) _ 3 (by rfl) (N := 15) rfl 32 _ _ rfl (l0.length : Int) rfl rfl Try.underlying32 (.int .i64 0) 8 info3 rfl (by decide) (by omega) 0 (ok := fun _ => True) (okp := fun _ => True) rfl (fun _ hk => hk) trivial (dT) (Nat.le_trans (Nat.mul_le_mul_right _ (dT : (l0.length : Int).toNat ≤ 35184372088832)) (by omega)) (Below.refl _ _) (Nat.le_refl _) ?_; intro v498 w8 ho9 hb hg_ hnew_; clear hg_ hnew_
     (first | rw [← Ny497.out] at ho9 | (simp only [Int.reduceToNat] at ho9; rw [← Ny497.out] at ho9))
     have n0_ := am (Kd.S_elder' (by (with_reducible repeat (first | apply Kd.S_alloc | apply Kd.S_drewN | apply Kd.S_drew)); exact HO496.out) (Kd.R_base ho9) hb); have n1_ := Rm ho9 HB; have n2_ := Kb BK493 hb; have n3_ := Bc HB hb; clear HO496 BK493 HB; revert n0_ n1_ n2_ n3_; intro HO496 HO499 BK493 HB; clear hb ho9; refine hK.out _ _ (cz BK493 0) (fun hHeld => ?_); clear hK K; refine norm_ (a' := ?_) ?_ ?_; rotate_left; show Act.put _ (some 15) _ = _; simp only [aP, i64_w, i32_w]; rfl; exact norm_ (by simp only [putAll, aP]) (hCont (v495, v498) _ ⟨hHeld, (by (with_reducible repeat (first | apply Kd.S_alloc | apply Kd.S_drewN | apply Kd.S_drew)); exact Kd.S_mono HO496.out (fun _ hk => hk.2)), (Rz HO499.out), (Kz BK493.out), (Bq)⟩)
    ·skip
     refine Kd.R_make_step (Kd.int .i64) _ 3 (by rfl) (N := 15) rfl 32 _ _ rfl (l0.length : Int) rfl rfl Try.underlying32 (.int .i64 0) 8 info3 rfl (by decide) (by omega) 0 (ok := fun _ => True) (okp := fun _ => True) rfl (fun _ hk => hk) trivial (dT) (Nat.le_trans (Nat.mul_le_mul_right _ (dT : (l0.length : Int).toNat ≤ 35184372088832)) (by omega)) (Below.refl _ _) (Nat.le_refl _) ?_; intro v498 w6 ho7 hb hg_ hnew_; clear hg_ hnew_
     (first | rw [← Ny497.out] at ho7 | (simp only [Int.reduceToNat] at ho7; rw [← Ny497.out] at ho7))
     have n0_ := Rm ho7 HB; have n1_ := Kb BK493 hb; have n2_ := Bc HB hb; clear BK493 HB; revert n0_ n1_ n2_; intro HO499 BK493 HB; clear hb ho7; refine hK.out _ _ (cz BK493 0) (fun hHeld => ?_); clear hK K; refine norm_ (a' := ?_) ?_ ?_; rotate_left; show Act.put _ (some 15) _ = _; simp only [aP, i64_w, i32_w]; rfl; refine one_ (i := 0) (N := some 12) (bA 6 15) rfl rfl (by kernel_rfl) (by decide) (fun K hK => ?_); refine Kd.S_lit_step (Kd.slice 3 (Kd.int .i64)) _ 32 ?hg (N := 12) ?hd (xs := ([] : List (List Int))) (inner := []) (ok := fun _ => True) (okp := fun _ => True) ?hr ?hp (fun _ hk => hk) trivial (Below.refl _ _) (Nat.le_refl _) (by simp) ?_; (case hd => rfl); (case hg => rfl); (case hr => first | (go_simp; done) | (go_simp; rfl)); (case hp => exact (Reps.none _ _)); intro v495 w8 ho9 hb hg_ hnew_; clear hg_ hnew_
     (first | rw [← Ny494.out] at ho9 | (simp only [Int.reduceToNat] at ho9; rw [← Ny494.out] at ho9))
     have n0_ := Rb HO499 hb; have n1_ := am (Kd.S_lower (Kd.S_new' ho9 (Kd.R_lt (Rz HO499.out))) (below_size (w := w) (Bq))); have n2_ := Kb BK493 hb; have n3_ := Bc HB hb; clear HO499 BK493 HB; revert n0_ n1_ n2_ n3_; intro HO499 HO496 BK493 HB; clear hb ho9; refine hK.out _ _ (cz BK493 0) (fun hHeld => ?_); clear hK K; refine norm_ (a' := ?_) ?_ ?_; rotate_left; show Act.put _ (some 12) _ = _; simp only [aP, i64_w, i32_w]; rfl; refine pure_ (i := 4) (N := some 3) (v := ?_) (a' := ?_) (bA 6 31) rfl rfl (by kernel_rfl) (fun _ _ _ h => h) (Or.inl ⟨by rfl, ?_⟩) ?_ ?_
     rotate_left
     ·intro w'
      go_simp
      with_reducible rfl
     rotate_left
     ·simp only [aP, i64_w, i32_w]
      rfl
     exact norm_ (by simp only [putAll, aP]) (hCont (v495, v498) _ ⟨hHeld, (by (with_reducible repeat (first | apply Kd.S_alloc | apply Kd.S_drewN | apply Kd.S_drew)); exact Kd.S_mono HO496.out (fun _ hk => hk.2)), (Rz HO499.out), (Kz BK493.out), (Bq)⟩)
   rintro ⟨v495, v498⟩ w10 ⟨hS_, h0_, h1_, h2_, h3_⟩; (try dsimp -simprocs only at h0_ h1_ h2_ h3_); have n0_ := am h0_; have n1_ := am h1_; have n2_ := am h2_; have n3_ : Aside0 (Below w.heap.size w w10) := ⟨h3_⟩; clear BK493 HB; clear h0_ h1_ h2_ h3_; revert n0_ n1_ n2_ n3_; intro HO496 HO499 BK493 HB; have hHeld : w10.cell? ⟨gb493, 0, none⟩ = some (.slice A0 l0.length c0) := hS_; refine norm_ (a' := ?_) ?_ ?_
   rotate_left
   ·simp only [putAll, aP]
    rfl
   refine pure_ (i := 5) (N := some 4) (v := ?_) (a' := ?_) (bA 6 63) rfl rfl (by kernel_rfl) (fun _ _ _ h => h) (Or.inl ⟨by rfl, ?_⟩) ?_ ?_
   rotate_left
   ·intro w'
    go_simp
    with_reducible rfl
   rotate_left
   ·simp only [aP, i64_w, i32_w]
    rfl
   refine done_ (by kernel_rfl) ?_; obtain ⟨Ao11, co11, eo11⟩ := Kd.R_slice HO499.out; subst eo11
   try go_wp2
   go_loopg [18] k (fun kq v18 w' => ∃ (x4_1 : List Int) (x18_1 : Int), v18 = .int .i64 x18_1 ∧ Aside0 (impl_groups.l0 kq y494 x4_1 (y497.length : Int) x18_1 l0 = some r) ∧ Aside0 (kq ≤ k) ∧ Aside0 (Kd.S (Kd.slice 3 (Kd.int .i64)) 32 w' w.heap.size (fun k_ => some k_ ≠ ((.slice Ao11 y497.length co11) : Value).ownBlock) v495 y494) ∧ Aside0 (Kd.R (Kd.int .i64) 3 w' w.heap.size (fun _ => True) (.slice Ao11 y497.length co11) x4_1) ∧ Aside0 (w'.heap[gb493]? = some (.cells #[(.slice A0 l0.length c0)] 35 (0, 0))) ∧ Aside0 (Below w.heap.size w w'))
   case atStart => exact ⟨(y497), (0), wZ, H', ⟨Nat.le_refl _⟩, ⟨by (with_reducible repeat (first | apply Kd.S_alloc | apply Kd.S_drewN | apply Kd.S_drew)); exact HO496.out⟩, ⟨Rz HO499.out⟩, ⟨Kz BK493.out⟩, ⟨Bq⟩⟩
   case round =>
    clear H'
    try clear c1
    try clear c2
    try clear c2b0
    try clear c2b1
    try clear p2
    try clear c3
    try clear c3b0
    try clear c3b1
    try clear c10
    obtain ⟨x4_1, x18_1, rfl, HA, HK1, HO_3, HO_4, BK493, HB⟩ := hrel; have hl4_1 := (Kd.R_reads' HO_4.out).1; rw [hl4_1] at HO_4
    (try simp only [hl4_1])
    (try simp only [hl4_1] at BK493)
    (try simp only [hl4_1] at HO_3)
    cases gk with
    | zero => exact absurd HA.out (by simp [impl_groups.l0])
    | succ k1 =>
     have H := HA.out; clear HA
     simp only [impl_groups.l0] at H
     by_cases c12 : x18_1 < (y497.length : Int)
     ·rw [if_pos c12] at H
      have c12b0 : decide (x18_1 < (y497.length : Int)) = true := decide_eq_true c12; (try simp only [hl4_1] at c12b0); clear c12
      by_cases c13 : 0 ≤ x18_1
      ·rw [if_pos c13] at H
       have c13b0 : decide (0 ≤ x18_1) = true := decide_eq_true c13; clear c13
       by_cases c14 : x18_1 < (x4_1.length : Int)
       ·rw [if_pos c14] at H
        have c14b0 : decide (x18_1 < (x4_1.length : Int)) = true := decide_eq_true c14; (try simp only [hl4_1] at c14b0); clear c14; obtain ⟨y500, hy500⟩ : ∃ y_ : List Int, y_ = (x4_1.set (x18_1 : Int).toNat (-1)) := ⟨_, rfl⟩
        replace H : (impl_groups.l0 k1 y494 y500 (y497.length : Int) (wrap64 (x18_1 + 1)) l0) = some r := by first | (rw [hy500]; with_reducible exact H) | (have H2_ := (Option.bind_some _ _).symm.trans H; rw [hy500]; with_reducible exact H2_) | (have H2_ := (Option.bind_some _ _).symm.trans H; with_reducible exact H2_) | with_reducible exact H | (rw [hy500]; exact H) | exact H
        have Ny500 := am hy500; clear hy500; have H' := am H; clear H; have p15 : 0 ≤ (x18_1 : Int) := dT; have q15 : (x18_1 : Int) < ((x4_1.length : Int) : Int) := dT; obtain ⟨go15, co15, eo15, gb15, gl15, cl15, HG15⟩ := Kd.R_form HO_4.out (by omega)
        (first | cases eo15 | (injection eo15 with ea_ en_ ec_; (first | subst ea_ | (injection ea_ with ea_; subst ea_)); subst ec_; clear en_))
        have GB15 := am gb15; have GG15 := am HG15; clear gb15 gl15 HG15; obtain ⟨hx15_0, hf15_0⟩ := Kd.R_celln 0 HO_4.out (x18_1 : Int) p15 q15; replace p15 := eq_true p15; replace q15 := eq_true q15; have HP16 := Kd.R_putg HO_4.out (x18_1 : Int) (-1)
        go_wp2_with (first | ((with_reducible refine gate_store (t := 3) (p := 23) rfl ?_); refine store_event (t := 3) (p := 23) (v := ?vo_w17) (w1 := (wr.setCell ⟨go15, (x18_1 : Int).toNat, none⟩ (.int .i64 (-1)))) ?hg ?ho ?hn ?hr ?_; (case ho => rfl); (case hg => rfl); (case hn => rfl); (case hr => first | (go_simp; done) | (go_simp; rfl)); intro w17 hw; have hg : wr.grownBy w17 (some go15) := (by rw [hw]; exact HP16.2); have hp_ : Kd.R (Kd.int .i64) 3 w17 w.heap.size (fun _ => True) (.slice (some ⟨go15, 0, none⟩) x4_1.length co11) y500 := (by rw [hw, Ny500.out]; exact HP16.1); clear HP16; have n0_ := am (Kd.S_after (v := (.slice (some ⟨go15, 0, none⟩) x4_1.length co11)) (v1 := (.slice (some ⟨go15, 0, none⟩) x4_1.length co11)) (ok := (fun _ => True)) (by (with_reducible repeat (first | apply Kd.S_alloc | apply Kd.S_drewN | apply Kd.S_drew)); exact Kd.S_mono HO_3.out (fun _ hk => ⟨trivial, hk⟩)) hg (.inl rfl)); have n1_ := am (hp_); have n2_ := am (blk_grown (g := gb493) (o := .cells #[.slice A0 l0.length c0] 35 (0, 0)) (Kz BK493.out) hg (Kd.R_ne HO_4.out BK493.out (by decide))); have n3_ := am ((by rw [hw]; exact below_set (HB.out) GB15.out : Below w.heap.size w w17)); clear HO_3 HO_4 BK493 HB; revert n0_ n1_ n2_ n3_; intro HO_3 HO_4 BK493 HB; clear hg hw hp_))
        (try simp only [← hl4_1])
        go_roundg k1
        case measure => have := HK1.out; omega
        case rel => exact ⟨(y500), (wrap64 (x18_1 + 1)), wZ, H', ⟨by have := HK1.out; omega⟩, ⟨by (try simp only [hl4_1]); (with_reducible repeat (first | apply Kd.S_alloc | apply Kd.S_drewN | apply Kd.S_drew)); exact Kd.S_mono HO_3.out (fun _ hk => hk.2)⟩, ⟨by (try simp only [hl4_1]); (with_reducible repeat (first | apply Kd.R_alloc | apply Kd.R_drewN | apply Kd.R_drew)); exact HO_4.out⟩, ⟨by (try simp only [hl4_1]); (with_reducible repeat (first | refine blk_drewN ?_ _ | refine blk_drew ?_ | refine blk_alloc ?_ _)); exact BK493.out⟩, ⟨Bq⟩⟩
       ·rw [if_neg c14] at H
        exact absurd H (by simp)
      ·rw [if_neg c13] at H
       exact absurd H (by simp)
     ·rw [if_neg c12] at H
      have c12b0 : decide (x18_1 < (y497.length : Int)) = false := decide_eq_false c12; (try simp only [hl4_1] at c12b0); clear c12; have H' := am H; clear H; obtain ⟨hcz18_0, hfz18_0⟩ := cf1 (w := wr) BK493
      go_wp2
      go_loopg [3, 27] k1 (fun kq v3 v27 w' => ∃ (x3_2 : List (List Int)) (x4_2 : List Int) (x27_2 : Int), v27 = .int .i64 x27_2 ∧ Aside0 (impl_groups.l1 kq x3_2 x4_2 (l0.length : Int) x27_2 l0 = some r) ∧ Aside0 (kq ≤ k1) ∧ Aside0 (Kd.S (Kd.slice 3 (Kd.int .i64)) 32 w' w.heap.size (fun k_ => some k_ ≠ ((.slice Ao11 x4_1.length co11) : Value).ownBlock) v3 x3_2) ∧ Aside0 (Kd.R (Kd.int .i64) 3 w' w.heap.size (fun _ => True) (.slice Ao11 x4_1.length co11) x4_2) ∧ Aside0 (w'.heap[gb493]? = some (.cells #[(.slice A0 l0.length c0)] 35 (0, 0))) ∧ Aside0 (Below w.heap.size w w'))
      case atStart => exact ⟨(y494), (x4_1), (0), wZ, H', ⟨Nat.le_refl _⟩, ⟨by (try simp only [hl4_1]); (with_reducible repeat (first | apply Kd.S_alloc | apply Kd.S_drewN | apply Kd.S_drew)); exact HO_3.out⟩, ⟨by (try simp only [hl4_1]); (with_reducible repeat (first | apply Kd.R_alloc | apply Kd.R_drewN | apply Kd.R_drew)); exact HO_4.out⟩, ⟨by (try simp only [hl4_1]); (with_reducible repeat (first | refine blk_drewN ?_ _ | refine blk_drew ?_ | refine blk_alloc ?_ _)); exact BK493.out⟩, ⟨Bq⟩⟩
      case round =>
       clear H'
       try clear c1
       try clear p1
       try clear q1
       try clear hx1
       try clear hf1
       try clear c2
       try clear c2b0
       try clear c2b1
       try clear p2
       try clear c3
       try clear c3b0
       try clear c3b1
       try clear p6
       try clear c10
       try clear c12
       try clear c12b0
       try clear c13
       try clear c13b0
       try clear c14
       try clear c14b0
       try clear p15
       try clear q15
       try clear hx15
       try clear hf15
       try clear hcz18_0
       try clear hfz18_0
       try clear hx15_0
       try clear p15
       try clear p2
       try clear q15
       obtain ⟨x3_2, x4_2, x27_2, rfl, HA, HK2, HO_3, HO_4, BK493, HB⟩ := hrel; have hl4_2 := (Kd.R_reads' HO_4.out).1; rw [hl4_2] at HO_4
       (try simp only [hl4_2])
       (try simp only [hl4_2] at BK493)
       (try simp only [hl4_2] at HO_3)
       cases gk with
       | zero => exact absurd HA.out (by simp [impl_groups.l1])
       | succ k2 =>
        have H := HA.out; clear HA
        simp only [impl_groups.l1] at H
        by_cases c19 : x27_2 < (l0.length : Int)
        ·rw [if_pos c19] at H
         have c19b0 : decide (x27_2 < (l0.length : Int)) = true := decide_eq_true c19; (try simp only [hl4_1, hl4_2] at c19b0); clear c19
         by_cases c20 : 0 ≤ x27_2
         ·rw [if_pos c20] at H
          have c20b0 : decide (0 ≤ x27_2) = true := decide_eq_true c20; clear c20
          by_cases c21 : x27_2 < (x4_2.length : Int)
          ·rw [if_pos c21] at H
           have c21b0 : decide (x27_2 < (x4_2.length : Int)) = true := decide_eq_true c21; (try simp only [hl4_1, hl4_2] at c21b0); clear c21
           by_cases c22 : (rd x4_2 x27_2) ≥ 0
           ·rw [if_pos c22] at H
            have c22b0 : decide (0 ≤ (rd x4_2 x27_2)) = true := decide_eq_true c22; clear c22; have H' := am H; clear H; obtain ⟨ad501, e501, hx501_0⟩ := Kd.at_int (Kd.R_reads' HO_4.out).2.2 x27_2 dT dT; cases e501; have p501 := eT (0 ≤ (x27_2 : Int)); have q501 := eT (x27_2 < (x4_2.length : Int))
            go_wp2
            (try simp only [← hl4_2])
            go_roundg k2
            case measure => have := HK1.out; have := HK2.out; omega
            case rel => exact ⟨(x3_2), (x4_2), (wrap64 (x27_2 + 1)), wZ, H', ⟨by have := HK1.out; have := HK2.out; omega⟩, ⟨by (try simp only [hl4_1]); (try simp only [hl4_2]); (with_reducible repeat (first | apply Kd.S_alloc | apply Kd.S_drewN | apply Kd.S_drew)); exact HO_3.out⟩, ⟨by (try simp only [hl4_1]); (try simp only [hl4_2]); (with_reducible repeat (first | apply Kd.R_alloc | apply Kd.R_drewN | apply Kd.R_drew)); exact HO_4.out⟩, ⟨by (try simp only [hl4_1]); (try simp only [hl4_2]); (with_reducible repeat (first | refine blk_drewN ?_ _ | refine blk_drew ?_ | refine blk_alloc ?_ _)); exact BK493.out⟩, ⟨Bq⟩⟩
           ·rw [if_neg c22] at H
            have c22b0 : decide (0 ≤ (rd x4_2 x27_2)) = false := decide_eq_false c22; clear c22; obtain ⟨y502, hy502⟩ : ∃ y_ : List Int, y_ = (x4_2.set (x27_2 : Int).toNat (x3_2.length : Int)) := ⟨_, rfl⟩
            replace H : (impl_groups.l2 k2 x3_2 y502 (x3_2.length : Int) (l0.length : Int) x27_2 l0 (([x27_2] : List Int))) = some r := by first | (rw [hy502]; with_reducible exact H) | (have H2_ := (Option.bind_some _ _).symm.trans H; rw [hy502]; with_reducible exact H2_) | (have H2_ := (Option.bind_some _ _).symm.trans H; with_reducible exact H2_) | with_reducible exact H | (rw [hy502]; exact H) | exact H
            have Ny502 := am hy502; clear hy502; obtain ⟨y503, hy503⟩ : ∃ y_ : List Int, y_ = (([x27_2] : List Int)) := ⟨_, rfl⟩
            replace H : (impl_groups.l2 k2 x3_2 y502 (x3_2.length : Int) (l0.length : Int) x27_2 l0 y503) = some r := by first | (rw [hy503]; with_reducible exact H) | (have H2_ := (Option.bind_some _ _).symm.trans H; rw [hy503]; with_reducible exact H2_) | (have H2_ := (Option.bind_some _ _).symm.trans H; with_reducible exact H2_) | with_reducible exact H | (rw [hy503]; exact H) | exact H
            have Ny503 := am hy503; clear hy503; have H' := am H; clear H; obtain ⟨ad501, e501, hx501_0⟩ := Kd.at_int (Kd.R_reads' HO_4.out).2.2 x27_2 dT dT; cases e501; have p501 := eT (0 ≤ (x27_2 : Int)); have q501 := eT (x27_2 < (x4_2.length : Int)); obtain ⟨Ao24, co24, eo24⟩ := Kd.S_slice HO_3.out; subst eo24; have p23 : 0 ≤ (x27_2 : Int) := dT; have q23 : (x27_2 : Int) < ((x4_2.length : Int) : Int) := dT; obtain ⟨go23, co23, eo23, gb23, gl23, cl23, HG23⟩ := Kd.R_form HO_4.out (by omega)
            (first | cases eo23 | (injection eo23 with ea_ en_ ec_; (first | subst ea_ | (injection ea_ with ea_; subst ea_)); subst ec_; clear en_))
            have GB23 := am gb23; have GG23 := am HG23; clear gb23 gl23 HG23
            (first | simp only [add_plain] at hx501_0 | skip)
            obtain ⟨hx23_0, hf23_0⟩ := Kd.R_celln 0 HO_4.out (x27_2 : Int) p23 q23; replace p23 := eq_true p23; replace q23 := eq_true q23; have HP25 := Kd.R_putg HO_4.out (x27_2 : Int) (x3_2.length : Int)
            go_wp2_with (first | ((with_reducible refine gate_store (t := 3) (p := 40) rfl ?_); refine store_event (t := 3) (p := 40) (v := ?vo_w26) (w1 := (wr.setCell ⟨go23, (x27_2 : Int).toNat, none⟩ (.int .i64 (x3_2.length : Int)))) ?hg ?ho ?hn ?hr ?_; (case ho => rfl); (case hg => rfl); (case hn => rfl); (case hr => first | (go_simp; done) | (go_simp; rfl)); intro w26 hw; have hg : wr.grownBy w26 (some go23) := (by rw [hw]; exact HP25.2); have hp_ : Kd.R (Kd.int .i64) 3 w26 w.heap.size (fun _ => True) (.slice (some ⟨go23, 0, none⟩) x4_2.length co11) y502 := (by rw [hw, Ny502.out]; exact HP25.1); clear HP25; have n0_ := am (Kd.S_after (v := (.slice (some ⟨go23, 0, none⟩) x4_2.length co11)) (v1 := (.slice (some ⟨go23, 0, none⟩) x4_2.length co11)) (ok := (fun _ => True)) (by (with_reducible repeat (first | apply Kd.S_alloc | apply Kd.S_drewN | apply Kd.S_drew)); exact Kd.S_mono HO_3.out (fun _ hk => ⟨trivial, hk⟩)) hg (.inl rfl)); have n1_ := am (hp_); have n2_ := am (blk_grown (g := gb493) (o := .cells #[.slice A0 l0.length c0] 35 (0, 0)) (Kz BK493.out) hg (Kd.R_ne HO_4.out BK493.out (by decide))); have n3_ := am ((by rw [hw]; exact below_set (HB.out) GB23.out : Below w.heap.size w w26)); clear HO_3 HO_4 BK493 HB; revert n0_ n1_ n2_ n3_; intro HO_3 HO_4 BK493 HB; clear hg hw hp_) | ((with_reducible refine gate_dst (N := 42) rfl ?_); refine Kd.R_lit (Kd.int .i64) _ 3 ?hg (N := 42) ?hd (xs := ([x27_2] : List Int)) (inner := [.int .i64 x27_2]) (ok := fun _ => True) (okp := fun _ => True) ?hr ?hp (fun _ hk => hk) trivial (Below.refl _ _) (Nat.le_refl _) (by simp) ?_; (case hd => rfl); (case hg => rfl); (case hr => first | (go_simp; done) | (go_simp; rfl)); (case hp => exact (Reps.one (show Kd.M (Kd.int .i64) _ _ _ x27_2 [.int .i64 x27_2] from rfl) (Reps.none _ _))); intro v504 w27 ho28 hb hg_ hnew_; clear hg_ hnew_; (first | rw [← Ny503.out] at ho28 | (simp only [Int.reduceToNat] at ho28; rw [← Ny503.out] at ho28)); have n0_ := am (Kd.S_elder' (by (with_reducible repeat (first | apply Kd.S_alloc | apply Kd.S_drewN | apply Kd.S_drew)); exact HO_3.out) (Kd.R_base ho28) hb); have n1_ := Re HO_4 (Kd.R_base ho28) hb; have n2_ := Rm (Kd.R_new' ho28 (Kd.R_lt (Rz HO_4.out))) HB; have n3_ := Kb BK493 hb; have n4_ := Bc HB hb; clear HO_3 HO_4 BK493 HB; revert n0_ n1_ n2_ n3_ n4_; intro HO_3 HO_4 HO505 BK493 HB; clear hb ho28) | ((with_reducible refine gate_dst (N := 8) rfl ?_); refine bE 8 #[.slice none 0 0] 32 ?_; intro gb506 hg w29 hbox hb; have n0_ := am (Kd.S_below (Kd.S_elderB (by (with_reducible repeat (first | apply Kd.S_alloc | apply Kd.S_drewN | apply Kd.S_drew)); exact HO_3.out) gb506 (Nat.le_of_eq hg.symm)) hb); have n1_ := Rb HO_4 hb; have n2_ := Rb HO505 hb; have n3_ := Kb BK493 hb; have n4_ := Bc HB hb; have n5_ := am (hbox); have n6_ := Gm HB hg; have n7_ := Gm HB hg; have n8_ := Nl BK493 hg; have n9_ := Ng BK493 hg; clear HO_3 HO_4 HO505 BK493 HB; revert n0_ n1_ n2_ n3_ n4_ n5_ n6_ n7_ n8_ n9_; intro HO_3 HO_4 HO505 BK493 HB BK506 GW506 GE506 NB493_506 NB506_493; clear hb hbox hg; obtain ⟨Ao30, co30, eo30⟩ := Kd.R_slice HO505.out; subst eo30; have hnb31 := NB506_493.out; have hnc31 := NB493_506.out; obtain ⟨hcz32_0, hfz32_0⟩ := cf1 (w := w29) BK506))
            (try simp only [aP])
            go_loopg [8] k2 (fun kq v8 w' => ∃ (x4_3 : List Int) (x507000_3 : List Int) (u507000 : Value) (gb506 : Nat), v8 = .pointer (some ⟨gb506, 0, none⟩) ∧ Aside0 (impl_groups.l2 kq x3_2 x4_3 (x3_2.length : Int) (l0.length : Int) x27_2 l0 x507000_3 = some r) ∧ Aside0 (kq ≤ k2) ∧ Aside0 (Kd.S (Kd.slice 3 (Kd.int .i64)) 32 w' w.heap.size (fun k_ => some k_ ≠ ((.slice (some ⟨go23, 0, none⟩) x4_2.length co11) : Value).ownBlock ∧ some k_ ≠ (u507000 : Value).ownBlock ∧ k_ ≠ gb506) (.slice Ao24 x3_2.length co24) x3_2) ∧ Aside0 (Kd.R (Kd.int .i64) 3 w' w.heap.size (fun k_ => some k_ ≠ (u507000 : Value).ownBlock) (.slice (some ⟨go23, 0, none⟩) x4_2.length co11) x4_3) ∧ Aside0 (Kd.Q (Kd.int .i64) 3 w' w.heap.size (fun k_ => some k_ ≠ ((.slice (some ⟨go23, 0, none⟩) x4_2.length co11) : Value).ownBlock) u507000 x507000_3) ∧ Aside0 (w'.heap[gb493]? = some (.cells #[(.slice A0 l0.length c0)] 35 (0, 0))) ∧ Aside0 (w'.heap[gb506]? = some (.cells #[u507000] 32 (0, 0))) ∧ Aside0 (Below w.heap.size w w') ∧ Aside0 (w.heap.size ≤ gb506) ∧ Aside0 (gb493 ≠ gb506))
            case atStart => exact ⟨(y502), (y503), (.slice Ao30 y503.length co30), gb506, wZ, H', ⟨Nat.le_refl _⟩, ⟨by (try simp only [hl4_1]); (try simp only [hl4_2]); (with_reducible repeat (first | apply Kd.S_alloc | apply Kd.S_drewN | apply Kd.S_drew)); exact Kd.S_mono (Kd.S_far (p := ⟨gb506, 0, none⟩) (Kd.S_mono HO_3.out (fun k_ hk => (⟨hk, hk.2⟩ : _ ∧ k_ ≠ gb506))) (fun _ hk => hk.2) (.slice Ao30 y503.length co30)) (fun _ hk => ⟨hk.1.1.1.2, ⟨hk.1.1.2, hk.1.2⟩⟩)⟩, ⟨by (try simp only [hl4_1]); (try simp only [hl4_2]); (with_reducible repeat (first | apply Kd.R_alloc | apply Kd.R_drewN | apply Kd.R_drew)); exact Kd.R_mono (Kd.R_far (p := ⟨gb506, 0, none⟩) (Kd.R_types HO_4.out BK506.out (by decide)) (fun _ hk => hk.2) (.slice Ao30 y503.length co30)) (fun _ hk => hk.1.2)⟩, ⟨Kd.Q_of_R (by (try simp only [hl4_1]); (try simp only [hl4_2]); (with_reducible repeat (first | apply Kd.R_alloc | apply Kd.R_drewN | apply Kd.R_drew)); exact Kd.R_mono (Kd.R_far (p := ⟨gb506, 0, none⟩) (Kd.R_types HO505.out BK506.out (by decide)) (fun _ hk => hk.2) (.slice Ao30 y503.length co30)) (fun _ hk => hk.1.2))⟩, ⟨by (try simp only [hl4_1]); (try simp only [hl4_2]); (with_reducible repeat (first | refine blk_drewN ?_ _ | refine blk_drew ?_ | refine blk_alloc ?_ _)); refine blk_far ?_ NB493_506.out _; (with_reducible repeat (first | refine blk_drewN ?_ _ | refine blk_drew ?_ | refine blk_alloc ?_ _)); exact BK493.out⟩, ⟨by (try simp only [hl4_1]); (try simp only [hl4_2]); (with_reducible repeat (first | refine blk_drewN ?_ _ | refine blk_drew ?_ | refine blk_alloc ?_ _)); refine blk_put (cs := #[.slice none 0 0]) ?_ 0 _ rfl; (with_reducible repeat (first | refine blk_drewN ?_ _ | refine blk_drew ?_ | refine blk_alloc ?_ _)); exact BK506.out⟩, ⟨Bq⟩, GE506, NB493_506⟩
            case round =>
             clear H'
             try clear c1
             try clear p1
             try clear q1
             try clear hx1
             try clear hf1
             try clear c2
             try clear c2b0
             try clear c2b1
             try clear p2
             try clear q2
             try clear hx2
             try clear hf2
             try clear c3
             try clear c3b0
             try clear c3b1
             try clear p5
             try clear q5
             try clear hx5
             try clear p6
             try clear c10
             try clear c12
             try clear c12b0
             try clear c13
             try clear c13b0
             try clear c14
             try clear c14b0
             try clear p15
             try clear q15
             try clear hx15
             try clear hf15
             try clear c19
             try clear c19b0
             try clear c20
             try clear c20b0
             try clear c21
             try clear c21b0
             try clear c22
             try clear c22b0
             try clear p23
             try clear q23
             try clear hx23
             try clear hf23
             try clear c31
             try clear hcz18_0
             try clear hcz32_0
             try clear hfz18_0
             try clear hfz32_0
             try clear hx15_0
             try clear hx23_0
             try clear hx501_0
             try clear p1
             try clear p15
             try clear p2
             try clear p23
             try clear p501
             try clear p6
             try clear q1
             try clear q15
             try clear q23
             try clear q501
             obtain ⟨x4_3, x507000_3, u507000, gb506, rfl, HA, HK3, HO_3, HO_4, HO_507000, BK493, BK506, HB, GE506, NB493_506⟩ := hrel; have NB506_493 := am (Ne.symm NB493_506.out); have hl4_3 := (Kd.R_reads' HO_4.out).1; rw [hl4_3] at HO_4
             (try simp only [hl4_3])
             (try simp only [hl4_3] at BK493)
             (try simp only [hl4_3] at BK506)
             (try simp only [hl4_3] at HO_3)
             (try simp only [hl4_3] at HO_507000)
             cases gk with
             | zero => exact absurd HA.out (by simp [impl_groups.l2])
             | succ k3 =>
              have H := HA.out; clear HA
              simp only [impl_groups.l2] at H
              by_cases c33 : (x507000_3.length : Int) > 0
              ·rw [if_pos c33] at H
               have c33b0 : decide (0 < (x507000_3.length : Int)) = true := decide_eq_true c33; (try simp only [hl4_1, hl4_2, hl4_3] at c33b0); have c33b1 : decide (0 < x507000_3.length) = true := decide_eq_true (by omega); clear c33; have H' := am H; clear H; have hnb34 := NB506_493.out; have hnc34 := NB493_506.out; obtain ⟨hcz35_0, hfz35_0⟩ := cf1 (w := wr) BK506; obtain ⟨Ao36, co36, eo36, _⟩ := Kd.Q_slice HO_507000.out; subst eo36; obtain ⟨hcz37_0, hfz37_0⟩ := cf1 (w := wr) BK493
               go_wp2
               go_loopg [50] k3 (fun kq v50 w' => ∃ (x4_4 : List Int) (x50_4 : Int) (x507000_4 : List Int) (u507000 : Value), v50 = .int .i64 x50_4 ∧ Aside0 (impl_groups.l3 kq x3_2 x4_4 (x3_2.length : Int) (l0.length : Int) x27_2 (l0.length : Int) x50_4 l0 x507000_4 = some r) ∧ Aside0 (kq ≤ k3) ∧ Aside0 (Kd.S (Kd.slice 3 (Kd.int .i64)) 32 w' w.heap.size (fun k_ => some k_ ≠ ((.slice (some ⟨go23, 0, none⟩) x4_3.length co11) : Value).ownBlock ∧ some k_ ≠ (u507000 : Value).ownBlock ∧ k_ ≠ gb506) (.slice Ao24 x3_2.length co24) x3_2) ∧ Aside0 (Kd.R (Kd.int .i64) 3 w' w.heap.size (fun k_ => some k_ ≠ (u507000 : Value).ownBlock) (.slice (some ⟨go23, 0, none⟩) x4_3.length co11) x4_4) ∧ Aside0 (Kd.Q (Kd.int .i64) 3 w' w.heap.size (fun k_ => some k_ ≠ ((.slice (some ⟨go23, 0, none⟩) x4_3.length co11) : Value).ownBlock) u507000 x507000_4) ∧ Aside0 (w'.heap[gb493]? = some (.cells #[(.slice A0 l0.length c0)] 35 (0, 0))) ∧ Aside0 (w'.heap[gb506]? = some (.cells #[u507000] 32 (0, 0))) ∧ Aside0 (Below w.heap.size w w'))
               case atStart => exact ⟨(x4_3), (0), (x507000_3), (.slice Ao36 x507000_3.length co36), wZ, H', ⟨Nat.le_refl _⟩, ⟨by (try simp only [hl4_1]); (try simp only [hl4_2]); (try simp only [hl4_3]); (with_reducible repeat (first | apply Kd.S_alloc | apply Kd.S_drewN | apply Kd.S_drew)); exact HO_3.out⟩, ⟨by (try simp only [hl4_1]); (try simp only [hl4_2]); (try simp only [hl4_3]); (with_reducible repeat (first | apply Kd.R_alloc | apply Kd.R_drewN | apply Kd.R_drew)); exact HO_4.out⟩, ⟨by (try simp only [hl4_1]); (try simp only [hl4_2]); (try simp only [hl4_3]); (with_reducible repeat (first | apply Kd.Q_alloc | apply Kd.Q_drewN | apply Kd.Q_drew)); exact HO_507000.out⟩, ⟨by (try simp only [hl4_1]); (try simp only [hl4_2]); (try simp only [hl4_3]); (with_reducible repeat (first | refine blk_drewN ?_ _ | refine blk_drew ?_ | refine blk_alloc ?_ _)); exact BK493.out⟩, ⟨by (try simp only [hl4_1]); (try simp only [hl4_2]); (try simp only [hl4_3]); (with_reducible repeat (first | refine blk_drewN ?_ _ | refine blk_drew ?_ | refine blk_alloc ?_ _)); exact BK506.out⟩, ⟨Bq⟩⟩
               case round =>
                clear H'
                try clear c1
                try clear p1
                try clear q1
                try clear hx1
                try clear hf1
                try clear c2
                try clear c2b0
                try clear c2b1
                try clear p2
                try clear q2
                try clear hx2
                try clear hf2
                try clear c3
                try clear c3b0
                try clear c3b1
                try clear p5
                try clear q5
                try clear hx5
                try clear p6
                try clear c10
                try clear c12
                try clear c12b0
                try clear c13
                try clear c13b0
                try clear c14
                try clear c14b0
                try clear p15
                try clear q15
                try clear hx15
                try clear hf15
                try clear c19
                try clear c19b0
                try clear c20
                try clear c20b0
                try clear c21
                try clear c21b0
                try clear c22
                try clear c22b0
                try clear p23
                try clear q23
                try clear hx23
                try clear hf23
                try clear c31
                try clear c33
                try clear c33b0
                try clear c33b1
                try clear c34
                try clear hcz18_0
                try clear hcz32_0
                try clear hcz35_0
                try clear hcz37_0
                try clear hfz18_0
                try clear hfz32_0
                try clear hfz35_0
                try clear hfz37_0
                try clear hx15_0
                try clear hx23_0
                try clear hx501_0
                try clear p1
                try clear p15
                try clear p2
                try clear p23
                try clear p5
                try clear p501
                try clear p6
                try clear q1
                try clear q15
                try clear q2
                try clear q23
                try clear q5
                try clear q501
                obtain ⟨x4_4, x50_4, x507000_4, u507000, rfl, HA, HK4, HO_3, HO_4, HO_507000, BK493, BK506, HB⟩ := hrel; have hl4_4 := (Kd.R_reads' HO_4.out).1; rw [hl4_4] at HO_4
                (try simp only [hl4_4])
                (try simp only [hl4_4] at BK493)
                (try simp only [hl4_4] at BK506)
                (try simp only [hl4_4] at HO_3)
                (try simp only [hl4_4] at HO_507000)
                cases gk with
                | zero => exact absurd HA.out (by simp [impl_groups.l3])
                | succ k4 =>
                 have H := HA.out; clear HA
                 simp only [impl_groups.l3] at H
                 by_cases c38 : x50_4 < (l0.length : Int)
                 ·rw [if_pos c38] at H
                  have c38b0 : decide (x50_4 < (l0.length : Int)) = true := decide_eq_true c38; (try simp only [hl4_1, hl4_2, hl4_3, hl4_4] at c38b0); clear c38
                  by_cases c39 : 0 ≤ x50_4
                  ·rw [if_pos c39] at H
                   have c39b0 : decide (0 ≤ x50_4) = true := decide_eq_true c39; clear c39
                   by_cases c40 : x50_4 < (x4_4.length : Int)
                   ·rw [if_pos c40] at H
                    have c40b0 : decide (x50_4 < (x4_4.length : Int)) = true := decide_eq_true c40; (try simp only [hl4_1, hl4_2, hl4_3, hl4_4] at c40b0); clear c40
                    by_cases c41 : (rd x4_4 x50_4) < 0
                    ·rw [if_pos c41] at H
                     have c41b0 : decide ((rd x4_4 x50_4) < 0) = true := decide_eq_true c41; clear c41
                     by_cases c42 : x50_4 < (l0.length : Int)
                     ·rw [if_pos c42] at H
                      have c42b0 : decide (x50_4 < (l0.length : Int)) = true := decide_eq_true c42; (try simp only [hl4_1, hl4_2, hl4_3, hl4_4] at c42b0); clear c42; replace H := Option.bind_eq_some_iff.mp H; obtain ⟨t512, A430, H⟩ := H; (try dsimp -simprocs only at H); have A43 := am A430; clear A430
                      by_cases c44 : t512 = true
                      ·subst c44
                       rw [if_pos rfl] at H; obtain ⟨y513, hy513⟩ : ∃ y_ : List Int, y_ = (x4_4.set (x50_4 : Int).toNat (x3_2.length : Int)) := ⟨_, rfl⟩
                       replace H : (if x507000_4.length < 17592186044416 then (impl_groups.l3 k4 x3_2 y513 (x3_2.length : Int) (l0.length : Int) x27_2 (l0.length : Int) (wrap64 (x50_4 + 1)) l0 (x507000_4 ++ [x50_4])) else (none)) = some r := by first | (rw [hy513]; with_reducible exact H) | (have H2_ := (Option.bind_some _ _).symm.trans H; rw [hy513]; with_reducible exact H2_) | (have H2_ := (Option.bind_some _ _).symm.trans H; with_reducible exact H2_) | with_reducible exact H | (rw [hy513]; exact H) | exact H
                       have Ny513 := am hy513; clear hy513
                       by_cases c46 : x507000_4.length < 17592186044416
                       ·rw [if_pos c46] at H
                        have LMc46 := am c46; clear c46; obtain ⟨y514, hy514⟩ : ∃ y_ : List Int, y_ = (x507000_4 ++ [x50_4]) := ⟨_, rfl⟩
                        replace H : (impl_groups.l3 k4 x3_2 y513 (x3_2.length : Int) (l0.length : Int) x27_2 (l0.length : Int) (wrap64 (x50_4 + 1)) l0 y514) = some r := by first | (rw [hy514]; with_reducible exact H) | (have H2_ := (Option.bind_some _ _).symm.trans H; rw [hy514]; with_reducible exact H2_) | (have H2_ := (Option.bind_some _ _).symm.trans H; with_reducible exact H2_) | with_reducible exact H | (rw [hy514]; exact H) | exact H
                        have Ny514 := am hy514; clear hy514; have H' := am H; clear H; have p510 : 0 ≤ (x50_4 : Int) := dT; have q510 : x50_4 < (x4_4.length : Int) := dT; obtain ⟨ad510, e510, hx510_0⟩ := Kd.at_int (Kd.R_reads' HO_4.out).2.2 x50_4 p510 q510; obtain rfl : (⟨go23, 0, none⟩ : Addr) = ad510 := (by injection e510)
                        (first | simp only [add_plain] at hx510_0 | simp only [add_at] at hx510_0 | simp only [Addr.add, Nat.zero_add] at hx510_0 | skip)
                        replace p510 := eq_true p510; replace q510 := eq_true q510; have hnb47 := NB493_506.out; have hnc47 := NB506_493.out; obtain ⟨hcz48_0, hfz48_0⟩ := cf1 (w := wr) BK493; have p511 : 0 ≤ (x50_4 : Int) := dT; have q511 : x50_4 < (l0.length : Int) := dT; obtain ⟨ad511, A511_0, c511_0, e511, hx511_0, hl511_0, hi511_0⟩ := at_L2 HR0.out x50_4 p511 q511; cases e511; replace hx511_0 := (HB.out.cell (World.block_lt_of_cell? w _ hx511_0)).trans hx511_0; have HR511_0 := am hi511_0; have HC511_0 := am hl511_0; clear hi511_0 hl511_0; replace p511 := eq_true p511; replace q511 := eq_true q511; obtain ⟨Ao49, co49, eo49, _⟩ := Kd.Q_slice HO_507000.out; subst eo49
                        go_wp2_with (first | (go_at_call 85; (with_reducible refine (slices_ContainsFunc_int_int_at_impl_groups_1.calls k4 _ _ (rd_L2 l0 x50_4)  gb493 (some ad511) c0 l0 gb506 Ao49 co49 x507000_4 true _ ?side1 ?side2 ?side3 ?side4 ?side5 ?side6 ?side7 ?side8 A43.out).mono ?_); (case side1 => exact Cz (Kd.C_below HR511_0.out HB.out)); (case side2 => exact HC511_0.out); (case side3 => exact Kz BK493.out); (case side4 => exact Cz (Kd.C_below HR0.out HB.out)); (case side5 => exact HC0.out); (case side6 => exact Kz BK506.out); (case side7 => exact Cz ((Kd.Q_reads' HO_507000.out).2.2)); (case side8 => exact (Kd.Q_reads' HO_507000.out).2.1); rintro e w' ⟨rfl, ⟨nd, rfl⟩⟩; (try (rw [drewN_self wr]; generalize hq_ : World.drewN wr _ = wr; have n0_ : Aside0 (Kd.S (Kd.slice 3 (Kd.int .i64)) 32 wr w.heap.size (fun k_ => some k_ ≠ (.slice (some ⟨go23, 0, none⟩) x4_4.length co11 : Value).ownBlock ∧ some k_ ≠ (.slice Ao49 x507000_4.length co49 : Value).ownBlock ∧ k_ ≠ gb506) (.slice Ao24 x3_2.length co24) x3_2) := ⟨by rw [← hq_]; exact (by (with_reducible repeat (first | apply Kd.S_alloc | apply Kd.S_drewN | apply Kd.S_drew)); exact HO_3.out)⟩; have n1_ : Aside0 (Kd.R (Kd.int .i64) 3 wr w.heap.size (fun k_ => some k_ ≠ (.slice Ao49 x507000_4.length co49 : Value).ownBlock) (.slice (some ⟨go23, 0, none⟩) x4_4.length co11) x4_4) := ⟨by rw [← hq_]; exact (Rz HO_4.out)⟩; have n2_ : Aside0 (Kd.Q (Kd.int .i64) 3 wr w.heap.size (fun k_ => some k_ ≠ (.slice (some ⟨go23, 0, none⟩) x4_4.length co11 : Value).ownBlock) (.slice Ao49 x507000_4.length co49) x507000_4) := ⟨by rw [← hq_]; exact (by (with_reducible repeat (first | apply Kd.Q_alloc | apply Kd.Q_drewN | apply Kd.Q_drew)); exact HO_507000.out)⟩; have n3_ : Aside0 (wr.heap[gb493]? = some (.cells #[.slice (some ad511) l0.length c0] 35 (0, 0))) := ⟨by rw [← hq_]; exact (Kz BK493.out)⟩; have n4_ : Aside0 (wr.heap[gb506]? = some (.cells #[.slice Ao49 x507000_4.length co49] 32 (0, 0))) := ⟨by rw [← hq_]; exact (Kz BK506.out)⟩; have n5_ : Aside0 (Below w.heap.size w wr) := ⟨by rw [← hq_]; exact (Bq)⟩; clear HO_3 HO_4 HO_507000 BK493 BK506 HB hq_; revert n0_ n1_ n2_ n3_ n4_ n5_; intro HO_3 HO_4 HO_507000 BK493 BK506 HB)); have p45 : 0 ≤ (x50_4 : Int) := dT; have q45 : (x50_4 : Int) < ((x4_4.length : Int) : Int) := dT; obtain ⟨hx45_0, hf45_0⟩ := Kd.R_celln 0 HO_4.out (x50_4 : Int) p45 q45; replace p45 := eq_true p45; replace q45 := eq_true q45; obtain ⟨hy50_, hz50_⟩ := Kd.R_celln 0 HO_4.out (x50_4 : Int) (dT) (dT); have HP50 := Kd.R_putg HO_4.out (x50_4 : Int) (x3_2.length : Int)) | ((with_reducible refine gate_store (t := 3) (p := 69) rfl ?_); refine store_event (t := 3) (p := 69) (v := ?vo_w51) (w1 := (wr.setCell ⟨go23, (x50_4 : Int).toNat, none⟩ (.int .i64 (x3_2.length : Int)))) ?hg ?ho ?hn ?hr ?_; (case ho => rfl); (case hg => rfl); (case hn => rfl); (case hr => first | (go_simp; done) | (go_simp; rfl)); intro w51 hw; have hg : wr.grownBy w51 (some go23) := (by rw [hw]; exact HP50.2); have hp_ : Kd.R (Kd.int .i64) 3 w51 w.heap.size (fun k_ => some k_ ≠ (.slice Ao49 x507000_4.length co49 : Value).ownBlock) (.slice (some ⟨go23, 0, none⟩) x4_4.length co11) y513 := (by rw [hw, Ny513.out]; exact HP50.1); clear HP50; have n0_ := am (Kd.S_after (v := (.slice (some ⟨go23, 0, none⟩) x4_4.length co11)) (v1 := (.slice (some ⟨go23, 0, none⟩) x4_4.length co11)) (ok := (fun k_ => some k_ ≠ (.slice Ao49 x507000_4.length co49 : Value).ownBlock ∧ k_ ≠ gb506)) (by (with_reducible repeat (first | apply Kd.S_alloc | apply Kd.S_drewN | apply Kd.S_drew)); exact Kd.S_mono HO_3.out (fun _ hk => ⟨⟨hk.2.1, hk.2.2⟩, hk.1⟩)) hg (.inl rfl)); have n1_ := am (hp_); have n2_ := am (Kd.Q_after (v := (.slice (some ⟨go23, 0, none⟩) x4_4.length co11)) (v1 := (.slice (some ⟨go23, 0, none⟩) x4_4.length co11)) (ok := (fun _ => True)) (by (with_reducible repeat (first | apply Kd.Q_alloc | apply Kd.Q_drewN | apply Kd.Q_drew)); exact Kd.Q_mono HO_507000.out (fun _ hk => ⟨trivial, hk⟩)) hg (.inl rfl)); have n3_ := am (blk_grown (g := gb493) (o := .cells #[.slice (some ad511) l0.length c0] 35 (0, 0)) (Kz BK493.out) hg (Kd.R_ne HO_4.out BK493.out (by decide))); have n4_ := am (blk_grown (g := gb506) (o := .cells #[.slice Ao49 x507000_4.length co49] 32 (0, 0)) (Kz BK506.out) hg (Kd.R_ne HO_4.out BK506.out (by decide))); have n5_ := am ((by rw [hw]; exact below_set (HB.out) GB23.out : Below w.heap.size w w51)); clear HO_3 HO_4 HO_507000 BK493 BK506 HB; revert n0_ n1_ n2_ n3_ n4_ n5_; intro HO_3 HO_4 HO_507000 BK493 BK506 HB; clear hg hw hp_; obtain ⟨hcz52_0, hfz52_0⟩ := cf1 (w := w51) BK506) | ((with_reducible refine gate_builtin (b := .append) (xs := #[.tmp 70, .tmp 72]) rfl ?_); at_builtin; refine Kd.Q_append (Kd.int .i64) (w0 := w) w.heap.size rfl (.tmp 70) (.tmp 72) 32 3 (.int .i64 0) 8 rfl Try.underlying32 info3 rfl (by decide) (by omega) (.slice Ao49 x507000_4.length co49) x507000_4 x50_4 [.int .i64 x50_4] (fun k_ => some k_ ≠ (.slice (some ⟨go23, 0, none⟩) x4_4.length co11 : Value).ownBlock) (fun _ => False) rfl rfl ?aP (fun _ hk => hk.elim) ?aF ?aO ?aB ?aS ?aL ?_; (case aP => exact rfl); (case aB => exact (Bq)); (case aF => exact (fun k_ hk => Kd.fresh' (Kd.R_lt (Rz HO_4.out)) k_ hk)); (case aO => exact (by (with_reducible repeat (first | apply Kd.Q_alloc | apply Kd.Q_drewN | apply Kd.Q_drew)); exact Kd.Q_mono HO_507000.out (fun _ hk => hk.2))); (case aS => exact (below_size (w := w) (Bq))); (case aL => have := LMc46.out; omega); intro v515 w53 ho hb hg hat; rw [← Ny514.out] at ho; have n0_ := am (Kd.S_after (ok := (fun k_ => some k_ ≠ (.slice (some ⟨go23, 0, none⟩) x4_4.length co11 : Value).ownBlock ∧ k_ ≠ gb506)) (by (with_reducible repeat (first | apply Kd.S_alloc | apply Kd.S_drewN | apply Kd.S_drew)); exact Kd.S_mono HO_3.out (fun _ hk => ⟨⟨hk.2, hk.1.2⟩, hk.1.1⟩)) hg hat); have n1_ := am (Kd.R_after (ok := (fun _ => True)) (Rz (Kd.R_mono HO_4.out (fun _ hk => ⟨trivial, hk⟩))) hg hat); have n2_ := am (blk_grown (g := gb493) (o := .cells #[.slice (some ad511) l0.length c0] 35 (0, 0)) (Kz BK493.out) hg (Kd.Q_ne HO_507000.out BK493.out (by decide))); have n3_ := am (blk_grown (g := gb506) (o := .cells #[.slice Ao49 x507000_4.length co49] 32 (0, 0)) (Kz BK506.out) hg (Kd.Q_ne HO_507000.out BK506.out (by decide))); have n4_ := am (hb); have n5_ := am (ho); clear HO_3 HO_4 BK493 BK506 HB HO_507000; revert n0_ n1_ n2_ n3_ n4_ n5_; intro HO_3 HO_4 BK493 BK506 HB HO516; clear ho hb hg hat; obtain ⟨Ao54, co54, eo54, _⟩ := Kd.Q_slice HO516.out; subst eo54; obtain ⟨hcz55_0, hfz55_0⟩ := cf1 (w := w53) BK506))
                        (try simp only [← hl4_4])
                        go_roundg k4
                        case measure => have := HK1.out; have := HK2.out; have := HK3.out; have := HK4.out; omega
                        case rel => exact ⟨(y513), (wrap64 (x50_4 + 1)), (y514), (.slice Ao54 y514.length co54), wZ, H', ⟨by have := HK1.out; have := HK2.out; have := HK3.out; have := HK4.out; omega⟩, ⟨by (try simp only [hl4_1]); (try simp only [hl4_2]); (try simp only [hl4_3]); (try simp only [hl4_4]); (with_reducible repeat (first | apply Kd.S_alloc | apply Kd.S_drewN | apply Kd.S_drew)); exact Kd.S_mono (Kd.S_far (p := ⟨gb506, 0, none⟩) (Kd.S_mono HO_3.out (fun k_ hk => (⟨hk, hk.1.2⟩ : _ ∧ k_ ≠ gb506))) (fun _ hk => hk.2) (.slice Ao54 y514.length co54)) (fun _ hk => ⟨hk.1.1.1, ⟨hk.1.2, hk.1.1.2⟩⟩)⟩, ⟨by (try simp only [hl4_1]); (try simp only [hl4_2]); (try simp only [hl4_3]); (try simp only [hl4_4]); (with_reducible repeat (first | apply Kd.R_alloc | apply Kd.R_drewN | apply Kd.R_drew)); exact Kd.R_mono (Kd.R_far (p := ⟨gb506, 0, none⟩) (Kd.R_types HO_4.out BK506.out (by decide)) (fun _ hk => hk.2) (.slice Ao54 y514.length co54)) (fun _ hk => hk.1.2)⟩, ⟨by (try simp only [hl4_1]); (try simp only [hl4_2]); (try simp only [hl4_3]); (try simp only [hl4_4]); (with_reducible repeat (first | apply Kd.Q_alloc | apply Kd.Q_drewN | apply Kd.Q_drew)); exact Kd.Q_mono (Kd.Q_far (p := ⟨gb506, 0, none⟩) (Kd.Q_types HO516.out BK506.out (by decide)) (fun _ hk => hk.2) (.slice Ao54 y514.length co54)) (fun _ hk => hk.1)⟩, ⟨by (try simp only [hl4_1]); (try simp only [hl4_2]); (try simp only [hl4_3]); (try simp only [hl4_4]); (with_reducible repeat (first | refine blk_drewN ?_ _ | refine blk_drew ?_ | refine blk_alloc ?_ _)); refine blk_far ?_ NB493_506.out _; (with_reducible repeat (first | refine blk_drewN ?_ _ | refine blk_drew ?_ | refine blk_alloc ?_ _)); exact BK493.out⟩, ⟨by (try simp only [hl4_1]); (try simp only [hl4_2]); (try simp only [hl4_3]); (try simp only [hl4_4]); (with_reducible repeat (first | refine blk_drewN ?_ _ | refine blk_drew ?_ | refine blk_alloc ?_ _)); refine blk_put (cs := #[.slice Ao49 x507000_4.length co49]) ?_ 0 _ rfl; (with_reducible repeat (first | refine blk_drewN ?_ _ | refine blk_drew ?_ | refine blk_alloc ?_ _)); exact BK506.out⟩, ⟨Bq⟩⟩
                       ·rw [if_neg c46] at H
                        exact absurd H (by simp)
                      ·replace c44 := Bool.eq_false_iff.mpr c44
                       subst c44
                       rw [if_neg (show ¬ (false = true) by decide)] at H; have H' := am H; clear H; have p510 : 0 ≤ (x50_4 : Int) := dT; have q510 : x50_4 < (x4_4.length : Int) := dT; obtain ⟨ad510, e510, hx510_0⟩ := Kd.at_int (Kd.R_reads' HO_4.out).2.2 x50_4 p510 q510; obtain rfl : (⟨go23, 0, none⟩ : Addr) = ad510 := (by injection e510)
                       (first | simp only [add_plain] at hx510_0 | simp only [add_at] at hx510_0 | simp only [Addr.add, Nat.zero_add] at hx510_0 | skip)
                       replace p510 := eq_true p510; replace q510 := eq_true q510; have hnb56 := NB493_506.out; have hnc56 := NB506_493.out; obtain ⟨hcz57_0, hfz57_0⟩ := cf1 (w := wr) BK493; have p511 : 0 ≤ (x50_4 : Int) := dT; have q511 : x50_4 < (l0.length : Int) := dT; obtain ⟨ad511, A511_0, c511_0, e511, hx511_0, hl511_0, hi511_0⟩ := at_L2 HR0.out x50_4 p511 q511; cases e511; replace hx511_0 := (HB.out.cell (World.block_lt_of_cell? w _ hx511_0)).trans hx511_0; have HR511_0 := am hi511_0; have HC511_0 := am hl511_0; clear hi511_0 hl511_0; replace p511 := eq_true p511; replace q511 := eq_true q511; obtain ⟨Ao58, co58, eo58, _⟩ := Kd.Q_slice HO_507000.out; subst eo58
                       go_wp2_with (first | (go_at_call 85; (with_reducible refine (slices_ContainsFunc_int_int_at_impl_groups_1.calls k4 _ _ (rd_L2 l0 x50_4)  gb493 (some ad511) c0 l0 gb506 Ao58 co58 x507000_4 false _ ?side1 ?side2 ?side3 ?side4 ?side5 ?side6 ?side7 ?side8 A43.out).mono ?_); (case side1 => exact Cz (Kd.C_below HR511_0.out HB.out)); (case side2 => exact HC511_0.out); (case side3 => exact Kz BK493.out); (case side4 => exact Cz (Kd.C_below HR0.out HB.out)); (case side5 => exact HC0.out); (case side6 => exact Kz BK506.out); (case side7 => exact Cz ((Kd.Q_reads' HO_507000.out).2.2)); (case side8 => exact (Kd.Q_reads' HO_507000.out).2.1); rintro e w' ⟨rfl, ⟨nd, rfl⟩⟩))
                       (try simp only [← hl4_4])
                       go_roundg k4
                       case measure => have := HK1.out; have := HK2.out; have := HK3.out; have := HK4.out; omega
                       case rel => exact ⟨(x4_4), (wrap64 (x50_4 + 1)), (x507000_4), (.slice Ao58 x507000_4.length co58), wZ, H', ⟨by have := HK1.out; have := HK2.out; have := HK3.out; have := HK4.out; omega⟩, ⟨by (try simp only [hl4_1]); (try simp only [hl4_2]); (try simp only [hl4_3]); (try simp only [hl4_4]); (with_reducible repeat (first | apply Kd.S_alloc | apply Kd.S_drewN | apply Kd.S_drew)); exact HO_3.out⟩, ⟨by (try simp only [hl4_1]); (try simp only [hl4_2]); (try simp only [hl4_3]); (try simp only [hl4_4]); (with_reducible repeat (first | apply Kd.R_alloc | apply Kd.R_drewN | apply Kd.R_drew)); exact HO_4.out⟩, ⟨by (try simp only [hl4_1]); (try simp only [hl4_2]); (try simp only [hl4_3]); (try simp only [hl4_4]); (with_reducible repeat (first | apply Kd.Q_alloc | apply Kd.Q_drewN | apply Kd.Q_drew)); exact HO_507000.out⟩, ⟨by (try simp only [hl4_1]); (try simp only [hl4_2]); (try simp only [hl4_3]); (try simp only [hl4_4]); (with_reducible repeat (first | refine blk_drewN ?_ _ | refine blk_drew ?_ | refine blk_alloc ?_ _)); exact BK493.out⟩, ⟨by (try simp only [hl4_1]); (try simp only [hl4_2]); (try simp only [hl4_3]); (try simp only [hl4_4]); (with_reducible repeat (first | refine blk_drewN ?_ _ | refine blk_drew ?_ | refine blk_alloc ?_ _)); exact BK506.out⟩, ⟨Bq⟩⟩
                     ·rw [if_neg c42] at H
                      exact absurd H (by simp)
                    ·rw [if_neg c41] at H
                     have c41b0 : decide ((rd x4_4 x50_4) < 0) = false := decide_eq_false c41; clear c41; have H' := am H; clear H; have p510 : 0 ≤ (x50_4 : Int) := dT; have q510 : x50_4 < (x4_4.length : Int) := dT; obtain ⟨ad510, e510, hx510_0⟩ := Kd.at_int (Kd.R_reads' HO_4.out).2.2 x50_4 p510 q510; obtain rfl : (⟨go23, 0, none⟩ : Addr) = ad510 := (by injection e510)
                     (first | simp only [add_plain] at hx510_0 | simp only [add_at] at hx510_0 | simp only [Addr.add, Nat.zero_add] at hx510_0 | skip)
                     replace p510 := eq_true p510; replace q510 := eq_true q510
                     go_wp2
                     (try simp only [← hl4_4])
                     go_roundg k4
                     case measure => have := HK1.out; have := HK2.out; have := HK3.out; have := HK4.out; omega
                     case rel => exact ⟨(x4_4), (wrap64 (x50_4 + 1)), (x507000_4), (u507000), wZ, H', ⟨by have := HK1.out; have := HK2.out; have := HK3.out; have := HK4.out; omega⟩, ⟨by (try simp only [hl4_1]); (try simp only [hl4_2]); (try simp only [hl4_3]); (try simp only [hl4_4]); (with_reducible repeat (first | apply Kd.S_alloc | apply Kd.S_drewN | apply Kd.S_drew)); exact HO_3.out⟩, ⟨by (try simp only [hl4_1]); (try simp only [hl4_2]); (try simp only [hl4_3]); (try simp only [hl4_4]); (with_reducible repeat (first | apply Kd.R_alloc | apply Kd.R_drewN | apply Kd.R_drew)); exact HO_4.out⟩, ⟨by (try simp only [hl4_1]); (try simp only [hl4_2]); (try simp only [hl4_3]); (try simp only [hl4_4]); (with_reducible repeat (first | apply Kd.Q_alloc | apply Kd.Q_drewN | apply Kd.Q_drew)); exact HO_507000.out⟩, ⟨by (try simp only [hl4_1]); (try simp only [hl4_2]); (try simp only [hl4_3]); (try simp only [hl4_4]); (with_reducible repeat (first | refine blk_drewN ?_ _ | refine blk_drew ?_ | refine blk_alloc ?_ _)); exact BK493.out⟩, ⟨by (try simp only [hl4_1]); (try simp only [hl4_2]); (try simp only [hl4_3]); (try simp only [hl4_4]); (with_reducible repeat (first | refine blk_drewN ?_ _ | refine blk_drew ?_ | refine blk_alloc ?_ _)); exact BK506.out⟩, ⟨Bq⟩⟩
                   ·rw [if_neg c40] at H
                    exact absurd H (by simp)
                  ·rw [if_neg c39] at H
                   exact absurd H (by simp)
                 ·rw [if_neg c38] at H
                  have c38b0 : decide (x50_4 < (l0.length : Int)) = false := decide_eq_false c38; (try simp only [hl4_1, hl4_2, hl4_3, hl4_4] at c38b0); clear c38
                  by_cases c59 : 1 ≤ (x507000_4.length : Int)
                  ·rw [if_pos c59] at H
                   have c59b0 := eq_true c59; have c59b1 : decide (1 ≤ (x507000_4.length : Int)) = true := decide_eq_true c59; (try simp only [hl4_1, hl4_2, hl4_3, hl4_4] at c59b1); clear c59; obtain ⟨y517, hy517⟩ : ∃ y_ : List Int, y_ = (x507000_4.drop (1 : Int).toNat) := ⟨_, rfl⟩
                   replace H : (impl_groups.l2 k4 x3_2 x4_4 (x3_2.length : Int) (l0.length : Int) x27_2 l0 y517) = some r := by first | (rw [hy517]; with_reducible exact H) | (have H2_ := (Option.bind_some _ _).symm.trans H; rw [hy517]; with_reducible exact H2_) | (have H2_ := (Option.bind_some _ _).symm.trans H; with_reducible exact H2_) | with_reducible exact H | (rw [hy517]; exact H) | exact H
                   have Ny517 := am hy517; clear hy517; have H' := am H; clear H; have hnb60 := NB506_493.out; have hnc60 := NB493_506.out; obtain ⟨hcz61_0, hfz61_0⟩ := cf1 (w := wr) BK506; obtain ⟨Ao62, co62, eo62, _⟩ := Kd.Q_slice HO_507000.out; subst eo62
                   go_wp2_with (first | ((with_reducible refine gate_dst (N := 8) rfl ?_); refine bE 8 #[.slice none 0 0] 32 ?_; intro gb95069 hg wN95069 hbox hb; have n0_ := am (Kd.S_below (Kd.S_elderB (by (with_reducible repeat (first | apply Kd.S_alloc | apply Kd.S_drewN | apply Kd.S_drew)); exact HO_3.out) gb95069 (Nat.le_of_eq hg.symm)) hb); have n1_ := Rb HO_4 hb; have n2_ := am (Kd.Q_below (by (with_reducible repeat (first | apply Kd.Q_alloc | apply Kd.Q_drewN | apply Kd.Q_drew)); exact HO_507000.out) hb); have n3_ := Kb BK493 hb; have n4_ := Bc HB hb; have n5_ := am (hbox); have n6_ := Gm HB hg; have n8_ := Nl BK493 hg; have n9_ := Ng BK493 hg; clear HO_3 HO_4 HO_507000 BK493 HB; revert n0_ n1_ n2_ n3_ n4_ n5_ n6_ n8_ n9_; intro HO_3 HO_4 HO_507000 BK493 HB BK95069 GE95069 NB493_95069 NB95069_493; clear hb hbox hg; have hnb90 := NB95069_493.out; have hnc90 := NB493_95069.out; obtain ⟨hcz90_0, hfz90_0⟩ := cf1 (w := wN95069) BK95069) | ((with_reducible refine gate_store (t := 32) (p := 8) rfl ?_); refine store_event (t := 32) (p := 8) (v := ?vo_w63) (w1 := (wN95069.setCell ⟨gb95069, 0, none⟩ (.slice Ao62 x507000_4.length co62))) ?hg ?ho ?hn ?hr ?_; (case ho => rfl); (case hg => rfl); (case hn => rfl); (case hr => first | (go_simp; done) | (go_simp; rfl)); intro w63 hw; have n0_ : Aside0 (Kd.S (Kd.slice 3 (Kd.int .i64)) 32 w63 w.heap.size (fun k_ => some k_ ≠ (.slice (some ⟨go23, 0, none⟩) x4_4.length co11 : Value).ownBlock ∧ some k_ ≠ (.slice Ao62 x507000_4.length co62 : Value).ownBlock ∧ k_ ≠ gb95069) (.slice Ao24 x3_2.length co24) x3_2) := ⟨(by rw [hw]; exact (by (with_reducible repeat (first | apply Kd.S_alloc | apply Kd.S_drewN | apply Kd.S_drew)); exact Kd.S_mono (Kd.S_far (p := ⟨gb95069, 0, none⟩) (Kd.S_mono HO_3.out (fun k_ hk => (⟨hk, hk.2⟩ : _ ∧ k_ ≠ gb95069))) (fun _ hk => hk.2) (.slice Ao62 x507000_4.length co62)) (fun _ hk => ⟨hk.1.1.1, ⟨hk.1.1.2.1, hk.1.2⟩⟩)))⟩; have n1_ : Aside0 (Kd.R (Kd.int .i64) 3 w63 w.heap.size (fun k_ => some k_ ≠ (.slice Ao62 x507000_4.length co62 : Value).ownBlock) (.slice (some ⟨go23, 0, none⟩) x4_4.length co11) x4_4) := ⟨(by rw [hw]; exact (Rz (Kd.R_mono (Kd.R_far (p := ⟨gb95069, 0, none⟩) (Kd.R_types HO_4.out BK95069.out (by decide)) (fun _ hk => hk.2) (.slice Ao62 x507000_4.length co62)) (fun _ hk => hk.1))))⟩; have n2_ : Aside0 (Kd.Q (Kd.int .i64) 3 w63 w.heap.size (fun k_ => some k_ ≠ (.slice (some ⟨go23, 0, none⟩) x4_4.length co11 : Value).ownBlock) (.slice Ao62 x507000_4.length co62) x507000_4) := ⟨(by rw [hw]; exact (by (with_reducible repeat (first | apply Kd.Q_alloc | apply Kd.Q_drewN | apply Kd.Q_drew)); exact Kd.Q_mono (Kd.Q_far (p := ⟨gb95069, 0, none⟩) (Kd.Q_types HO_507000.out BK95069.out (by decide)) (fun _ hk => hk.2) (.slice Ao62 x507000_4.length co62)) (fun _ hk => hk.1)))⟩; have n3_ : Aside0 (w63.heap[gb493]? = some (.cells #[.slice A0 l0.length c0] 35 (0, 0))) := ⟨(by rw [hw]; exact (by (with_reducible repeat (first | refine blk_drewN ?_ _ | refine blk_drew ?_ | refine blk_alloc ?_ _)); refine blk_far ?_ NB493_95069.out _; exact Kz BK493.out))⟩; have n4_ : Aside0 (w63.heap[gb95069]? = some (.cells #[.slice Ao62 x507000_4.length co62] 32 (0, 0))) := ⟨(by rw [hw]; exact (by (with_reducible repeat (first | refine blk_drewN ?_ _ | refine blk_drew ?_ | refine blk_alloc ?_ _)); refine blk_put (cs := #[.slice none 0 0]) ?_ 0 _ rfl; exact Kz BK95069.out))⟩; have n5_ : Aside0 (Below w.heap.size w w63) := ⟨(by rw [hw]; exact (Bq))⟩; clear hw HO_3 HO_4 HO_507000 BK493 BK95069 HB; revert n0_ n1_ n2_ n3_ n4_ n5_; intro HO_3 HO_4 HO_507000 BK493 BK95069 HB; obtain ⟨hcz64_0, hfz64_0⟩ := cf1 (w := w63) BK95069; have q65 : (1 : Int) ≤ ((x507000_4.length : Int) : Int) := dT; obtain ⟨i065, hi065, _, hsz65, _⟩ := info_parts info3; have hcut65 := cut_from (P := Try.prog) 32 3 .i64 Try.underlying32 hi065 1 hsz65 Ao62 x507000_4.length co62 1 (by omega) q65; have hr65 := Kd.Q_drop (k := (1 : Int).toNat) HO_507000.out (by omega); obtain ⟨A65, hA65⟩ : ∃ A1, A1 = (if co62 = (1 : Int).toNat then Ao62 else (Ao62 : Option Addr).map (·.add ((1 : Int).toNat * 1))) := ⟨_, rfl⟩; obtain ⟨c65, hc65⟩ : ∃ c1, c1 = co62 - (1 : Int).toNat := ⟨_, rfl⟩; have hy65 : y517.length = x507000_4.length - (1 : Int).toNat := (by rw [Ny517.out, List.length_drop]); rw [← Ny517.out] at hr65; rw [← hy65, ← hA65, ← hc65] at hcut65; replace hr65 : Kd.Q (Kd.int .i64) 3 w63 w.heap.size (fun k_ => some k_ ≠ (.slice (some ⟨go23, 0, none⟩) x4_4.length co11 : Value).ownBlock) (.slice A65 y517.length c65) y517 := (by rw [hA65, hc65, hy65]; exact hr65); have HE65 : Aside0 ((Value.slice A65 y517.length c65).ownBlock = (.slice Ao62 x507000_4.length co62 : Value).ownBlock) := ⟨by rw [hA65]; split <;> (cases (Ao62 : Option Addr) <;> rfl)⟩; clear hy65 hi065 hsz65 HO_507000 hA65 hc65; have HO519 := am hr65; clear hr65; replace q65 := eq_true q65; have n_ := am (Kd.S_mono (ok' := fun k_ => (some k_ ≠ (.slice (some ⟨go23, 0, none⟩) x4_4.length co11 : Value).ownBlock ∧ (some k_ ≠ (.slice A65 y517.length c65 : Value).ownBlock ∧ k_ ≠ gb95069))) HO_3.out (fun k_ hk => ⟨hk.1, ⟨(by rw [HE65.out]; exact hk.2.1), hk.2.2⟩⟩)); clear HO_3; have HO_3 := n_; clear n_; have n_ := am (Kd.R_mono (ok' := fun k_ => some k_ ≠ (.slice A65 y517.length c65 : Value).ownBlock) HO_4.out (fun k_ hk => (by rw [HE65.out]; exact hk))); clear HO_4; have HO_4 := n_; clear n_))
                   (try simp only [← hl4_3, ← hl4_4])
                   go_roundg k4
                   case measure => have := HK1.out; have := HK2.out; have := HK3.out; have := HK4.out; omega
                   case rel => exact ⟨(x4_4), (y517), (.slice A65 y517.length c65), gb95069, wZ, H', ⟨by have := HK1.out; have := HK2.out; have := HK3.out; have := HK4.out; omega⟩, ⟨by (try simp only [hl4_1]); (try simp only [hl4_2]); (try simp only [hl4_3]); (try simp only [hl4_4]); (with_reducible repeat (first | apply Kd.S_alloc | apply Kd.S_drewN | apply Kd.S_drew)); exact Kd.S_mono (Kd.S_far (p := ⟨gb95069, 0, none⟩) (Kd.S_mono HO_3.out (fun k_ hk => (⟨hk, hk.2.2⟩ : _ ∧ k_ ≠ gb95069))) (fun _ hk => hk.2) (.slice A65 y517.length c65)) (fun _ hk => ⟨hk.1.1, ⟨hk.1.2.1, hk.1.2.2⟩⟩)⟩, ⟨by (try simp only [hl4_1]); (try simp only [hl4_2]); (try simp only [hl4_3]); (try simp only [hl4_4]); (with_reducible repeat (first | apply Kd.R_alloc | apply Kd.R_drewN | apply Kd.R_drew)); exact Kd.R_mono (Kd.R_far (p := ⟨gb95069, 0, none⟩) (Kd.R_types HO_4.out BK95069.out (by decide)) (fun _ hk => hk.2) (.slice A65 y517.length c65)) (fun _ hk => hk.1)⟩, ⟨by (try simp only [hl4_1]); (try simp only [hl4_2]); (try simp only [hl4_3]); (try simp only [hl4_4]); (with_reducible repeat (first | apply Kd.Q_alloc | apply Kd.Q_drewN | apply Kd.Q_drew)); exact Kd.Q_mono (Kd.Q_far (p := ⟨gb95069, 0, none⟩) (Kd.Q_types HO519.out BK95069.out (by decide)) (fun _ hk => hk.2) (.slice A65 y517.length c65)) (fun _ hk => hk.1)⟩, ⟨by (try simp only [hl4_1]); (try simp only [hl4_2]); (try simp only [hl4_3]); (try simp only [hl4_4]); (with_reducible repeat (first | refine blk_drewN ?_ _ | refine blk_drew ?_ | refine blk_alloc ?_ _)); refine blk_far ?_ NB493_95069.out _; (with_reducible repeat (first | refine blk_drewN ?_ _ | refine blk_drew ?_ | refine blk_alloc ?_ _)); exact BK493.out⟩, ⟨by (try simp only [hl4_1]); (try simp only [hl4_2]); (try simp only [hl4_3]); (try simp only [hl4_4]); (with_reducible repeat (first | refine blk_drewN ?_ _ | refine blk_drew ?_ | refine blk_alloc ?_ _)); refine blk_put (cs := #[.slice Ao62 x507000_4.length co62]) ?_ 0 _ rfl; (with_reducible repeat (first | refine blk_drewN ?_ _ | refine blk_drew ?_ | refine blk_alloc ?_ _)); exact BK95069.out⟩, ⟨Bq⟩, GE95069, NB493_95069⟩
                  ·rw [if_neg c59] at H
                   exact absurd H (by simp)
              ·rw [if_neg c33] at H
               have c33b0 : decide (0 < (x507000_3.length : Int)) = false := decide_eq_false c33; (try simp only [hl4_1, hl4_2, hl4_3] at c33b0); have c33b1 : decide (0 < x507000_3.length) = false := decide_eq_false (by omega); clear c33
               by_cases c66 : x3_2.length < 5864062014805
               ·rw [if_pos c66] at H
                have LMc66 := am c66; clear c66; obtain ⟨y507, hy507⟩ : ∃ y_ : List (List Int), y_ = (x3_2 ++ [[]]) := ⟨_, rfl⟩
                replace H : (impl_groups.l1 k3 y507 x4_3 (l0.length : Int) (wrap64 (x27_2 + 1)) l0) = some r := by first | (rw [hy507]; with_reducible exact H) | (have H2_ := (Option.bind_some _ _).symm.trans H; rw [hy507]; with_reducible exact H2_) | (have H2_ := (Option.bind_some _ _).symm.trans H; with_reducible exact H2_) | with_reducible exact H | (rw [hy507]; exact H) | exact H
                have Ny507 := am hy507; clear hy507; have H' := am H; clear H; have hnb67 := NB506_493.out; have hnc67 := NB493_506.out; obtain ⟨hcz68_0, hfz68_0⟩ := cf1 (w := wr) BK506; obtain ⟨Ao69, co69, eo69, _⟩ := Kd.Q_slice HO_507000.out; subst eo69
                go_wp2_with (first | ((with_reducible refine gate_builtin (b := .append) (xs := #[.tmp 76, .tmp 77]) rfl ?_); at_builtin; refine Kd.S_append (Kd.slice 3 (Kd.int .i64)) (w0 := w) w.heap.size rfl (.tmp 76) (.tmp 77) 35 32 (.slice none 0 0) 24 rfl Try.underlying35 info32 rfl (by decide) (by omega) (.slice Ao24 x3_2.length co24) x3_2 [] [.slice none 0 0] (fun k_ => some k_ ≠ (.slice (some ⟨go23, 0, none⟩) x4_3.length co11 : Value).ownBlock ∧ some k_ ≠ (.slice Ao69 x507000_3.length co69 : Value).ownBlock ∧ k_ ≠ gb506) (fun _ => False) rfl rfl ?aP (fun _ hk => hk.elim) ?aF ?aO ?aB ?aS ?aL ?_; (case aP => exact ⟨.slice none 0 0, rfl, Kd.R_nil _ _ _ _ _⟩); (case aB => exact (Bq)); (case aF => exact (fun k_ hk => ⟨Kd.fresh' (Kd.R_lt (Rz HO_4.out)) k_ hk, Kd.fresh' (Kd.Q_lt (by (with_reducible repeat (first | apply Kd.Q_alloc | apply Kd.Q_drewN | apply Kd.Q_drew)); exact HO_507000.out)) k_ hk, Kd.freshB (g := gb506) (o := .cells #[.slice Ao69 x507000_3.length co69] 32 (0, 0)) (Kz BK506.out) k_ hk⟩)); (case aO => exact (by (with_reducible repeat (first | apply Kd.S_alloc | apply Kd.S_drewN | apply Kd.S_drew)); exact Kd.S_mono HO_3.out (fun k_ hk => ⟨⟨hk.1, ⟨hk.2.1, hk.2.2⟩⟩, fun e_ => e_⟩))); (case aS => exact (below_size (w := w) (Bq))); (case aL => have := LMc66.out; omega); intro v508 w70 ho hb hg hat; rw [← Ny507.out] at ho; have n0_ := am (Kd.R_over' (Rz HO_4.out) (Kd.S_typed (by (with_reducible repeat (first | apply Kd.S_alloc | apply Kd.S_drewN | apply Kd.S_drew)); exact HO_3.out)) (by decide) hg); have n1_ := am (Kd.Q_over' (by (with_reducible repeat (first | apply Kd.Q_alloc | apply Kd.Q_drewN | apply Kd.Q_drew)); exact HO_507000.out) (Kd.S_typed (by (with_reducible repeat (first | apply Kd.S_alloc | apply Kd.S_drewN | apply Kd.S_drew)); exact HO_3.out)) (by decide) hg); have n2_ := am (blk_grown (g := gb493) (o := .cells #[.slice A0 l0.length c0] 35 (0, 0)) (Kz BK493.out) hg (Kd.S_ne HO_3.out BK493.out (by decide))); have n3_ := am (blk_grown (g := gb506) (o := .cells #[.slice Ao69 x507000_3.length co69] 32 (0, 0)) (Kz BK506.out) hg (Kd.S_away HO_3.out (fun _ hk => hk.2.2))); have n4_ := am (hb); have n5_ := am (ho); clear HO_4 HO_507000 BK493 BK506 HB HO_3; revert n0_ n1_ n2_ n3_ n4_ n5_; intro HO_4 HO_507000 BK493 BK506 HB HO509; clear ho hb hg hat))
                (try simp only [← hl4_2, ← hl4_3])
                go_roundg k3
                case measure => have := HK1.out; have := HK2.out; have := HK3.out; omega
                case rel => exact ⟨(y507), (x4_3), (wrap64 (x27_2 + 1)), wZ, H', ⟨by have := HK1.out; have := HK2.out; have := HK3.out; omega⟩, ⟨by (try simp only [hl4_1]); (try simp only [hl4_2]); (try simp only [hl4_3]); (with_reducible repeat (first | apply Kd.S_alloc | apply Kd.S_drewN | apply Kd.S_drew)); exact Kd.S_mono HO509.out (fun _ hk => hk.1)⟩, ⟨by (try simp only [hl4_1]); (try simp only [hl4_2]); (try simp only [hl4_3]); (with_reducible repeat (first | apply Kd.R_alloc | apply Kd.R_drewN | apply Kd.R_drew)); exact Kd.R_mono HO_4.out (fun _ hk => trivial)⟩, ⟨by (try simp only [hl4_1]); (try simp only [hl4_2]); (try simp only [hl4_3]); (with_reducible repeat (first | refine blk_drewN ?_ _ | refine blk_drew ?_ | refine blk_alloc ?_ _)); exact BK493.out⟩, ⟨Bq⟩⟩
               ·rw [if_neg c66] at H
                exact absurd H (by simp)
          ·rw [if_neg c21] at H
           exact absurd H (by simp)
         ·rw [if_neg c20] at H
          exact absurd H (by simp)
        ·rw [if_neg c19] at H
         have c19b0 : decide (x27_2 < (l0.length : Int)) = false := decide_eq_false c19; (try simp only [hl4_1, hl4_2] at c19b0); clear c19; have H' := am H; clear H
         go_wp2
         go_loopg [82] k2 (fun kq v82 w' => ∃ (x3_3 : List (List Int)) (x82_3 : Int), v82 = .int .i64 x82_3 ∧ Aside0 (impl_groups.l4 kq x3_3 x4_2 (x4_2.length : Int) x82_3 = some r) ∧ Aside0 (kq ≤ k2) ∧ Aside0 (Kd.S (Kd.slice 3 (Kd.int .i64)) 32 w' w.heap.size (fun k_ => some k_ ≠ ((.slice Ao11 x4_2.length co11) : Value).ownBlock) u3 x3_3) ∧ Aside0 (Kd.R (Kd.int .i64) 3 w' w.heap.size (fun _ => True) (.slice Ao11 x4_2.length co11) x4_2) ∧ Aside0 (w'.heap[gb493]? = some (.cells #[(.slice A0 l0.length c0)] 35 (0, 0))) ∧ Aside0 (Below w.heap.size w w'))
         case atStart => exact ⟨(x3_2), (0), wZ, H', ⟨Nat.le_refl _⟩, ⟨by (try simp only [hl4_1]); (try simp only [hl4_2]); (with_reducible repeat (first | apply Kd.S_alloc | apply Kd.S_drewN | apply Kd.S_drew)); exact HO_3.out⟩, ⟨by (try simp only [hl4_1]); (try simp only [hl4_2]); (with_reducible repeat (first | apply Kd.R_alloc | apply Kd.R_drewN | apply Kd.R_drew)); exact HO_4.out⟩, ⟨by (try simp only [hl4_1]); (try simp only [hl4_2]); (with_reducible repeat (first | refine blk_drewN ?_ _ | refine blk_drew ?_ | refine blk_alloc ?_ _)); exact BK493.out⟩, ⟨Bq⟩⟩
         case round =>
          clear H'
          try clear c1
          try clear p1
          try clear q1
          try clear hx1
          try clear hf1
          try clear c2
          try clear c2b0
          try clear c2b1
          try clear p2
          try clear q2
          try clear hx2
          try clear hf2
          try clear c3
          try clear c3b0
          try clear c3b1
          try clear c4
          try clear p4
          try clear q4
          try clear hx4
          try clear hf4
          try clear c5
          try clear p5
          try clear q5
          try clear hx5
          try clear c6
          try clear p6
          try clear q6
          try clear c10
          try clear c12
          try clear c12b0
          try clear c13
          try clear c13b0
          try clear c14
          try clear c14b0
          try clear p15
          try clear q15
          try clear hx15
          try clear hf15
          try clear c19
          try clear c19b0
          try clear c20
          try clear c20b0
          try clear c21
          try clear c21b0
          try clear c22
          try clear c22b0
          try clear p23
          try clear q23
          try clear hx23
          try clear hf23
          try clear c31
          try clear c33
          try clear c33b0
          try clear c33b1
          try clear c34
          try clear c38
          try clear c38b0
          try clear c39
          try clear c39b0
          try clear c40
          try clear c40b0
          try clear c41
          try clear c41b0
          try clear c42
          try clear c42b0
          try clear c44
          try clear p45
          try clear q45
          try clear hx45
          try clear hf45
          try clear c46
          try clear c47
          try clear p50
          try clear q50
          try clear hx50
          try clear c51
          try clear p51
          try clear q51
          try clear hx51
          try clear c56
          try clear c59
          try clear c59b0
          try clear c59b1
          try clear c60
          try clear p64
          try clear c65
          try clear q65
          try clear c66
          try clear c67
          try clear hcz18_0
          try clear hcz32_0
          try clear hcz35_0
          try clear hcz37_0
          try clear hcz48_0
          try clear hcz52_0
          try clear hcz55_0
          try clear hcz57_0
          try clear hcz61_0
          try clear hcz64_0
          try clear hcz68_0
          try clear hfz18_0
          try clear hfz32_0
          try clear hfz35_0
          try clear hfz37_0
          try clear hfz48_0
          try clear hfz52_0
          try clear hfz55_0
          try clear hfz57_0
          try clear hfz61_0
          try clear hfz64_0
          try clear hfz68_0
          try clear hx15_0
          try clear hx23_0
          try clear hx45_0
          try clear hx501_0
          try clear hx510_0
          try clear hx511_0
          try clear p1
          try clear p15
          try clear p2
          try clear p23
          try clear p45
          try clear p5
          try clear p501
          try clear p510
          try clear p511
          try clear p6
          try clear q1
          try clear q15
          try clear q2
          try clear q23
          try clear q45
          try clear q5
          try clear q501
          try clear q510
          try clear q511
          try clear q65
          obtain ⟨x3_3, x82_3, rfl, HA, HK3, HO_3, HO_80, BK493, HB⟩ := hrel; cases gk with
          | zero => exact absurd HA.out (by simp [impl_groups.l4])
          | succ k3 =>
           have H := HA.out; clear HA
           simp only [impl_groups.l4] at H
           by_cases c71 : x82_3 < (x4_2.length : Int)
           ·rw [if_pos c71] at H
            have c71b0 : decide (x82_3 < (x4_2.length : Int)) = true := decide_eq_true c71; (try simp only [hl4_1, hl4_2] at c71b0); clear c71
            by_cases c72 : 0 ≤ x82_3
            ·rw [if_pos c72] at H
             have c72b0 : decide (0 ≤ x82_3) = true := decide_eq_true c72; clear c72
             by_cases c73 : x82_3 < (x4_2.length : Int)
             ·rw [if_pos c73] at H
              have c73b0 : decide (x82_3 < (x4_2.length : Int)) = true := decide_eq_true c73; (try simp only [hl4_1, hl4_2] at c73b0); clear c73
              by_cases c74 : 0 ≤ (rd x4_2 x82_3)
              ·rw [if_pos c74] at H
               have c74b0 : decide (0 ≤ (rd x4_2 x82_3)) = true := decide_eq_true c74; clear c74
               by_cases c75 : (rd x4_2 x82_3) < (x3_3.length : Int)
               ·rw [if_pos c75] at H
                have c75b0 : decide ((rd x4_2 x82_3) < (x3_3.length : Int)) = true := decide_eq_true c75; (try simp only [hl4_1, hl4_2] at c75b0); clear c75
                by_cases c76 : (rd_L2 x3_3 (rd x4_2 x82_3)).length < 17592186044416
                ·rw [if_pos c76] at H
                 have LMc76 := am c76; clear c76; obtain ⟨y522, hy522⟩ : ∃ y_ : List Int, y_ = ((rd_L2 x3_3 (rd x4_2 x82_3)) ++ [x82_3]) := ⟨_, rfl⟩
                 replace H : (impl_groups.l4 k3 (x3_3.set ((rd x4_2 x82_3) : Int).toNat y522) x4_2 (x4_2.length : Int) (wrap64 (x82_3 + 1))) = some r := by first | (rw [hy522]; with_reducible exact H) | (have H2_ := (Option.bind_some _ _).symm.trans H; rw [hy522]; with_reducible exact H2_) | (have H2_ := (Option.bind_some _ _).symm.trans H; with_reducible exact H2_) | with_reducible exact H | (rw [hy522]; exact H) | exact H
                 have Ny522 := am hy522; clear hy522; obtain ⟨y525, hy525⟩ : ∃ y_ : List (List Int), y_ = (x3_3.set ((rd x4_2 x82_3) : Int).toNat y522) := ⟨_, rfl⟩
                 replace H : (impl_groups.l4 k3 y525 x4_2 (x4_2.length : Int) (wrap64 (x82_3 + 1))) = some r := by first | (rw [hy525]; with_reducible exact H) | (have H2_ := (Option.bind_some _ _).symm.trans H; rw [hy525]; with_reducible exact H2_) | (have H2_ := (Option.bind_some _ _).symm.trans H; with_reducible exact H2_) | with_reducible exact H | (rw [hy525]; exact H) | exact H
                 have Ny525 := am hy525; clear hy525; have H' := am H; clear H; obtain ⟨ad520, e520, hx520_0⟩ := Kd.at_int (Kd.R_reads' HO_80.out).2.2 x82_3 dT dT; cases e520; have p520 := eT (0 ≤ (x82_3 : Int)); have q520 := eT (x82_3 < (x4_2.length : Int)); obtain ⟨Ao78, co78, eo78⟩ := Kd.S_slice HO_3.out; subst eo78; have p521 : 0 ≤ ((rd x4_2 x82_3) : Int) := dT; have q521 : (rd x4_2 x82_3) < (x3_3.length : Int) := dT; obtain ⟨ad521, A521_0, c521_0, e521, hx521_0, hl521_0, hi521_0⟩ := at_L2 (Kd.S_reads' HO_3.out).2.2 (rd x4_2 x82_3) p521 q521; cases e521; obtain ⟨ce521, hce521, hMe521, hcc521⟩ := Kd.S_get HO_3.out [] (rd x4_2 x82_3) p521 (by first | exact q521 | exact dT | (have e_ := (Kd.S_reads' HO_3.out).1; omega)); obtain ⟨ve521_0, rfl, ge521_0⟩ := hMe521; have hv521_0 := hcc521 0 _ rfl; rw [Nat.add_zero, show ((Kd.slice 3 (Kd.int .i64))).sz = 1 from rfl, Nat.mul_one] at hv521_0; replace hv521_0 := Option.some.inj (hv521_0.symm.trans hx521_0); rw [hv521_0] at ge521_0; have HL521_0 := am (show Kd.R (Kd.int .i64) 3 _ _ _ _ (rd_L2 x3_3 (rd x4_2 x82_3)) from ge521_0); clear hv521_0 ge521_0; have HX521_0 := am hx521_0; clear hcc521 hce521; have HR521_0 := am hi521_0; have HC521_0 := am hl521_0; clear hi521_0 hl521_0; replace p521 := eq_true p521; replace q521 := eq_true q521; obtain ⟨go79, co79, eo79, gb79, gl79, cl79, HG79⟩ := Kd.S_form HO_3.out (by have h_ : ((rd x4_2 x82_3) : Int) < ((x3_3.length : Int) : Int) := dT; have h2_ : 0 ≤ ((rd x4_2 x82_3) : Int) := (dT); omega)
                 (first | cases eo79 | (injection eo79 with ea_ en_ ec_; (first | subst ea_ | (injection ea_ with ea_; subst ea_)); subst ec_; clear en_))
                 have GB79 := am gb79; have GG79 := am HG79; clear gb79 gl79 HG79
                 (first | simp only [add_plain] at hx521_0 | skip)
                 obtain ⟨oki79, ce79, hcl79, hM79, hcc79, _, _, hH79⟩ := Kd.S_elem HO_3.out [] ((rd x4_2 x82_3) : Int) (dT) (by have h_ : ((rd x4_2 x82_3) : Int) < ((x3_3.length : Int) : Int) := dT; first | exact h_ | (have e_ := (Kd.S_reads' HO_3.out).1; omega) | simpa using h_); obtain ⟨ve79_0, rfl, ge79_0⟩ := hM79; have hv79 := hcc79 0 _ rfl; have hX79 := HX521_0.out
                 (try simp only [add_plain] at hX79)
                 (try simp only [Nat.add_zero] at hv79)
                 (try rw [show ((Kd.slice 3 (Kd.int .i64))).sz = 1 from rfl, Nat.mul_one] at hv79)
                 replace hv79 := Option.some.inj (hv79.symm.trans hX79); subst hv79; clear hX79 hcc79 hcl79; have UU79 := am (show Kd.R (Kd.int .i64) 3 _ w.heap.size oki79 (.slice A521_0 (rd_L2 x3_3 (rd x4_2 x82_3)).length c521_0) (rd_L2 x3_3 (rd x4_2 x82_3)) from ge79_0); have HH79 := am hH79; have HN79 := am (Kd.S_reads' HO_3.out).1; clear hH79 ge79_0
                 go_wp2_with (first | ((with_reducible refine gate_builtin (b := .append) (xs := #[.tmp 92, .tmp 94]) rfl ?_); at_builtin; refine Kd.R_append (Kd.int .i64) (w0 := w) w.heap.size rfl (.tmp 92) (.tmp 94) 32 3 (.int .i64 0) 8 rfl Try.underlying32 info3 rfl (by decide) (by omega) (.slice A521_0 (rd_L2 x3_3 (rd x4_2 x82_3)).length c521_0) (rd_L2 x3_3 (rd x4_2 x82_3)) x82_3 [.int .i64 x82_3] (fun k_ => oki79 k_ ∨ ((fun k_ => some k_ ≠ (.slice (some ad520) x4_2.length co11 : Value).ownBlock)) k_ ∧ wr.heap.size ≤ k_) (fun _ => False) rfl rfl ?aP (fun _ hk => hk.elim) ?aF ?aO ?aB ?aS ?aL ?_; (case aP => exact rfl); (case aB => exact (Bq)); (case aF => exact (fun k_ hk => .inr ⟨Kd.fresh' (Kd.R_lt (Rz HO_80.out)) k_ hk, hk⟩)); (case aO => exact (Rz (Kd.R_mono UU79.out (fun _ hk => .inl hk)))); (case aS => exact (below_size (w := w) (Bq))); (case aL => have := LMc76.out; omega); intro v523 w80 ho hb hg hat; rw [← Ny522.out] at ho; have n0_ := am (Kd.R_grown2 (Rz HO_80.out) rfl hg (fun k_ e_ => (HL521_0.out.1 k_ e_).1)); have n1_ := am (blk_grown (g := gb493) (o := .cells #[.slice A0 l0.length c0] 35 (0, 0)) (Kz BK493.out) hg (Kd.R_ne HL521_0.out BK493.out (by decide))); have n2_ := am (hb); have n3_ := am (Kd.H_grown (Kd.H_widen (by repeat (first | exact HH79.out | refine Kd.H_alloc ?_ _ | refine Kd.H_drewN ?_ _ | refine Kd.H_drew ?_))) hg (fun k_ e_ => .inl (UU79.out.1 k_ e_))); have n4_ := am (ho); clear HO_80 BK493 HB HH79 HO_3 UU79 HL521_0; revert n0_ n1_ n2_ n3_ n4_; intro HO_80 BK493 HB HH79 HO524; clear ho hb hg hat; have p77 : 0 ≤ ((rd x4_2 x82_3) : Int) := dT; have q77 : ((rd x4_2 x82_3) : Int) < ((x3_3.length : Int) : Int) := dT; replace p77 := eq_true p77; replace q77 := eq_true q77; obtain ⟨Ao83, co83, eo83⟩ := Kd.R_slice HO524.out; subst eo83; obtain ⟨_, _, hraw81, _, _, hcc81, _⟩ := Kd.H_raw HH79.out (dT) (by have h_ : ((rd x4_2 x82_3) : Int) < ((x3_3.length : Int) : Int) := dT; first | exact h_ | (have e_ := (HN79.out); omega) | simpa using h_); obtain ⟨_, hfr81⟩ := Kd.H_at HH79.out (dT) (by have h_ : ((rd x4_2 x82_3) : Int) < ((x3_3.length : Int) : Int) := dT; first | exact h_ | (have e_ := (HN79.out); omega) | simpa using h_); have hx81_0 := hcc81 0 _ rfl; have hf81_0 := hfr81 0; (try simp only [Nat.add_zero] at hx81_0 hf81_0); (try rw [show ((Kd.slice 3 (Kd.int .i64))).sz = 1 from rfl, Nat.mul_one] at hx81_0); (try rw [show ((Kd.slice 3 (Kd.int .i64))).sz = 1 from rfl, Nat.mul_one] at hf81_0); have HP81 := Kd.S_seg0 HH79.out (dT) (by have h_ : ((rd x4_2 x82_3) : Int) < ((x3_3.length : Int) : Int) := dT; first | exact h_ | (have e_ := (HN79.out); omega) | simpa using h_) (seg := [.slice Ao83 y522.length co83]) (j := 0) (show 1 ≤ 1 from by decide) (x' := y522) (Kd.M_row HO524.out) (fun _ hk => hk); (try simp only [show ((Kd.slice 3 (Kd.int .i64))).sz = 1 from rfl, Nat.mul_one, Nat.add_zero] at HP81); clear hcc81 hfr81) | ((with_reducible refine gate_store (t := 32) (p := 96) rfl ?_); refine store_event (t := 32) (p := 96) (v := ?vo_w82) (w1 := (w80.setCell ⟨go79, ((rd x4_2 x82_3) : Int).toNat, none⟩ (.slice Ao83 y522.length co83))) ?hg ?ho ?hn ?hr ?_; (case ho => rfl); (case hg => rfl); (case hn => rfl); (case hr => first | (go_simp; done) | (go_simp; rfl)); intro w82 hw; have hg : w80.grownBy w82 (some go79) := (by rw [hw]; exact HP81.2); have hp_ : Kd.S (Kd.slice 3 (Kd.int .i64)) 32 w82 w.heap.size (fun k_ => some k_ ≠ (.slice (some ad520) x4_2.length co11 : Value).ownBlock) (.slice (some ⟨go79, 0, none⟩) x3_3.length co78) y525 := (by rw [hw, Ny525.out]; exact HP81.1); clear HP81; have n0_ := am (Kd.R_over' (v := (.slice (some ⟨go79, 0, none⟩) x3_3.length co78)) (Rz HO_80.out) (Kd.R_typed hraw81) (by decide) hg); have n1_ := am (blk_grown (g := gb493) (o := .cells #[.slice A0 l0.length c0] 35 (0, 0)) (Kz BK493.out) hg (Kd.R_ne hraw81 BK493.out (by decide))); have n2_ := am ((by rw [hw]; exact below_set HB.out GB79.out : Below w.heap.size w w82)); have n3_ := am (hp_); clear HO_80 BK493 HB HO524 HH79; revert n0_ n1_ n2_ n3_; intro HO_80 BK493 HB HO_3; clear hg hw hp_ hraw81))
                 go_roundg k3
                 case measure => have := HK1.out; have := HK2.out; have := HK3.out; omega
                 case rel => exact ⟨(y525), (wrap64 (x82_3 + 1)), wZ, H', ⟨by have := HK1.out; have := HK2.out; have := HK3.out; omega⟩, ⟨by (try simp only [hl4_1]); (try simp only [hl4_2]); (with_reducible repeat (first | apply Kd.S_alloc | apply Kd.S_drewN | apply Kd.S_drew)); exact HO_3.out⟩, ⟨by (try simp only [hl4_1]); (try simp only [hl4_2]); (with_reducible repeat (first | apply Kd.R_alloc | apply Kd.R_drewN | apply Kd.R_drew)); exact HO_80.out⟩, ⟨by (try simp only [hl4_1]); (try simp only [hl4_2]); (with_reducible repeat (first | refine blk_drewN ?_ _ | refine blk_drew ?_ | refine blk_alloc ?_ _)); exact BK493.out⟩, ⟨Bq⟩⟩
                ·rw [if_neg c76] at H
                 exact absurd H (by simp)
               ·rw [if_neg c75] at H
                exact absurd H (by simp)
              ·rw [if_neg c74] at H
               exact absurd H (by simp)
             ·rw [if_neg c73] at H
              exact absurd H (by simp)
            ·rw [if_neg c72] at H
             exact absurd H (by simp)
           ·rw [if_neg c71] at H
            have c71b0 : decide (x82_3 < (x4_2.length : Int)) = false := decide_eq_false c71; (try simp only [hl4_1, hl4_2] at c71b0); clear c71; obtain rfl := Option.some.inj H
            go_wp2
            go_ret
            exact ⟨_, eZ, by (with_reducible repeat (first | apply Kd.S_alloc | apply Kd.S_drewN | apply Kd.S_drew)); exact Kd.S_mono HO_3.out (fun _ hk => trivial), Bq⟩
  ·rw [if_neg c3] at H
   exact absurd H (by simp)
 ·rw [if_neg c2] at H
  exact absurd H (by simp)

def impl_HyperParts.f (k : Nat) (a0_0 : Int) (l0_1 : List (List Int)) : Option ((List (List Int)) × Bool) := (impl_IsHyper.f k a0_0 l0_1).bind fun t527 => (if t527 = true then ((impl_groups.f k l0_1).bind fun t528 => (some (t528, true))) else (some (([] : List (List Int)), false)))
theorem impl_HyperParts.calls (k : Nat) (a0_0 : Int) (A0_1 : Option Addr) (c0_1 : Nat) (l0_1 : List (List Int)) (r1 : List (List Int)) (r2 : Bool) (w : World) (hr0_1 : Kd.C (Kd.slice 3 (Kd.int .i64)) w A0_1 l0_1.length l0_1) (hc0_1 : l0_1.length ≤ c0_1) (h : impl_HyperParts.f k a0_0 l0_1 = some (r1, r2)) :
  Calls Try.prog 34 #[.agg #[.int .i64 a0_0, .slice A0_1 l0_1.length c0_1]] w fun e w' => ∃ v0_ : Value, e = .returned (.tuple #[v0_, .bool r2]) ∧ Kd.S (Kd.slice 3 (Kd.int .i64)) 32 w' w.heap.size (fun _ => True) v0_ r1 ∧ Below w.heap.size w w' := by
 have hu37 := Try.underlying37; have HR0_1 := am hr0_1; have HC0_1 := am hc0_1; clear hr0_1 hc0_1; have HB := am (Below.refl w.heap.size w); have H : ((impl_IsHyper.f k a0_0 l0_1).bind fun t527 => (if t527 = true then ((impl_groups.f k l0_1).bind fun t528 => (some (t528, true))) else (some (([] : List (List Int)), false)))) = some (r1, r2) := h; clear h; replace H := Option.bind_eq_some_iff.mp H; obtain ⟨t527, A20, H⟩ := H; (try dsimp -simprocs only at H); have A2 := am A20; clear A20
 by_cases c3 : t527 = true
 ·subst c3
  rw [if_pos rfl] at H; replace H := Option.bind_eq_some_iff.mp H; obtain ⟨t528, A40, H⟩ := H; (try dsimp -simprocs only at H); have A4 := am A40; clear A40
  simp only [Option.some.injEq, Prod.mk.injEq] at H
  obtain ⟨rfl, rfl⟩ := H
  go_enter Try.func34, Try.ntmps34
  go_wp2_with (first | ((with_reducible refine gate_dst (N := 1) rfl ?_); refine bE 1 #[.int .i64 a0_0, .slice A0_1 l0_1.length c0_1] 37 ?_; intro gb526 hg w5 hbox hb; have n0_ := Bb HB hb; have n1_ := am (hbox); have n2_ := Gl HB hg; have n3_ := Gl HB hg; clear HB; revert n0_ n1_ n2_ n3_; intro HB BK526 GW526 GE526; clear hb hbox hg; obtain ⟨hcz6_0, hcz6_1, hfz6_0, hfz6_1⟩ := cf2 (w := w5) BK526) | ((with_reducible refine gate_callee (f := 42) rfl ?_); refine gL (some 5) Try.func42 #[.agg #[.int .i64 a0_0, .slice A0_1 l0_1.length c0_1]] ?_; (with_reducible refine (impl_IsHyper.calls k a0_0 _ _ l0_1 true _ ?side1 ?side2 A2.out).mono ?_); (case side1 => exact Cz (Kd.C_below HR0_1.out HB.out)); (case side2 => exact HC0_1.out); rintro e w7 ⟨rfl, hb⟩; refine ⟨_, rfl, ?_⟩; have n0_ := Kb BK526 hb; have n1_ := Bc HB hb; clear BK526 HB; revert n0_ n1_; intro BK526 HB; (try clear hb); (try clear hb2); (try clear hk); (try clear hi); obtain ⟨hcz8_0, hcz8_1, hfz8_0, hfz8_1⟩ := cf2 (w := w7) BK526) | ((with_reducible refine gate_callee (f := 108) rfl ?_); refine gL (some 9) Try.func108 #[.slice A0_1 l0_1.length c0_1] ?_; (with_reducible refine (impl_groups.calls k _ _ l0_1 t528 _ ?side1 ?side2 A4.out).mono ?_); (case side1 => exact Cz (Kd.C_below HR0_1.out HB.out)); (case side2 => exact HC0_1.out); rintro e w9 ⟨v529, rfl, ho0, hb⟩; refine ⟨_, rfl, ?_⟩; have n0_ := am (Kd.S_lower ho0 (below_size (w := w) (Bq))); have n1_ := Kb BK526 hb; have n2_ := Bc HB hb; clear BK526 HB; revert n0_ n1_ n2_; intro HO530 BK526 HB; (try clear hb); (try clear hb2); (try clear hk); (try clear hi); (try clear ho0)))
  go_ret2
  exact ⟨_, eZ, by (with_reducible repeat (first | apply Kd.S_alloc | apply Kd.S_drewN | apply Kd.S_drew)); exact HO530.out, Bq⟩
 ·replace c3 := Bool.eq_false_iff.mpr c3
  subst c3
  rw [if_neg (show ¬ (false = true) by decide)] at H
  simp only [Option.some.injEq, Prod.mk.injEq] at H
  obtain ⟨rfl, rfl⟩ := H
  go_enter Try.func34, Try.ntmps34
  go_wp2_with (first | ((with_reducible refine gate_dst (N := 1) rfl ?_); refine bE 1 #[.int .i64 a0_0, .slice A0_1 l0_1.length c0_1] 37 ?_; intro gb526 hg w10 hbox hb; have n0_ := Bb HB hb; have n1_ := am (hbox); have n2_ := Gl HB hg; have n3_ := Gl HB hg; clear HB; revert n0_ n1_ n2_ n3_; intro HB BK526 GW526 GE526; clear hb hbox hg; obtain ⟨hcz11_0, hcz11_1, hfz11_0, hfz11_1⟩ := cf2 (w := w10) BK526) | ((with_reducible refine gate_callee (f := 42) rfl ?_); refine gL (some 5) Try.func42 #[.agg #[.int .i64 a0_0, .slice A0_1 l0_1.length c0_1]] ?_; (with_reducible refine (impl_IsHyper.calls k a0_0 _ _ l0_1 false _ ?side1 ?side2 A2.out).mono ?_); (case side1 => exact Cz (Kd.C_below HR0_1.out HB.out)); (case side2 => exact HC0_1.out); rintro e w12 ⟨rfl, hb⟩; refine ⟨_, rfl, ?_⟩; have n0_ := Kb BK526 hb; have n1_ := Bc HB hb; clear BK526 HB; revert n0_ n1_; intro BK526 HB; (try clear hb); (try clear hb2); (try clear hk); (try clear hi)))
  go_ret2
  exact ⟨_, eZ, by first | exact Kd.S_nil _ _ _ _ _ | exact Kd.N_nil _ _ _ _ _ | exact Kd.V_nil _ _ _ _ _ | exact Kd.Q_nil _ _ _ _ _ | exact Kd.R_nil _ _ _ _ _, Bq⟩

mutual
def impl_EdgesAt.j0 : Nat → Int → Bool → Int → List (List Int) → Option (List Int × Bool)
 | 0, _, _, _, _ => none
 | k + 1, x1, x19, x532000, x532001 => if x19 = true then (some (([] : List Int), false)) else (impl_EdgesAt.l0 k x1 (([] : List Int)) x532001 (x532001.length : Int) 0)
def impl_EdgesAt.l0 : Nat → Int → List Int → List (List Int) → Int → Int → Option (List Int × Bool)
 | 0, _, _, _, _, _ => none
 | k + 1, x1, x6, x22, x23, x24 => if x24 < x23 then (if 0 ≤ x24 then (if x24 < (x22.length : Int) then ((slices_Contains_int_int.f k (rd_L2 x22 x24) x1).bind fun t538 => (if t538 = true then (if x6.length < 17592186044416 then (impl_EdgesAt.l0 k x1 (x6 ++ [x24]) x22 x23 (wrap64 (x24 + 1))) else (none)) else (impl_EdgesAt.l0 k x1 x6 x22 x23 (wrap64 (x24 + 1))))) else (none)) else (none)) else (some (x6, true))
end
def impl_EdgesAt.f (k : Nat) (a0_0 : Int) (l0_1 : List (List Int)) (a1 : Int) : Option (List Int × Bool) := (impl_IsHyper.f k a0_0 l0_1).bind fun t532 => (if t532 = true then ((impl_in.f a1 0 (wrap64 (a0_0 - 1))).bind fun t533 => (impl_EdgesAt.j0 k a1 (!t533) a0_0 l0_1)) else (impl_EdgesAt.j0 k a1 true a0_0 l0_1))
theorem impl_EdgesAt.calls (k : Nat) (a0_0 : Int) (A0_1 : Option Addr) (c0_1 : Nat) (l0_1 : List (List Int)) (a1 : Int) (r1 : List Int) (r2 : Bool) (w : World) (hr0_1 : Kd.C (Kd.slice 3 (Kd.int .i64)) w A0_1 l0_1.length l0_1) (hc0_1 : l0_1.length ≤ c0_1) (h : impl_EdgesAt.f k a0_0 l0_1 a1 = some (r1, r2)) :
  Calls Try.prog 35 #[.agg #[.int .i64 a0_0, .slice A0_1 l0_1.length c0_1], .int .i64 a1] w fun e w' => ∃ v0_ : Value, e = .returned (.tuple #[v0_, .bool r2]) ∧ Kd.R (Kd.int .i64) 3 w' w.heap.size (fun _ => True) v0_ r1 ∧ Below w.heap.size w w' := by
 have hu37 := Try.underlying37; have HR0_1 := am hr0_1; have HC0_1 := am hc0_1; clear hr0_1 hc0_1; have HB := am (Below.refl w.heap.size w); have H : ((impl_IsHyper.f k a0_0 l0_1).bind fun t532 => (if t532 = true then ((impl_in.f a1 0 (wrap64 (a0_0 - 1))).bind fun t533 => (impl_EdgesAt.j0 k a1 (!t533) a0_0 l0_1)) else (impl_EdgesAt.j0 k a1 true a0_0 l0_1))) = some (r1, r2) := h; clear h; have HC3 := am H; clear H
 go_enter Try.func35, Try.ntmps35
 go_upto_region 1 with (first | ((with_reducible refine gate_dst (N := 2) rfl ?_); refine bE 2 #[.int .i64 a0_0, .slice A0_1 l0_1.length c0_1] 37 ?_; intro gb531 hg w4 hbox hb; have n0_ := Bb HB hb; have n1_ := am (hbox); have n2_ := Gl HB hg; have n3_ := Gl HB hg; clear HB; revert n0_ n1_ n2_ n3_; intro HB BK531 GW531 GE531; clear hb hbox hg))
 (try simp only [aP])
 go_cut [19] (fun v19 wc => ∃ (kq : Nat) (x19_2 : Bool), v19 = .bool x19_2 ∧ Aside0 (impl_EdgesAt.j0 kq a1 x19_2 a0_0 l0_1 = some (r1, r2)) ∧ Aside0 (kq ≤ k) ∧ Aside0 (wc.heap[gb531]? = some (.cells #[.int .i64 a0_0, (.slice A0_1 l0_1.length c0_1)] 37 (0, 0))) ∧ Aside0 (Below w.heap.size w wc))
 case first =>
  have H := HC3.out; clear HC3; replace H := Option.bind_eq_some_iff.mp H; obtain ⟨t532, A50, H⟩ := H; (try dsimp -simprocs only at H); have A5 := am A50; clear A50
  by_cases c6 : t532 = true
  ·subst c6
   rw [if_pos rfl] at H; replace H := Option.bind_eq_some_iff.mp H; obtain ⟨t533, A70, H⟩ := H; (try dsimp -simprocs only at H); have A7 := am A70; clear A70; have H' := am H; clear H; obtain ⟨hcz8_0, hcz8_1, hfz8_0, hfz8_1⟩ := cf2 (w := w4) BK531
   go_wp2_with (first | ((with_reducible refine gate_callee (f := 42) rfl ?_); refine gL (some 10) Try.func42 #[.agg #[.int .i64 a0_0, .slice A0_1 l0_1.length c0_1]] ?_; (with_reducible refine (impl_IsHyper.calls k a0_0 _ _ l0_1 true _ ?side1 ?side2 A5.out).mono ?_); (case side1 => exact Cz (Kd.C_below HR0_1.out HB.out)); (case side2 => exact HC0_1.out); rintro e w9 ⟨rfl, hb⟩; refine ⟨_, rfl, ?_⟩; have n0_ := Kb BK531 hb; have n1_ := Bc HB hb; clear BK531 HB; revert n0_ n1_; intro BK531 HB; (try clear hb); (try clear hb2); (try clear hk); (try clear hi); obtain ⟨hcz10_0, hcz10_1, hfz10_0, hfz10_1⟩ := cf2 (w := w9) BK531) | (go_at_call 70; (with_reducible refine (impl_in.calls a1 0 (wrap64 (a0_0 - 1)) t533 _ A7.out).mono ?_); rintro e w' ⟨rfl, ⟨nd, rfl⟩⟩))
   go_meet
   case rel => exact ⟨_, (!t533), wZ, H', ⟨by first | omega | exact Nat.le_refl _⟩, ⟨Kz BK531.out⟩, ⟨Bq⟩⟩
  ·replace c6 := Bool.eq_false_iff.mpr c6
   subst c6
   rw [if_neg (show ¬ (false = true) by decide)] at H; have H' := am H; clear H; obtain ⟨hcz11_0, hcz11_1, hfz11_0, hfz11_1⟩ := cf2 (w := w4) BK531
   go_wp2_with (first | ((with_reducible refine gate_callee (f := 42) rfl ?_); refine gL (some 10) Try.func42 #[.agg #[.int .i64 a0_0, .slice A0_1 l0_1.length c0_1]] ?_; (with_reducible refine (impl_IsHyper.calls k a0_0 _ _ l0_1 false _ ?side1 ?side2 A5.out).mono ?_); (case side1 => exact Cz (Kd.C_below HR0_1.out HB.out)); (case side2 => exact HC0_1.out); rintro e w12 ⟨rfl, hb⟩; refine ⟨_, rfl, ?_⟩; have n0_ := Kb BK531 hb; have n1_ := Bc HB hb; clear BK531 HB; revert n0_ n1_; intro BK531 HB; (try clear hb); (try clear hb2); (try clear hk); (try clear hi)))
   go_meet
   case rel => exact ⟨_, (true), wZ, H', ⟨by first | omega | exact Nat.le_refl _⟩, ⟨Kz BK531.out⟩, ⟨Bq⟩⟩
 case rest =>
  clear HC3
  try clear p2
  try clear c3
  try clear c4
  try clear c6
  try clear p6
  try clear hcz10_0
  try clear hcz10_1
  try clear hcz11_0
  try clear hcz11_1
  try clear hcz8_0
  try clear hcz8_1
  try clear hfz10_0
  try clear hfz10_1
  try clear hfz11_0
  try clear hfz11_1
  try clear hfz8_0
  try clear hfz8_1
  obtain ⟨kq, x19_2, rfl, HA, HJ2, BK531, HB⟩ := hcut; cases kq with
  | zero => exact absurd HA.out (by simp [impl_EdgesAt.j0])
  | succ kj2 =>
   have H := HA.out; clear HA
   simp only [impl_EdgesAt.j0] at H
   by_cases c13 : x19_2 = true
   ·subst c13
    rw [if_pos rfl] at H
    simp only [Option.some.injEq, Prod.mk.injEq] at H
    obtain ⟨rfl, rfl⟩ := H
    go_wp2
    go_ret2
    exact ⟨_, eZ, nZ, Bq⟩
   ·replace c13 := Bool.eq_false_iff.mpr c13
    subst c13
    rw [if_neg (show ¬ (false = true) by decide)] at H; obtain ⟨y534, hy534⟩ : ∃ y_ : List Int, y_ = (([] : List Int)) := ⟨_, rfl⟩
    replace H : (impl_EdgesAt.l0 kj2 a1 y534 l0_1 (l0_1.length : Int) 0) = some (r1, r2) := by first | (rw [hy534]; with_reducible exact H) | (have H2_ := (Option.bind_some _ _).symm.trans H; rw [hy534]; with_reducible exact H2_) | (have H2_ := (Option.bind_some _ _).symm.trans H; with_reducible exact H2_) | with_reducible exact H | (rw [hy534]; exact H) | exact H
    have Ny534 := am hy534; clear hy534; have H' := am H; clear H
    go_wp2_with (first | ((with_reducible refine gate_dst (N := 20) rfl ?_); refine Kd.R_lit (Kd.int .i64) _ 3 ?hg (N := 20) ?hd (xs := ([] : List Int)) (inner := []) (ok := fun _ => True) (okp := fun _ => True) ?hr ?hp (fun _ hk => hk) trivial (Below.refl _ _) (Nat.le_refl _) (by simp) ?_; (case hd => rfl); (case hg => rfl); (case hr => first | (go_simp; done) | (go_simp; rfl)); (case hp => exact (Reps.none _ _)); intro v535 w14 ho15 hb hg_ hnew_; clear hg_ hnew_; (first | rw [← Ny534.out] at ho15 | (simp only [Int.reduceToNat] at ho15; rw [← Ny534.out] at ho15)); have n0_ := Rm ho15 HB; have n1_ := Kb BK531 hb; have n2_ := Bc HB hb; clear BK531 HB; revert n0_ n1_ n2_; intro HO536 BK531 HB; clear hb ho15; obtain ⟨hcz16_0, hcz16_1, hfz16_0, hfz16_1⟩ := cf2 (w := w14) BK531))
    (try simp only [aP])
    go_loopg [6, 24] kj2 (fun kq v6 v24 w' => ∃ (x6_2 : List Int) (x24_2 : Int), v24 = .int .i64 x24_2 ∧ Aside0 (impl_EdgesAt.l0 kq a1 x6_2 l0_1 (l0_1.length : Int) x24_2 = some (r1, r2)) ∧ Aside0 (kq ≤ kj2) ∧ Aside0 (Kd.R (Kd.int .i64) 3 w' w.heap.size (fun _ => True) v6 x6_2) ∧ Aside0 (w'.heap[gb531]? = some (.cells #[.int .i64 a0_0, (.slice A0_1 l0_1.length c0_1)] 37 (0, 0))) ∧ Aside0 (Below w.heap.size w w'))
    case atStart => exact ⟨(y534), (0), wZ, H', ⟨Nat.le_refl _⟩, ⟨Rz HO536.out⟩, ⟨Kz BK531.out⟩, ⟨Bq⟩⟩
    case round =>
     clear H'
     try clear c1
     try clear p2
     try clear c3
     try clear c4
     try clear c6
     try clear p6
     try clear c13
     try clear hcz10_0
     try clear hcz10_1
     try clear hcz11_0
     try clear hcz11_1
     try clear hcz16_0
     try clear hcz16_1
     try clear hcz8_0
     try clear hcz8_1
     try clear hfz10_0
     try clear hfz10_1
     try clear hfz11_0
     try clear hfz11_1
     try clear hfz16_0
     try clear hfz16_1
     try clear hfz8_0
     try clear hfz8_1
     try clear p2
     try clear p6
     obtain ⟨x6_2, x24_2, rfl, HA, HK2, HO_6, BK531, HB⟩ := hrel; cases gk with
     | zero => exact absurd HA.out (by simp [impl_EdgesAt.l0])
     | succ k2 =>
      have H := HA.out; clear HA
      simp only [impl_EdgesAt.l0] at H
      by_cases c17 : x24_2 < (l0_1.length : Int)
      ·rw [if_pos c17] at H
       have c17b0 : decide (x24_2 < (l0_1.length : Int)) = true := decide_eq_true c17; clear c17
       by_cases c18 : 0 ≤ x24_2
       ·rw [if_pos c18] at H
        have c18b0 : decide (0 ≤ x24_2) = true := decide_eq_true c18; clear c18
        by_cases c19 : x24_2 < (l0_1.length : Int)
        ·rw [if_pos c19] at H
         have c19b0 : decide (x24_2 < (l0_1.length : Int)) = true := decide_eq_true c19; clear c19; replace H := Option.bind_eq_some_iff.mp H; obtain ⟨t538, A200, H⟩ := H; (try dsimp -simprocs only at H); have A20 := am A200; clear A200
         by_cases c21 : t538 = true
         ·subst c21
          rw [if_pos rfl] at H
          by_cases c22 : x6_2.length < 17592186044416
          ·rw [if_pos c22] at H
           have LMc22 := am c22; clear c22; obtain ⟨y539, hy539⟩ : ∃ y_ : List Int, y_ = (x6_2 ++ [x24_2]) := ⟨_, rfl⟩
           replace H : (impl_EdgesAt.l0 k2 a1 y539 l0_1 (l0_1.length : Int) (wrap64 (x24_2 + 1))) = some (r1, r2) := by first | (rw [hy539]; with_reducible exact H) | (have H2_ := (Option.bind_some _ _).symm.trans H; rw [hy539]; with_reducible exact H2_) | (have H2_ := (Option.bind_some _ _).symm.trans H; with_reducible exact H2_) | with_reducible exact H | (rw [hy539]; exact H) | exact H
           have Ny539 := am hy539; clear hy539; have H' := am H; clear H; have p537 : 0 ≤ (x24_2 : Int) := dT; have q537 : x24_2 < (l0_1.length : Int) := dT; obtain ⟨ad537, A537_0, c537_0, e537, hx537_0, hl537_0, hi537_0⟩ := at_L2 HR0_1.out x24_2 p537 q537; cases e537; replace hx537_0 := (HB.out.cell (World.block_lt_of_cell? w _ hx537_0)).trans hx537_0; have HR537_0 := am hi537_0; have HC537_0 := am hl537_0; clear hi537_0 hl537_0; replace p537 := eq_true p537; replace q537 := eq_true q537
           go_wp2_with (first | ((with_reducible refine gate_callee (f := 109) rfl ?_); refine gL (some 31) Try.func109 #[.slice A537_0 (rd_L2 l0_1 x24_2).length c537_0, .int .i64 a1] ?_; (with_reducible refine (slices_Contains_int_int.calls k2 _ _ (rd_L2 l0_1 x24_2) a1 true _ ?side1 ?side2 A20.out).mono ?_); (case side1 => exact Cz (Kd.C_below HR537_0.out HB.out)); (case side2 => exact HC537_0.out); rintro e w' ⟨rfl, ⟨nd, rfl⟩⟩; refine ⟨_, rfl, ?_⟩) | ((with_reducible refine gate_builtin (b := .append) (xs := #[.tmp 32, .tmp 34]) rfl ?_); at_builtin; refine Kd.R_append (Kd.int .i64) (w0 := w) w.heap.size rfl (.tmp 32) (.tmp 34) 32 3 (.int .i64 0) 8 rfl Try.underlying32 info3 rfl (by decide) (by omega) u6 x6_2 x24_2 [.int .i64 x24_2] (fun _ => True) (fun _ => False) rfl rfl ?aP (fun _ hk => hk.elim) ?aF ?aO ?aB ?aS ?aL ?_; (case aP => exact rfl); (case aB => exact (Bq)); (case aF => exact (fun _ _ => trivial)); (case aO => exact (Rz HO_6.out)); (case aS => exact (below_size (w := w) (Bq))); (case aL => have := LMc22.out; omega); intro v540 w23 ho hb hg hat; rw [← Ny539.out] at ho; have n0_ := am (blk_grown (g := gb531) (o := .cells #[.int .i64 a0_0, .slice (some ad537) l0_1.length c0_1] 37 (0, 0)) (Kz BK531.out) hg (Kd.R_ne HO_6.out BK531.out (by decide))); have n1_ := am (hb); have n2_ := am (ho); clear BK531 HB HO_6; revert n0_ n1_ n2_; intro BK531 HB HO541; clear ho hb hg hat))
           go_roundg k2
           case measure => have := HJ2.out; have := HK2.out; omega
           case rel => exact ⟨(y539), (wrap64 (x24_2 + 1)), wZ, H', ⟨by have := HJ2.out; have := HK2.out; omega⟩, ⟨Rz HO541.out⟩, ⟨Kz BK531.out⟩, ⟨Bq⟩⟩
          ·rw [if_neg c22] at H
           exact absurd H (by simp)
         ·replace c21 := Bool.eq_false_iff.mpr c21
          subst c21
          rw [if_neg (show ¬ (false = true) by decide)] at H; have H' := am H; clear H; have p537 : 0 ≤ (x24_2 : Int) := dT; have q537 : x24_2 < (l0_1.length : Int) := dT; obtain ⟨ad537, A537_0, c537_0, e537, hx537_0, hl537_0, hi537_0⟩ := at_L2 HR0_1.out x24_2 p537 q537; cases e537; replace hx537_0 := (HB.out.cell (World.block_lt_of_cell? w _ hx537_0)).trans hx537_0; have HR537_0 := am hi537_0; have HC537_0 := am hl537_0; clear hi537_0 hl537_0; replace p537 := eq_true p537; replace q537 := eq_true q537
          go_wp2_with (first | ((with_reducible refine gate_callee (f := 109) rfl ?_); refine gL (some 31) Try.func109 #[.slice A537_0 (rd_L2 l0_1 x24_2).length c537_0, .int .i64 a1] ?_; (with_reducible refine (slices_Contains_int_int.calls k2 _ _ (rd_L2 l0_1 x24_2) a1 false _ ?side1 ?side2 A20.out).mono ?_); (case side1 => exact Cz (Kd.C_below HR537_0.out HB.out)); (case side2 => exact HC537_0.out); rintro e w' ⟨rfl, ⟨nd, rfl⟩⟩; refine ⟨_, rfl, ?_⟩))
          go_roundg k2
          case measure => have := HJ2.out; have := HK2.out; omega
          case rel => exact ⟨(x6_2), (wrap64 (x24_2 + 1)), wZ, H', ⟨by have := HJ2.out; have := HK2.out; omega⟩, ⟨Rz HO_6.out⟩, ⟨Kz BK531.out⟩, ⟨Bq⟩⟩
        ·rw [if_neg c19] at H
         exact absurd H (by simp)
       ·rw [if_neg c18] at H
        exact absurd H (by simp)
      ·rw [if_neg c17] at H
       have c17b0 : decide (x24_2 < (l0_1.length : Int)) = false := decide_eq_false c17; clear c17
       simp only [Option.some.injEq, Prod.mk.injEq] at H
       obtain ⟨rfl, rfl⟩ := H
       go_wp2
       go_ret2
       exact ⟨_, eZ, Rz HO_6.out, Bq⟩

-- BY HAND: function 110 (slices_Delete_int_int)

def impl_WithoutEdge.f (k : Nat) (a0_0 : Int) (l0_1 : List (List Int)) (a1 : Int) : Option (Int × (List (List Int)) × Bool) := (impl_IsHyper.f k a0_0 l0_1).bind fun t544 => (if t544 = true then ((impl_in.f a1 0 (wrap64 ((l0_1.length : Int) - 1))).bind fun t545 => (if t545 = true then ((impl_cloneHyper.f k a0_0 l0_1).bind fun bt546 => ((slices_Delete_int_int.f bt546.2 a1 (wrap64 (a1 + 1))).bind fun t999 => (some (bt546.1, t999, true)))) else (some (0, ([] : List (List Int)), false)))) else (some (0, ([] : List (List Int)), false)))
theorem impl_WithoutEdge.calls (k : Nat) (a0_0 : Int) (A0_1 : Option Addr) (c0_1 : Nat) (l0_1 : List (List Int)) (a1 : Int) (r1 : Int) (r2 : List (List Int)) (r3 : Bool) (w : World) (hr0_1 : Kd.C (Kd.slice 3 (Kd.int .i64)) w A0_1 l0_1.length l0_1) (hc0_1 : l0_1.length ≤ c0_1) (h : impl_WithoutEdge.f k a0_0 l0_1 a1 = some (r1, r2, r3)) :
  Calls Try.prog 36 #[.agg #[.int .i64 a0_0, .slice A0_1 l0_1.length c0_1], .int .i64 a1] w fun e w' => ∃ v1_ : Value, e = .returned (.tuple #[.agg #[.int .i64 r1, v1_], .bool r3]) ∧ Kd.S (Kd.slice 3 (Kd.int .i64)) 32 w' w.heap.size (fun _ => True) v1_ r2 ∧ Below w.heap.size w w' := by
 have hu37 := Try.underlying37; have HR0_1 := am hr0_1; have HC0_1 := am hc0_1; clear hr0_1 hc0_1; have HB := am (Below.refl w.heap.size w); have H : ((impl_IsHyper.f k a0_0 l0_1).bind fun t544 => (if t544 = true then ((impl_in.f a1 0 (wrap64 ((l0_1.length : Int) - 1))).bind fun t545 => (if t545 = true then ((impl_cloneHyper.f k a0_0 l0_1).bind fun bt546 => ((slices_Delete_int_int.f bt546.2 a1 (wrap64 (a1 + 1))).bind fun t999 => (some (bt546.1, t999, true)))) else (some (0, ([] : List (List Int)), false)))) else (some (0, ([] : List (List Int)), false)))) = some (r1, r2, r3) := h; clear h; replace H := Option.bind_eq_some_iff.mp H; obtain ⟨t544, A30, H⟩ := H; (try dsimp -simprocs only at H); have A3 := am A30; clear A30
 by_cases c4 : t544 = true
 ·subst c4
  rw [if_pos rfl] at H; replace H := Option.bind_eq_some_iff.mp H; obtain ⟨t545, A50, H⟩ := H; (try dsimp -simprocs only at H); have A5 := am A50; clear A50
  by_cases c6 : t545 = true
  ·subst c6
   rw [if_pos rfl] at H; replace H := Option.bind_eq_some_iff.mp H; obtain ⟨⟨t546, t547⟩, A70, H⟩ := H; (try dsimp -simprocs only at H); have A7 := am A70; clear A70; replace H := Option.bind_eq_some_iff.mp H; obtain ⟨t999, A990, H⟩ := H; (try dsimp -simprocs only at H); have A99 := am A990; clear A990
   simp only [Option.some.injEq, Prod.mk.injEq] at H
   obtain ⟨rfl, rfl, rfl⟩ := H
   go_enter Try.func36, Try.ntmps36
   go_wp2_with (first | ((with_reducible refine gate_dst (N := 2) rfl ?_); (try (refine gate_guard (by rfl) ?_; dsimp only)); refine bE 2 #[.int .i64 a0_0, .slice A0_1 l0_1.length c0_1] 37 ?_; intro gb542 hg w8 hbox hb; have n0_ := Bb HB hb; have n1_ := am (hbox); have n2_ := Gl HB hg; have n3_ := Gl HB hg; clear HB; revert n0_ n1_ n2_ n3_; intro HB BK542 GW542 GE542; clear hb hbox hg) | ((with_reducible refine gate_dst (N := 4) rfl ?_); (try (refine gate_guard (by rfl) ?_; dsimp only)); refine bE 4 #[.int .i64 0, .slice none 0 0] 37 ?_; intro gb543 hg w9 hbox hb; have n0_ := Kb BK542 hb; have n1_ := Bc HB hb; have n2_ := am (hbox); have n3_ := Gm HB hg; have n4_ := Gm HB hg; have n5_ := Nl BK542 hg; have n6_ := Ng BK542 hg; clear BK542 HB; revert n0_ n1_ n2_ n3_ n4_ n5_ n6_; intro BK542 HB BK543 GW543 GE543 NB542_543 NB543_542; clear hb hbox hg; have hnb10 := NB542_543.out; have hnc10 := NB543_542.out; obtain ⟨hcz11_0, hcz11_1, hfz11_0, hfz11_1⟩ := cf2 (w := w9) BK542) | ((with_reducible refine gate_callee (f := 42) rfl ?_); refine gL (some 8) Try.func42 #[.agg #[.int .i64 a0_0, .slice A0_1 l0_1.length c0_1]] ?_; (with_reducible refine (impl_IsHyper.calls k a0_0 _ _ l0_1 true _ ?side1 ?side2 A3.out).mono ?_); (case side1 => exact Cz (Kd.C_below HR0_1.out HB.out)); (case side2 => exact HC0_1.out); rintro e w12 ⟨rfl, hb⟩; refine ⟨_, rfl, ?_⟩; have n0_ := Kb BK542 hb; have n1_ := Kb BK543 hb; have n2_ := Bc HB hb; clear BK542 BK543 HB; revert n0_ n1_ n2_; intro BK542 BK543 HB; (try clear hb); (try clear hb2); (try clear hk); (try clear hi); obtain ⟨hcz13_0, hcz13_1, hfz13_0, hfz13_1⟩ := cf2 (w := w12) BK542) | (go_at_call 70; (with_reducible refine (impl_in.calls a1 0 (wrap64 ((l0_1.length : Int) - 1)) true _ A5.out).mono ?_); rintro e w' ⟨rfl, ⟨nd, rfl⟩⟩; (try (rw [drewN_self w12]; generalize hq_ : World.drewN w12 _ = w12; have n0_ : Aside0 (w12.heap[gb542]? = some (.cells #[.int .i64 a0_0, .slice A0_1 l0_1.length c0_1] 37 (0, 0))) := ⟨by rw [← hq_]; exact (Kz BK542.out)⟩; have n1_ : Aside0 (w12.heap[gb543]? = some (.cells #[.int .i64 0, .slice none 0 0] 37 (0, 0))) := ⟨by rw [← hq_]; exact (Kz BK543.out)⟩; have n2_ : Aside0 (Below w.heap.size w w12) := ⟨by rw [← hq_]; exact (Bq)⟩; clear BK542 BK543 HB hq_; revert n0_ n1_ n2_; intro BK542 BK543 HB)); obtain ⟨hcz97_0, hcz97_1, hfz97_0, hfz97_1⟩ := cf2 (w := w12) BK542) | ((with_reducible refine gate_callee (f := 103) rfl ?_); refine gL (some 21) Try.func103 #[.agg #[.int .i64 a0_0, .slice A0_1 l0_1.length c0_1]] ?_; (with_reducible refine (impl_cloneHyper.calls k a0_0 _ _ l0_1 t546 t547 _ ?side1 ?side2 A7.out).mono ?_); (case side1 => exact Cz (Kd.C_below HR0_1.out HB.out)); (case side2 => exact HC0_1.out); rintro e w14 ⟨v548, rfl, ho0, hb⟩; refine ⟨_, rfl, ?_⟩; have n0_ := am (Kd.S_lower ho0 (below_size (w := w) (Bq))); have n1_ := Kb BK542 hb; have n2_ := Kb BK543 hb; have n3_ := Bc HB hb; clear BK542 BK543 HB; revert n0_ n1_ n2_ n3_; intro HO549 BK542 BK543 HB; (try clear hb); (try clear hb2); (try clear hk); (try clear hi); (try clear ho0)) | ((with_reducible refine gate_dst (N := 6) rfl ?_); (try (refine gate_guard (by rfl) ?_; dsimp only)); refine bE 6 #[.int .i64 0, .slice none 0 0] 37 ?_; intro gb550 hg w15 hbox hb; have n0_ := am (Kd.S_below (by (with_reducible repeat (first | apply Kd.S_alloc | apply Kd.S_drewN | apply Kd.S_drew)); exact HO549.out) hb); have n1_ := Kb BK542 hb; have n2_ := Kb BK543 hb; have n3_ := Bc HB hb; have n4_ := am (hbox); have n5_ := Gm HB hg; have n6_ := Gm HB hg; have n7_ := Nl BK542 hg; have n8_ := Ng BK542 hg; have n9_ := Nl BK543 hg; have n10_ := Ng BK543 hg; clear HO549 BK542 BK543 HB; revert n0_ n1_ n2_ n3_ n4_ n5_ n6_ n7_ n8_ n9_ n10_; intro HO549 BK542 BK543 HB BK550 GW550 GE550 NB542_550 NB550_542 NB543_550 NB550_543; clear hb hbox hg; have hnb16 := NB550_542.out; have hnc16 := NB542_550.out; have hnb17 := NB550_543.out; have hnc17 := NB543_550.out; obtain ⟨hcz18_0, hcz18_1, hfz18_0, hfz18_1⟩ := cf2 (w := w15) BK550; obtain ⟨Ao19, co19, eo19⟩ := Kd.S_slice HO549.out; subst eo19; obtain ⟨hcz20_0, hcz20_1, hfz20_0, hfz20_1⟩ := cf2 (w := w15) BK543) | ((with_reducible refine gate_callee (f := 110) rfl ?_); refine gL (some 27) Try.func110 #[.slice Ao19 t547.length co19, .int .i64 a1, .int .i64 (wrap64 (a1 + 1))] ?_; have hSW := Kd.S_mono (ok' := fun k_ => k_ ≠ gb550 ∧ k_ ≠ gb543) (Kd.S_far (p := ⟨gb550, 1, none⟩) (Kd.S_far (p := ⟨gb550, 0, none⟩) (Kd.S_types (Kd.S_types HO549.out BK550.out (by decide)) BK543.out (by decide)) (fun _ hk => hk.1.2) (.int .i64 t546)) (fun _ hk => hk.1.2) (.slice Ao19 t547.length co19)) (fun _ hk => ⟨hk.1.2, hk.2⟩); have hb_O := blk_put (blk_put BK550.out 0 (.int .i64 t546) rfl) 1 (.slice Ao19 t547.length co19) rfl; have hb_R := blk_far (blk_far BK543.out NB543_550.out (p := ⟨gb550, 0, none⟩) (.int .i64 t546)) NB543_550.out (p := ⟨gb550, 1, none⟩) (.slice Ao19 t547.length co19); (with_reducible refine (slices_Delete_int_int.calls (fun k_ => k_ ≠ gb550 ∧ k_ ≠ gb543) _ t547 a1 (wrap64 (a1 + 1)) t999 w _ ?side1 ?side2 A99.out).mono ?_); (case side1 => exact (Bq)); (case side2 => exact hSW); rintro e wD_ ⟨v999, rfl, ho0, hb0, hk⟩; refine ⟨_, rfl, ?_⟩; have n0_ := am ((hk.2 gb550 (blk_lt hb_O) (fun h_ => h_.1 rfl)).trans hb_O); have n1_ := am ((hk.2 gb543 (blk_lt hb_R) (fun h_ => h_.2 rfl)).trans hb_R); have n2_ := am hb0; have n3_ := am (Kd.S_mono (ok' := fun k_ => k_ ≠ gb550 ∧ k_ ≠ gb543) ho0 (fun k_ h_ => h_.elim id (fun h2_ => ⟨fun e_ => by have := blk_lt hb_O; omega, fun e_ => by have := blk_lt hb_R; omega⟩))); clear HO549 BK550 BK543 HB hSW hb_O hb_R hk hb0 ho0; revert n0_ n1_ n2_ n3_; intro BK550 BK543 HB HO999; obtain ⟨Ao99, co99, eo99⟩ := Kd.S_slice HO999.out; subst eo99; obtain ⟨hcz99_0, hcz99_1, hfz99_0, hfz99_1⟩ := cf2 (w := wD_) BK550; obtain ⟨hcz98_0, hcz98_1, hfz98_0, hfz98_1⟩ := cf2 (w := wD_) BK543))
   refine bodyPost_ret (results_ct rfl _ _ gb543 37 #[.int .i64 t546, .slice Ao99 t999.length co99] (0, 0) _ rfl (by (with_reducible repeat (first | refine blk_drewN ?_ _ | refine blk_drew ?_ | refine blk_alloc ?_ _)); refine blk_put (cs := #[.int .i64 t546, .slice none 0 0]) ?_ 1 _ rfl; (with_reducible repeat (first | refine blk_drewN ?_ _ | refine blk_drew ?_ | refine blk_alloc ?_ _)); refine blk_put (cs := #[.int .i64 0, .slice none 0 0]) ?_ 0 _ rfl; (with_reducible repeat (first | refine blk_drewN ?_ _ | refine blk_drew ?_ | refine blk_alloc ?_ _)); refine blk_far ?_ NB543_550.out _; exact Kz BK543.out) Try.underlying37 rfl (by kernel_rfl)) rfl ?_; exact ⟨_, eZ, by (with_reducible repeat (first | apply Kd.S_alloc | apply Kd.S_drewN | apply Kd.S_drew)); exact Kd.S_mono (Kd.S_far (p := ⟨gb543, 1, none⟩) (Kd.S_far (p := ⟨gb543, 0, none⟩) (Kd.S_far (p := ⟨gb550, 1, none⟩) HO999.out (fun _ hk => hk.1) (.slice Ao99 t999.length co99)) (fun _ hk => hk.2) (.int .i64 t546)) (fun _ hk => hk.2) (.slice Ao99 t999.length co99)) (fun _ hk => trivial), Bq⟩
  ·replace c6 := Bool.eq_false_iff.mpr c6
   subst c6
   rw [if_neg (show ¬ (false = true) by decide)] at H
   simp only [Option.some.injEq, Prod.mk.injEq] at H
   obtain ⟨rfl, rfl, rfl⟩ := H
   go_enter Try.func36, Try.ntmps36
   go_wp2_with (first | ((with_reducible refine gate_dst (N := 2) rfl ?_); (try (refine gate_guard (by rfl) ?_; dsimp only)); refine bE 2 #[.int .i64 a0_0, .slice A0_1 l0_1.length c0_1] 37 ?_; intro gb542 hg w21 hbox hb; have n0_ := Bb HB hb; have n1_ := am (hbox); have n2_ := Gl HB hg; have n3_ := Gl HB hg; clear HB; revert n0_ n1_ n2_ n3_; intro HB BK542 GW542 GE542; clear hb hbox hg) | ((with_reducible refine gate_dst (N := 4) rfl ?_); (try (refine gate_guard (by rfl) ?_; dsimp only)); refine bE 4 #[.int .i64 0, .slice none 0 0] 37 ?_; intro gb543 hg w22 hbox hb; have n0_ := Kb BK542 hb; have n1_ := Bc HB hb; have n2_ := am (hbox); have n3_ := Gm HB hg; have n4_ := Gm HB hg; have n5_ := Nl BK542 hg; have n6_ := Ng BK542 hg; clear BK542 HB; revert n0_ n1_ n2_ n3_ n4_ n5_ n6_; intro BK542 HB BK543 GW543 GE543 NB542_543 NB543_542; clear hb hbox hg; have hnb23 := NB542_543.out; have hnc23 := NB543_542.out; obtain ⟨hcz24_0, hcz24_1, hfz24_0, hfz24_1⟩ := cf2 (w := w22) BK542) | ((with_reducible refine gate_callee (f := 42) rfl ?_); refine gL (some 8) Try.func42 #[.agg #[.int .i64 a0_0, .slice A0_1 l0_1.length c0_1]] ?_; (with_reducible refine (impl_IsHyper.calls k a0_0 _ _ l0_1 true _ ?side1 ?side2 A3.out).mono ?_); (case side1 => exact Cz (Kd.C_below HR0_1.out HB.out)); (case side2 => exact HC0_1.out); rintro e w25 ⟨rfl, hb⟩; refine ⟨_, rfl, ?_⟩; have n0_ := Kb BK542 hb; have n1_ := Kb BK543 hb; have n2_ := Bc HB hb; clear BK542 BK543 HB; revert n0_ n1_ n2_; intro BK542 BK543 HB; (try clear hb); (try clear hb2); (try clear hk); (try clear hi); obtain ⟨hcz26_0, hcz26_1, hfz26_0, hfz26_1⟩ := cf2 (w := w25) BK542) | (go_at_call 70; (with_reducible refine (impl_in.calls a1 0 (wrap64 ((l0_1.length : Int) - 1)) false _ A5.out).mono ?_); rintro e w' ⟨rfl, ⟨nd, rfl⟩⟩; (try (rw [drewN_self w25]; generalize hq_ : World.drewN w25 _ = w25; have n0_ : Aside0 (w25.heap[gb542]? = some (.cells #[.int .i64 a0_0, .slice A0_1 l0_1.length c0_1] 37 (0, 0))) := ⟨by rw [← hq_]; exact (Kz BK542.out)⟩; have n1_ : Aside0 (w25.heap[gb543]? = some (.cells #[.int .i64 0, .slice none 0 0] 37 (0, 0))) := ⟨by rw [← hq_]; exact (Kz BK543.out)⟩; have n2_ : Aside0 (Below w.heap.size w w25) := ⟨by rw [← hq_]; exact (Bq)⟩; clear BK542 BK543 HB hq_; revert n0_ n1_ n2_; intro BK542 BK543 HB)); obtain ⟨hcz27_0, hcz27_1, hfz27_0, hfz27_1⟩ := cf2 (w := w25) BK543))
   refine bodyPost_ret (results_ct rfl _ _ gb543 37 #[.int .i64 0, .slice none 0 0] (0, 0) _ rfl (by (with_reducible repeat (first | refine blk_drewN ?_ _ | refine blk_drew ?_ | refine blk_alloc ?_ _)); refine blk_put (cs := #[.int .i64 0, .slice none 0 0]) ?_ 1 _ rfl; (with_reducible repeat (first | refine blk_drewN ?_ _ | refine blk_drew ?_ | refine blk_alloc ?_ _)); refine blk_put (cs := #[.int .i64 0, .slice none 0 0]) ?_ 0 _ rfl; exact Kz BK543.out) Try.underlying37 rfl (by kernel_rfl)) rfl ?_; exact ⟨_, eZ, by first | exact Kd.S_nil _ _ _ _ _ | exact Kd.N_nil _ _ _ _ _ | exact Kd.V_nil _ _ _ _ _ | exact Kd.Q_nil _ _ _ _ _ | exact Kd.R_nil _ _ _ _ _, Bq⟩
 ·replace c4 := Bool.eq_false_iff.mpr c4
  subst c4
  rw [if_neg (show ¬ (false = true) by decide)] at H
  simp only [Option.some.injEq, Prod.mk.injEq] at H
  obtain ⟨rfl, rfl, rfl⟩ := H
  go_enter Try.func36, Try.ntmps36
  go_wp2_with (first | ((with_reducible refine gate_dst (N := 2) rfl ?_); (try (refine gate_guard (by rfl) ?_; dsimp only)); refine bE 2 #[.int .i64 a0_0, .slice A0_1 l0_1.length c0_1] 37 ?_; intro gb542 hg w28 hbox hb; have n0_ := Bb HB hb; have n1_ := am (hbox); have n2_ := Gl HB hg; have n3_ := Gl HB hg; clear HB; revert n0_ n1_ n2_ n3_; intro HB BK542 GW542 GE542; clear hb hbox hg) | ((with_reducible refine gate_dst (N := 4) rfl ?_); (try (refine gate_guard (by rfl) ?_; dsimp only)); refine bE 4 #[.int .i64 0, .slice none 0 0] 37 ?_; intro gb543 hg w29 hbox hb; have n0_ := Kb BK542 hb; have n1_ := Bc HB hb; have n2_ := am (hbox); have n3_ := Gm HB hg; have n4_ := Gm HB hg; have n5_ := Nl BK542 hg; have n6_ := Ng BK542 hg; clear BK542 HB; revert n0_ n1_ n2_ n3_ n4_ n5_ n6_; intro BK542 HB BK543 GW543 GE543 NB542_543 NB543_542; clear hb hbox hg; have hnb30 := NB542_543.out; have hnc30 := NB543_542.out; obtain ⟨hcz31_0, hcz31_1, hfz31_0, hfz31_1⟩ := cf2 (w := w29) BK542) | ((with_reducible refine gate_callee (f := 42) rfl ?_); refine gL (some 8) Try.func42 #[.agg #[.int .i64 a0_0, .slice A0_1 l0_1.length c0_1]] ?_; (with_reducible refine (impl_IsHyper.calls k a0_0 _ _ l0_1 false _ ?side1 ?side2 A3.out).mono ?_); (case side1 => exact Cz (Kd.C_below HR0_1.out HB.out)); (case side2 => exact HC0_1.out); rintro e w32 ⟨rfl, hb⟩; refine ⟨_, rfl, ?_⟩; have n0_ := Kb BK542 hb; have n1_ := Kb BK543 hb; have n2_ := Bc HB hb; clear BK542 BK543 HB; revert n0_ n1_ n2_; intro BK542 BK543 HB; (try clear hb); (try clear hb2); (try clear hk); (try clear hi); obtain ⟨hcz33_0, hcz33_1, hfz33_0, hfz33_1⟩ := cf2 (w := w32) BK543))
  refine bodyPost_ret (results_ct rfl _ _ gb543 37 #[.int .i64 0, .slice none 0 0] (0, 0) _ rfl (by (with_reducible repeat (first | refine blk_drewN ?_ _ | refine blk_drew ?_ | refine blk_alloc ?_ _)); refine blk_put (cs := #[.int .i64 0, .slice none 0 0]) ?_ 1 _ rfl; (with_reducible repeat (first | refine blk_drewN ?_ _ | refine blk_drew ?_ | refine blk_alloc ?_ _)); refine blk_put (cs := #[.int .i64 0, .slice none 0 0]) ?_ 0 _ rfl; exact Kz BK543.out) Try.underlying37 rfl (by kernel_rfl)) rfl ?_; exact ⟨_, eZ, by first | exact Kd.S_nil _ _ _ _ _ | exact Kd.N_nil _ _ _ _ _ | exact Kd.V_nil _ _ _ _ _ | exact Kd.Q_nil _ _ _ _ _ | exact Kd.R_nil _ _ _ _ _, Bq⟩

end Go.Proofs.Ythkcgimnagpmaaa.PT
-- printed by a program of this session (wip/gp) out of the translation; Lean checks it
namespace Go.Proofs.Ythkcgimnagpmaaa.PT
open Go.RowKit Go.Proofs.YthkcgimnagpmaaaW.PrintWords Go.Proofs.YthkcgimnagpmaaaW.PrintLast Go.Proofs.YthkcgimnagpmaaaW.PrintMore Go.Proofs.YthkcgimnagpmaaaSq
attribute [local go_sem] max2_int min2_int max_two min_two max_three min_three max_four min_four   -- for this text's walks alone
attribute [local go_sem] Go.Proofs.YthkcgimnagpmaaaGp.str_geq Go.Proofs.YthkcgimnagpmaaaGp.str_gtr Go.Proofs.YthkcgimnagpmaaaGp.str_leq
set_option linter.unusedVariables false
set_option linter.unusedSimpArgs false

set_option maxHeartbeats 8000000
set_option maxRecDepth 100000
mutual
def laws_FnEdgesAndDegrees.j0 : Nat → Bool → Bool → Int → List (List Int) → Int → List (List Int) → Option (Bool)
 | 0, _, _, _, _, _, _ => none
 | k + 1, x10, x71, x560000, x560001, x566000, x566001 => if x71 = true then (some false) else (if x10 = true then ((impl_CoreOf.f k x560000 x560001).bind fun bt572 => ((impl_CoreOf.f k x566000 x566001).bind fun bt576 => ((impl_HyperDegrees.f k x566000 x566001).bind fun bt580 => ((impl_HyperParts.f k x566000 x566001).bind fun bt584 => (if bt572.2 = true then (if bt576.2 = true then (if bt580.2 = true then (if bt584.2 = true then (laws_FnEdgesAndDegrees.j1 k bt572.1 bt576.1 bt580.1 bt584.1 ((bt580.1.length : Int) != x566000) x560000 x560001 x566000 x566001) else (laws_FnEdgesAndDegrees.j1 k bt572.1 bt576.1 bt580.1 bt584.1 true x560000 x560001 x566000 x566001)) else (laws_FnEdgesAndDegrees.j1 k bt572.1 bt576.1 bt580.1 bt584.1 true x560000 x560001 x566000 x566001)) else (laws_FnEdgesAndDegrees.j1 k bt572.1 bt576.1 bt580.1 bt584.1 true x560000 x560001 x566000 x566001)) else (laws_FnEdgesAndDegrees.j1 k bt572.1 bt576.1 bt580.1 bt584.1 true x560000 x560001 x566000 x566001)))))) else (some true))
def laws_FnEdgesAndDegrees.j1 : Nat → List Int → List Int → List Int → List (List Int) → Bool → Int → List (List Int) → Int → List (List Int) → Option (Bool)
 | 0, _, _, _, _, _, _, _, _, _ => none
 | k + 1, x11, x13, x15, x17, x114, x560000, x560001, x566000, x566001 => if x114 = true then (some false) else (laws_FnEdgesAndDegrees.l0 k x13 x15 x17 x11 (x11.length : Int) 0 x560000 x560001 x566000 x566001)
def laws_FnEdgesAndDegrees.l0 : Nat → List Int → List Int → List (List Int) → List Int → Int → Int → Int → List (List Int) → Int → List (List Int) → Option (Bool)
 | 0, _, _, _, _, _, _, _, _, _, _ => none
 | k + 1, x13, x15, x17, x115, x116, x117, x560000, x560001, x566000, x566001 => if x117 < x116 then (if 0 ≤ x117 then (if x117 < (x115.length : Int) then ((laws_pHas.f k x13 (rd x115 x117)).bind fun t589 => (if t589 = true then (laws_FnEdgesAndDegrees.l0 k x13 x15 x17 x115 x116 (wrap64 (x117 + 1)) x560000 x560001 x566000 x566001) else (some false))) else (none)) else (none)) else (laws_FnEdgesAndDegrees.l1 k x17 0 x15 (x15.length : Int) 0 x560000 x560001 x566000 x566001)
def laws_FnEdgesAndDegrees.l1 : Nat → List (List Int) → Int → List Int → Int → Int → Int → List (List Int) → Int → List (List Int) → Option (Bool)
 | 0, _, _, _, _, _, _, _, _, _ => none
 | k + 1, x17, x21, x126, x127, x128, x560000, x560001, x566000, x566001 => if x128 < x127 then (if 0 ≤ x128 then (if x128 < (x126.length : Int) then ((impl_EdgesAt.f k x566000 x566001 x128).bind fun bt591 => (if bt591.2 = true then (if (bt591.1.length : Int) = (rd x126 x128) then (laws_FnEdgesAndDegrees.l1 k x17 (wrap64 (x21 + (rd x126 x128))) x126 x127 (wrap64 (x128 + 1)) x560000 x560001 x566000 x566001) else (some false)) else (some false))) else (none)) else (none)) else (laws_FnEdgesAndDegrees.l2 k x21 ([] : List Int) x17 (x17.length : Int) 0 x560000 x560001 x566000 x566001)
def laws_FnEdgesAndDegrees.l2 : Nat → Int → List Int → List (List Int) → Int → Int → Int → List (List Int) → Int → List (List Int) → Option (Bool)
 | 0, _, _, _, _, _, _, _, _, _ => none
 | k + 1, x21, x26, x151, x152, x153, x560000, x560001, x566000, x566001 => if x153 < x152 then (if 0 ≤ x153 then (if x153 < (x151.length : Int) then (if x26.length + (rd_L2 x151 x153).length < 17592186044416 then (laws_FnEdgesAndDegrees.l2 k x21 (x26 ++ (rd_L2 x151 x153)) x151 x152 (wrap64 (x153 + 1)) x560000 x560001 x566000 x566001) else (none)) else (none)) else (none)) else ((impl_WithoutEdge.f k x566000 x566001 (x560001.length : Int)).bind fun bt599 => (if bt599.2.2 = true then (if (bt599.2.1.length : Int) = (x560001.length : Int) then (laws_FnEdgesAndDegrees.j5 k x26 (x21 != (wrap64 (3 * (x566001.length : Int)))) x560000 x560001 x566000 x566001 bt599.1 bt599.2.1) else (laws_FnEdgesAndDegrees.j5 k x26 true x560000 x560001 x566000 x566001 bt599.1 bt599.2.1)) else (laws_FnEdgesAndDegrees.j5 k x26 true x560000 x560001 x566000 x566001 bt599.1 bt599.2.1)))
def laws_FnEdgesAndDegrees.j5 : Nat → List Int → Bool → Int → List (List Int) → Int → List (List Int) → Int → List (List Int) → Option (Bool)
 | 0, _, _, _, _, _, _, _, _ => none
 | k + 1, x26, x187, x560000, x560001, x566000, x566001, x605000, x605001 => if x187 = true then (some false) else (laws_FnEdgesAndDegrees.l3 k x26 x560001 (x560001.length : Int) 0 x566000 x566001 x605000 x605001)
def laws_FnEdgesAndDegrees.l3 : Nat → List Int → List (List Int) → Int → Int → Int → List (List Int) → Int → List (List Int) → Option (Bool)
 | 0, _, _, _, _, _, _, _, _ => none
 | k + 1, x26, x189, x190, x191, x566000, x566001, x605000, x605001 => if x191 < x190 then (if 0 ≤ x191 then (if x191 < (x189.length : Int) then (if x191 < (x605001.length : Int) then ((laws_pSameInts.f k (rd_L2 x605001 x191) (rd_L2 x189 x191)).bind fun t607 => (if t607 = true then (laws_FnEdgesAndDegrees.l3 k x26 x189 x190 (wrap64 (x191 + 1)) x566000 x566001 x605000 x605001) else (some false))) else (none)) else (none)) else (none)) else ((laws_pAllOnce.f k x26 (x566001.length : Int)).bind fun t608 => (some t608))
end
def laws_FnEdgesAndDegrees.f (k : Nat) (l0 : List Int) (l1 : List Int) : Option (Bool) := (laws_big.f l0 l1).bind fun t551 => (if t551 = true then (some true) else ((spec_DrawWithEdge.f k l0).bind fun bt552 => ((impl_WithEdge.f k bt552.1 bt552.2.1 bt552.2.2).bind fun bt560 => ((spec_WithEdge.f k bt552.1 bt552.2.1 bt552.2.2).bind fun bt566 => (if (bt560.2.2 != bt566.2.2) = true then (laws_FnEdgesAndDegrees.j0 k bt566.2.2 true bt552.1 bt552.2.1 bt560.1 bt560.2.1) else (if bt560.1 = bt566.1 then (laws_FnEdgesAndDegrees.j0 k bt566.2.2 ((bt560.2.1.length : Int) != (bt566.2.1.length : Int)) bt552.1 bt552.2.1 bt560.1 bt560.2.1) else (laws_FnEdgesAndDegrees.j0 k bt566.2.2 true bt552.1 bt552.2.1 bt560.1 bt560.2.1)))))))
theorem laws_FnEdgesAndDegrees.j0.dead (k : Nat) (y0 : Bool) (y2 : Int) (y3 : List (List Int)) (y4 : Int) (y5 : List (List Int)) : laws_FnEdgesAndDegrees.j0 k y0 true y2 y3 y4 y5 ≠ some true := by cases k <;> simp [laws_FnEdgesAndDegrees.j0]
theorem laws_FnEdgesAndDegrees.j1.dead (k : Nat) (y0 : List Int) (y1 : List Int) (y2 : List Int) (y3 : List (List Int)) (y5 : Int) (y6 : List (List Int)) (y7 : Int) (y8 : List (List Int)) : laws_FnEdgesAndDegrees.j1 k y0 y1 y2 y3 true y5 y6 y7 y8 ≠ some true := by cases k <;> simp [laws_FnEdgesAndDegrees.j1]
theorem laws_FnEdgesAndDegrees.j5.dead (k : Nat) (y0 : List Int) (y2 : Int) (y3 : List (List Int)) (y4 : Int) (y5 : List (List Int)) (y6 : Int) (y7 : List (List Int)) : laws_FnEdgesAndDegrees.j5 k y0 true y2 y3 y4 y5 y6 y7 ≠ some true := by cases k <;> simp [laws_FnEdgesAndDegrees.j5]
theorem laws_FnEdgesAndDegrees.calls (k : Nat) (A0 : Option Addr) (c0 : Nat) (l0 : List Int) (A1 : Option Addr) (c1 : Nat) (l1 : List Int) (r : Bool) (w : World) (hr0 : Kd.C (Kd.int .u8) w A0 l0.length l0) (hc0 : l0.length ≤ c0) (hr1 : Kd.C (Kd.int .u8) w A1 l1.length l1) (hc1 : l1.length ≤ c1) (h : laws_FnEdgesAndDegrees.f k l0 l1 = some r) (hT_ : r = true) :
  Calls Try.prog 6 #[.slice A0 l0.length c0, .slice A1 l1.length c1] w fun e w' => e = .returned (.bool r) ∧ Below w.heap.size w w' := by
 have hu37 := Try.underlying37; have HR0 := am hr0; have HC0 := am hc0; clear hr0 hc0; have HR1 := am hr1; have HC1 := am hc1; clear hr1 hc1; have HB := am (Below.refl w.heap.size w); have H : ((laws_big.f l0 l1).bind fun t551 => (if t551 = true then (some true) else ((spec_DrawWithEdge.f k l0).bind fun bt552 => ((impl_WithEdge.f k bt552.1 bt552.2.1 bt552.2.2).bind fun bt560 => ((spec_WithEdge.f k bt552.1 bt552.2.1 bt552.2.2).bind fun bt566 => (if (bt560.2.2 != bt566.2.2) = true then (laws_FnEdgesAndDegrees.j0 k bt566.2.2 true bt552.1 bt552.2.1 bt560.1 bt560.2.1) else (if bt560.1 = bt566.1 then (laws_FnEdgesAndDegrees.j0 k bt566.2.2 ((bt560.2.1.length : Int) != (bt566.2.1.length : Int)) bt552.1 bt552.2.1 bt560.1 bt560.2.1) else (laws_FnEdgesAndDegrees.j0 k bt566.2.2 true bt552.1 bt552.2.1 bt560.1 bt560.2.1)))))))) = some r := h; clear h; have HQT_ := am hT_; clear hT_; replace H := Option.bind_eq_some_iff.mp H; obtain ⟨t551, A30, H⟩ := H; (try dsimp -simprocs only at H); have A3 := am A30; clear A30
 by_cases c4 : t551 = true
 ·subst c4
  rw [if_pos rfl] at H; obtain rfl := Option.some.inj H
  go_enter Try.func6, Try.ntmps6
  go_wp2_with (first | ((with_reducible refine gate_callee (f := 12) rfl ?_); refine gL (some 35) Try.func12 #[.slice A0 l0.length c0, .slice A1 l1.length c1] ?_; (with_reducible refine (laws_big.calls _ _ l0 _ _ l1 true _ ?side1 ?side2 ?side3 ?side4 A3.out).mono ?_); (case side1 => exact Cz HR0.out); (case side2 => exact HC0.out); (case side3 => exact Cz HR1.out); (case side4 => exact HC1.out); rintro e w' ⟨rfl, ⟨nd, rfl⟩⟩; refine ⟨_, rfl, ?_⟩))
  go_ret
  exact ⟨eZ, Bz HB.out⟩
 ·replace c4 := Bool.eq_false_iff.mpr c4
  subst c4
  rw [if_neg (show ¬ (false = true) by decide)] at H; replace H := Option.bind_eq_some_iff.mp H; obtain ⟨⟨t552, t553, t556⟩, A50, H⟩ := H; (try dsimp -simprocs only at H); have A5 := am A50; clear A50; replace H := Option.bind_eq_some_iff.mp H; obtain ⟨⟨t560, t561, t564⟩, A60, H⟩ := H; (try dsimp -simprocs only at H); have A6 := am A60; clear A60; replace H := Option.bind_eq_some_iff.mp H; obtain ⟨⟨t566, t567, t570⟩, A70, H⟩ := H; (try dsimp -simprocs only at H); have A7 := am A70; clear A70; have HC8 := am H; clear H
  go_enter Try.func6, Try.ntmps6
  go_upto_region 6 with (first | ((with_reducible refine gate_callee (f := 12) rfl ?_); refine gL (some 35) Try.func12 #[.slice A0 l0.length c0, .slice A1 l1.length c1] ?_; (with_reducible refine (laws_big.calls _ _ l0 _ _ l1 false _ ?side1 ?side2 ?side3 ?side4 A3.out).mono ?_); (case side1 => exact Cz HR0.out); (case side2 => exact HC0.out); (case side3 => exact Cz HR1.out); (case side4 => exact HC1.out); rintro e w' ⟨rfl, ⟨nd, rfl⟩⟩; refine ⟨_, rfl, ?_⟩) | ((with_reducible refine gate_callee (f := 31) rfl ?_); refine gL (some 38) Try.func31 #[.slice A0 l0.length c0] ?_; (with_reducible refine (spec_DrawWithEdge.calls k _ _ l0 t552 t553 t556 _ ?side1 ?side2 A5.out).mono ?_); (case side1 => exact Cz HR0.out); (case side2 => exact HC0.out); rintro e w9 ⟨v554, v557, rfl, ho0, ho1, hb⟩; refine ⟨_, rfl, ?_⟩; have n0_ := am (Kd.S_lower ho0 (below_size (Bz HB.out))); have n1_ := Rl ho1 HB; have n2_ := Bb HB hb; clear HB; revert n0_ n1_ n2_; intro HO555 HO558 HB; (try clear hb); (try clear hb2); (try clear hk); (try clear hi); (try clear ho0); (try clear ho1)) | ((with_reducible refine gate_dst (N := 5) rfl ?_); (try (refine gate_guard (by rfl) ?_; dsimp only)); refine bE 5 #[.int .i64 0, .slice none 0 0] 37 ?_; intro gb559 hg w10 hbox hb; have n0_ := am (Kd.S_below (by (with_reducible repeat (first | apply Kd.S_alloc | apply Kd.S_drewN | apply Kd.S_drew)); exact HO555.out) hb); have n1_ := Rb HO558 hb; have n2_ := Bb HB hb; have n3_ := am (hbox); have n4_ := Gl HB hg; have n5_ := Gl HB hg; clear HO555 HO558 HB; revert n0_ n1_ n2_ n3_ n4_ n5_; intro HO555 HO558 HB BK559 GW559 GE559; clear hb hbox hg; obtain ⟨hcz11_0, hcz11_1, hfz11_0, hfz11_1⟩ := cf2 (w := w10) BK559; obtain ⟨Ao12, co12, eo12⟩ := Kd.S_slice HO555.out; subst eo12; obtain ⟨Ao13, co13, eo13⟩ := Kd.R_slice HO558.out; subst eo13) | ((with_reducible refine gate_callee (f := 32) rfl ?_); refine gL (some 44) Try.func32 #[.agg #[.int .i64 t552, .slice Ao12 t553.length co12], .slice Ao13 t556.length co13] ?_; (with_reducible refine (impl_WithEdge.calls k t552 _ _ t553 _ _ t556 t560 t561 t564 _ ?side1 ?side2 ?side3 ?side4 A6.out).mono ?_); (case side1 => refine (Kd.S_reads' (e := 32) (base := w.heap.size) (ok := fun k_ => some k_ ≠ (.slice Ao13 t556.length co13 : Value).ownBlock) (n := t553.length) (c := co12) ?_).2.2; exact (by (with_reducible repeat (first | apply Kd.S_alloc | apply Kd.S_drewN | apply Kd.S_drew)); exact (Kd.S_mono (Kd.S_far (p := ⟨gb559, 1, none⟩) (Kd.S_far (p := ⟨gb559, 0, none⟩) (Kd.S_types HO555.out BK559.out (by decide)) (fun _ hk => hk.2) (.int .i64 t552)) (fun _ hk => hk.2) (.slice Ao12 t553.length co12)) (fun _ h_ => h_.1)))); (case side2 => exact (Kd.S_reads' HO555.out).2.1); (case side3 => refine (Kd.R_reads' (e := 3) (base := w.heap.size) (ok := fun k_ => True) (n := t556.length) (c := co13) ?_).2.2; exact (Rz (Kd.R_mono (Kd.R_far (p := ⟨gb559, 1, none⟩) (Kd.R_far (p := ⟨gb559, 0, none⟩) (Kd.R_types HO558.out BK559.out (by decide)) (fun _ hk => hk.2) (.int .i64 t552)) (fun _ hk => hk.2) (.slice Ao12 t553.length co12)) (fun _ h_ => h_.1)))); (case side4 => exact (Kd.R_reads' HO558.out).2.1); rintro e w14 ⟨v562, rfl, ho0, hb⟩; refine ⟨_, rfl, ?_⟩; have n0_ := am (Kd.S_elder' (by (with_reducible repeat (first | apply Kd.S_alloc | apply Kd.S_drewN | apply Kd.S_drew)); exact (Kd.S_mono (Kd.S_far (p := ⟨gb559, 1, none⟩) (Kd.S_far (p := ⟨gb559, 0, none⟩) (Kd.S_types HO555.out BK559.out (by decide)) (fun _ hk => hk.2) (.int .i64 t552)) (fun _ hk => hk.2) (.slice Ao12 t553.length co12)) (fun _ h_ => h_.1))) (Kd.S_base ho0) hb); have n1_ := am (Kd.R_below (Rz (Kd.R_mono (Kd.R_far (p := ⟨gb559, 1, none⟩) (Kd.R_far (p := ⟨gb559, 0, none⟩) (Kd.R_types HO558.out BK559.out (by decide)) (fun _ hk => hk.2) (.int .i64 t552)) (fun _ hk => hk.2) (.slice Ao12 t553.length co12)) (fun _ h_ => h_.1))) hb); have n2_ := am (Kd.S_lower (Kd.S_new' (Kd.S_new' ho0 (Kd.S_lt (by (with_reducible repeat (first | apply Kd.S_alloc | apply Kd.S_drewN | apply Kd.S_drew)); exact (Kd.S_mono (Kd.S_far (p := ⟨gb559, 1, none⟩) (Kd.S_far (p := ⟨gb559, 0, none⟩) (Kd.S_types HO555.out BK559.out (by decide)) (fun _ hk => hk.2) (.int .i64 t552)) (fun _ hk => hk.2) (.slice Ao12 t553.length co12)) (fun _ h_ => h_.1))))) (Kd.R_lt (Rz (Kd.R_mono (Kd.R_far (p := ⟨gb559, 1, none⟩) (Kd.R_far (p := ⟨gb559, 0, none⟩) (Kd.R_types HO558.out BK559.out (by decide)) (fun _ hk => hk.2) (.int .i64 t552)) (fun _ hk => hk.2) (.slice Ao12 t553.length co12)) (fun _ h_ => h_.1))))) (below_size (w := w) (Bq))); have n3_ := am (blk_below (g := gb559) (o := .cells #[.int .i64 t552, .slice Ao12 t553.length co12] 37 (0, 0)) (by (with_reducible repeat (first | refine blk_drewN ?_ _ | refine blk_drew ?_ | refine blk_alloc ?_ _)); refine blk_put (cs := #[.int .i64 t552, .slice none 0 0]) ?_ 1 _ rfl; (with_reducible repeat (first | refine blk_drewN ?_ _ | refine blk_drew ?_ | refine blk_alloc ?_ _)); refine blk_put (cs := #[.int .i64 0, .slice none 0 0]) ?_ 0 _ rfl; exact Kz BK559.out) hb); have n4_ := Bc HB hb; clear HO555 HO558 BK559 HB; revert n0_ n1_ n2_ n3_ n4_; intro HO555 HO558 HO563 BK559 HB; (try clear hb); (try clear hb2); (try clear hk); (try clear hi); (try clear ho0)) | ((with_reducible refine gate_dst (N := 7) rfl ?_); (try (refine gate_guard (by rfl) ?_; dsimp only)); refine bE 7 #[.int .i64 0, .slice none 0 0] 37 ?_; intro gb565 hg w15 hbox hb; have n0_ := am (Kd.S_below (by (with_reducible repeat (first | apply Kd.S_alloc | apply Kd.S_drewN | apply Kd.S_drew)); exact HO555.out) hb); have n1_ := Rb HO558 hb; have n2_ := am (Kd.S_below (by (with_reducible repeat (first | apply Kd.S_alloc | apply Kd.S_drewN | apply Kd.S_drew)); exact HO563.out) hb); have n3_ := Kb BK559 hb; have n4_ := Bc HB hb; have n5_ := am (hbox); have n6_ := Gm HB hg; have n7_ := Gm HB hg; have n8_ := Nl BK559 hg; have n9_ := Ng BK559 hg; clear HO555 HO558 HO563 BK559 HB; revert n0_ n1_ n2_ n3_ n4_ n5_ n6_ n7_ n8_ n9_; intro HO555 HO558 HO563 BK559 HB BK565 GW565 GE565 NB559_565 NB565_559; clear hb hbox hg; have hnb16 := NB565_559.out; have hnc16 := NB559_565.out; obtain ⟨hcz17_0, hcz17_1, hfz17_0, hfz17_1⟩ := cf2 (w := w15) BK565; obtain ⟨Ao18, co18, eo18⟩ := Kd.S_slice HO563.out; subst eo18; obtain ⟨hcz19_0, hcz19_1, hfz19_0, hfz19_1⟩ := cf2 (w := w15) BK559) | ((with_reducible refine gate_callee (f := 33) rfl ?_); refine gL (some 50) Try.func33 #[.agg #[.int .i64 t552, .slice Ao12 t553.length co12], .slice Ao13 t556.length co13] ?_; (with_reducible refine (spec_WithEdge.calls k t552 _ _ t553 _ _ t556 t566 t567 t570 _ ?side1 ?side2 ?side3 ?side4 A7.out).mono ?_); (case side1 => refine (Kd.S_reads' (e := 32) (base := w.heap.size) (ok := fun k_ => (some k_ ≠ (.slice Ao13 t556.length co13 : Value).ownBlock ∧ some k_ ≠ (.slice Ao18 t561.length co18 : Value).ownBlock)) (n := t553.length) (c := co12) ?_).2.2; exact (by (with_reducible repeat (first | apply Kd.S_alloc | apply Kd.S_drewN | apply Kd.S_drew)); exact (Kd.S_mono (Kd.S_far (p := ⟨gb565, 1, none⟩) (Kd.S_far (p := ⟨gb565, 0, none⟩) (Kd.S_types HO555.out BK565.out (by decide)) (fun _ hk => hk.2) (.int .i64 t560)) (fun _ hk => hk.2) (.slice Ao18 t561.length co18)) (fun _ h_ => h_.1)))); (case side2 => exact (Kd.S_reads' HO555.out).2.1); (case side3 => refine (Kd.R_reads' (e := 3) (base := w.heap.size) (ok := fun k_ => True) (n := t556.length) (c := co13) ?_).2.2; exact (Rz (Kd.R_mono (Kd.R_far (p := ⟨gb565, 1, none⟩) (Kd.R_far (p := ⟨gb565, 0, none⟩) (Kd.R_types HO558.out BK565.out (by decide)) (fun _ hk => hk.2) (.int .i64 t560)) (fun _ hk => hk.2) (.slice Ao18 t561.length co18)) (fun _ h_ => h_.1)))); (case side4 => exact (Kd.R_reads' HO558.out).2.1); rintro e w20 ⟨v568, rfl, ho0, hb⟩; refine ⟨_, rfl, ?_⟩; have n0_ := am (Kd.S_elder' (by (with_reducible repeat (first | apply Kd.S_alloc | apply Kd.S_drewN | apply Kd.S_drew)); exact (Kd.S_mono (Kd.S_far (p := ⟨gb565, 1, none⟩) (Kd.S_far (p := ⟨gb565, 0, none⟩) (Kd.S_types HO555.out BK565.out (by decide)) (fun _ hk => hk.2) (.int .i64 t560)) (fun _ hk => hk.2) (.slice Ao18 t561.length co18)) (fun _ h_ => h_.1))) (Kd.S_base ho0) hb); have n1_ := am (Kd.R_below (Rz (Kd.R_mono (Kd.R_far (p := ⟨gb565, 1, none⟩) (Kd.R_far (p := ⟨gb565, 0, none⟩) (Kd.R_types HO558.out BK565.out (by decide)) (fun _ hk => hk.2) (.int .i64 t560)) (fun _ hk => hk.2) (.slice Ao18 t561.length co18)) (fun _ h_ => h_.1))) hb); have n2_ := am (Kd.S_elder' (by (with_reducible repeat (first | apply Kd.S_alloc | apply Kd.S_drewN | apply Kd.S_drew)); exact (Kd.S_mono (Kd.S_far (p := ⟨gb565, 1, none⟩) (Kd.S_far (p := ⟨gb565, 0, none⟩) (Kd.S_types HO563.out BK565.out (by decide)) (fun _ hk => hk.2) (.int .i64 t560)) (fun _ hk => hk.2) (.slice Ao18 t561.length co18)) (fun _ h_ => h_.1))) (Kd.S_base ho0) hb); have n3_ := am (Kd.S_lower (Kd.S_new' (Kd.S_new' (Kd.S_new' ho0 (Kd.S_lt (by (with_reducible repeat (first | apply Kd.S_alloc | apply Kd.S_drewN | apply Kd.S_drew)); exact (Kd.S_mono (Kd.S_far (p := ⟨gb565, 1, none⟩) (Kd.S_far (p := ⟨gb565, 0, none⟩) (Kd.S_types HO555.out BK565.out (by decide)) (fun _ hk => hk.2) (.int .i64 t560)) (fun _ hk => hk.2) (.slice Ao18 t561.length co18)) (fun _ h_ => h_.1))))) (Kd.R_lt (Rz (Kd.R_mono (Kd.R_far (p := ⟨gb565, 1, none⟩) (Kd.R_far (p := ⟨gb565, 0, none⟩) (Kd.R_types HO558.out BK565.out (by decide)) (fun _ hk => hk.2) (.int .i64 t560)) (fun _ hk => hk.2) (.slice Ao18 t561.length co18)) (fun _ h_ => h_.1))))) (Kd.S_lt (by (with_reducible repeat (first | apply Kd.S_alloc | apply Kd.S_drewN | apply Kd.S_drew)); exact (Kd.S_mono (Kd.S_far (p := ⟨gb565, 1, none⟩) (Kd.S_far (p := ⟨gb565, 0, none⟩) (Kd.S_types HO563.out BK565.out (by decide)) (fun _ hk => hk.2) (.int .i64 t560)) (fun _ hk => hk.2) (.slice Ao18 t561.length co18)) (fun _ h_ => h_.1))))) (below_size (w := w) (Bq))); have n4_ := am (blk_below (g := gb559) (o := .cells #[.int .i64 t552, .slice Ao12 t553.length co12] 37 (0, 0)) (by (with_reducible repeat (first | refine blk_drewN ?_ _ | refine blk_drew ?_ | refine blk_alloc ?_ _)); refine blk_far ?_ NB559_565.out _; (with_reducible repeat (first | refine blk_drewN ?_ _ | refine blk_drew ?_ | refine blk_alloc ?_ _)); refine blk_far ?_ NB559_565.out _; exact Kz BK559.out) hb); have n5_ := am (blk_below (g := gb565) (o := .cells #[.int .i64 t560, .slice Ao18 t561.length co18] 37 (0, 0)) (by (with_reducible repeat (first | refine blk_drewN ?_ _ | refine blk_drew ?_ | refine blk_alloc ?_ _)); refine blk_put (cs := #[.int .i64 t560, .slice none 0 0]) ?_ 1 _ rfl; (with_reducible repeat (first | refine blk_drewN ?_ _ | refine blk_drew ?_ | refine blk_alloc ?_ _)); refine blk_put (cs := #[.int .i64 0, .slice none 0 0]) ?_ 0 _ rfl; exact Kz BK565.out) hb); have n6_ := Bc HB hb; clear HO555 HO558 HO563 BK559 BK565 HB; revert n0_ n1_ n2_ n3_ n4_ n5_ n6_; intro HO555 HO558 HO563 HO569 BK559 BK565 HB; (try clear hb); (try clear hb2); (try clear hk); (try clear hi); (try clear ho0)) | ((with_reducible refine gate_dst (N := 9) rfl ?_); (try (refine gate_guard (by rfl) ?_; dsimp only)); refine bE 9 #[.int .i64 0, .slice none 0 0] 37 ?_; intro gb571 hg w21 hbox hb; have n0_ := am (Kd.S_below (by (with_reducible repeat (first | apply Kd.S_alloc | apply Kd.S_drewN | apply Kd.S_drew)); exact HO555.out) hb); have n1_ := Rb HO558 hb; have n2_ := am (Kd.S_below (by (with_reducible repeat (first | apply Kd.S_alloc | apply Kd.S_drewN | apply Kd.S_drew)); exact HO563.out) hb); have n3_ := am (Kd.S_below (by (with_reducible repeat (first | apply Kd.S_alloc | apply Kd.S_drewN | apply Kd.S_drew)); exact HO569.out) hb); have n4_ := Kb BK559 hb; have n5_ := Kb BK565 hb; have n6_ := Bc HB hb; have n7_ := am (hbox); have n8_ := Gm HB hg; have n9_ := Gm HB hg; have n10_ := Nl BK559 hg; have n11_ := Ng BK559 hg; have n12_ := Nl BK565 hg; have n13_ := Ng BK565 hg; clear HO555 HO558 HO563 HO569 BK559 BK565 HB; revert n0_ n1_ n2_ n3_ n4_ n5_ n6_ n7_ n8_ n9_ n10_ n11_ n12_ n13_; intro HO555 HO558 HO563 HO569 BK559 BK565 HB BK571 GW571 GE571 NB559_571 NB571_559 NB565_571 NB571_565; clear hb hbox hg; have hnb22 := NB571_559.out; have hnc22 := NB559_571.out; have hnb23 := NB571_565.out; have hnc23 := NB565_571.out; obtain ⟨hcz24_0, hcz24_1, hfz24_0, hfz24_1⟩ := cf2 (w := w21) BK571; obtain ⟨Ao25, co25, eo25⟩ := Kd.S_slice HO569.out; subst eo25))
  (try simp only [aP])
  go_cut [71] (fun v71 wc => ∃ (kq : Nat) (x71_7 : Bool), v71 = .bool x71_7 ∧ Aside0 (laws_FnEdgesAndDegrees.j0 kq t570 x71_7 t552 t553 t560 t561 = some r) ∧ Aside0 (kq ≤ k) ∧ Aside0 (Kd.S (Kd.slice 3 (Kd.int .i64)) 32 wc w.heap.size (fun k_ => some k_ ≠ ((.slice Ao18 t561.length co18) : Value).ownBlock ∧ some k_ ≠ ((.slice Ao25 t567.length co25) : Value).ownBlock) (.slice Ao12 t553.length co12) t553) ∧ Aside0 (Kd.S (Kd.slice 3 (Kd.int .i64)) 32 wc w.heap.size (fun k_ => some k_ ≠ ((.slice Ao12 t553.length co12) : Value).ownBlock ∧ some k_ ≠ ((.slice Ao25 t567.length co25) : Value).ownBlock) (.slice Ao18 t561.length co18) t561) ∧ Aside0 (Kd.S (Kd.slice 3 (Kd.int .i64)) 32 wc w.heap.size (fun k_ => some k_ ≠ ((.slice Ao12 t553.length co12) : Value).ownBlock ∧ some k_ ≠ ((.slice Ao18 t561.length co18) : Value).ownBlock) (.slice Ao25 t567.length co25) t567) ∧ Aside0 (wc.heap[gb559]? = some (.cells #[.int .i64 t552, (.slice Ao12 t553.length co12)] 37 (0, 0))) ∧ Aside0 (wc.heap[gb565]? = some (.cells #[.int .i64 t560, (.slice Ao18 t561.length co18)] 37 (0, 0))) ∧ Aside0 (wc.heap[gb571]? = some (.cells #[.int .i64 t566, (.slice Ao25 t567.length co25)] 37 (0, 0))) ∧ Aside0 (Below w.heap.size w wc))
  case first =>
   have H := HC8.out; clear HC8
   by_cases c26 : (t564 != t570) = true
   ·rw [if_pos c26] at H
    have c26b0 : (t564 != t570) = true := c26
    (try (have c26b1 : decide (t564 = t570) = false := by simpa using c26))
    (try (have c26b2 : (t564 == t570) = false := by simpa using c26))
    (try (have c26b3 : ¬ (t564 = t570) := by simpa using c26))
    (try (have c26b4 : (!(t564 == t570)) = true := c26b0))
    clear c26
    (first | rw [c26b0] | (simp only [i64_w, i32_w]; rw [c26b0]) | skip)
    exact absurd (H.trans (congrArg some HQT_.out)) (laws_FnEdgesAndDegrees.j0.dead _ _ _ _ _ _)
   ·rw [if_neg c26] at H
    have c26b0 : (t564 != t570) = false := by simpa using c26
    (try (have c26b1 : decide (t564 = t570) = true := by simpa using c26))
    (try (have c26b2 : (t564 == t570) = true := by simpa using c26))
    (try (have c26b3 : (!(t564 == t570)) = false := c26b0))
    clear c26
    (first | rw [c26b0] | (simp only [i64_w, i32_w]; rw [c26b0]) | skip)
    by_cases c27 : t560 = t566
    ·rw [if_pos c27] at H
     have c27b0 : (t560 == t566) = true := beq_iff_eq.mpr c27; have c27b1 : (t560 != t566) = false := bne_eq_false_iff_eq.mpr c27; clear c27; have H' := am H; clear H; have hnb28 := NB565_559.out; have hnc28 := NB559_565.out; have hnb29 := NB565_571.out; have hnc29 := NB571_565.out; obtain ⟨hcz30_0, hcz30_1, hfz30_0, hfz30_1⟩ := cf2 (w := w21) BK565; have hnb31 := NB571_559.out; have hnc31 := NB559_571.out; obtain ⟨hcz32_0, hcz32_1, hfz32_0, hfz32_1⟩ := cf2 (w := w21) BK571
     go_wp2
     go_meet
     case rel => exact ⟨_, (((t561.length : Int) != (t567.length : Int))), wZ, H', ⟨by first | omega | exact Nat.le_refl _⟩, ⟨by (with_reducible repeat (first | apply Kd.S_alloc | apply Kd.S_drewN | apply Kd.S_drew)); exact Kd.S_mono (Kd.S_far (p := ⟨gb571, 1, none⟩) (Kd.S_far (p := ⟨gb571, 0, none⟩) (Kd.S_types HO555.out BK571.out (by decide)) (fun _ hk => hk.2) (.int .i64 t566)) (fun _ hk => hk.2) (.slice Ao25 t567.length co25)) (fun _ hk => ⟨hk.1.1.2, hk.1.2⟩)⟩, ⟨by (with_reducible repeat (first | apply Kd.S_alloc | apply Kd.S_drewN | apply Kd.S_drew)); exact Kd.S_mono (Kd.S_far (p := ⟨gb571, 1, none⟩) (Kd.S_far (p := ⟨gb571, 0, none⟩) (Kd.S_types HO563.out BK571.out (by decide)) (fun _ hk => hk.2) (.int .i64 t566)) (fun _ hk => hk.2) (.slice Ao25 t567.length co25)) (fun _ hk => ⟨hk.1.1.1.2, hk.1.2⟩)⟩, ⟨by (with_reducible repeat (first | apply Kd.S_alloc | apply Kd.S_drewN | apply Kd.S_drew)); exact Kd.S_mono (Kd.S_far (p := ⟨gb571, 1, none⟩) (Kd.S_far (p := ⟨gb571, 0, none⟩) (Kd.S_types HO569.out BK571.out (by decide)) (fun _ hk => hk.2) (.int .i64 t566)) (fun _ hk => hk.2) (.slice Ao25 t567.length co25)) (fun _ hk => ⟨hk.1.1.1.2, hk.1.2⟩)⟩, ⟨by (with_reducible repeat (first | refine blk_drewN ?_ _ | refine blk_drew ?_ | refine blk_alloc ?_ _)); refine blk_far ?_ NB559_571.out _; (with_reducible repeat (first | refine blk_drewN ?_ _ | refine blk_drew ?_ | refine blk_alloc ?_ _)); refine blk_far ?_ NB559_571.out _; (with_reducible repeat (first | refine blk_drewN ?_ _ | refine blk_drew ?_ | refine blk_alloc ?_ _)); exact BK559.out⟩, ⟨by (with_reducible repeat (first | refine blk_drewN ?_ _ | refine blk_drew ?_ | refine blk_alloc ?_ _)); refine blk_far ?_ NB565_571.out _; (with_reducible repeat (first | refine blk_drewN ?_ _ | refine blk_drew ?_ | refine blk_alloc ?_ _)); refine blk_far ?_ NB565_571.out _; (with_reducible repeat (first | refine blk_drewN ?_ _ | refine blk_drew ?_ | refine blk_alloc ?_ _)); exact BK565.out⟩, ⟨by (with_reducible repeat (first | refine blk_drewN ?_ _ | refine blk_drew ?_ | refine blk_alloc ?_ _)); refine blk_put (cs := #[.int .i64 t566, .slice none 0 0]) ?_ 1 _ rfl; (with_reducible repeat (first | refine blk_drewN ?_ _ | refine blk_drew ?_ | refine blk_alloc ?_ _)); refine blk_put (cs := #[.int .i64 0, .slice none 0 0]) ?_ 0 _ rfl; (with_reducible repeat (first | refine blk_drewN ?_ _ | refine blk_drew ?_ | refine blk_alloc ?_ _)); exact BK571.out⟩, ⟨Bq⟩⟩
    ·rw [if_neg c27] at H
     have c27b0 : (t560 == t566) = false := beq_eq_false_iff_ne.mpr c27; have c27b1 : (t560 != t566) = true := bne_iff_ne.mpr c27; exact absurd (H.trans (congrArg some HQT_.out)) (laws_FnEdgesAndDegrees.j0.dead _ _ _ _ _ _)
  case rest =>
   refine Nonempty.elim ?_ id
   refine (letI hh_ : Nonempty (_ : Prop) := ?apart1; (?close1 : type_of% hh_))
   case apart1 =>
    refine Nonempty.intro ?_
    clear HC8
    try clear c1
    try clear c2
    try clear p2
    try clear c3
    try clear c4
    try clear c6
    try clear c12
    try clear c16
    try clear c22
    try clear c23
    try clear c26
    try clear c26b0
    try clear c26b1
    try clear c26b2
    try clear c27
    try clear c27b0
    try clear c27b1
    try clear c28
    try clear c29
    try clear c31
    try clear c32
    try clear hcz11_0
    try clear hcz11_1
    try clear hcz17_0
    try clear hcz17_1
    try clear hcz19_0
    try clear hcz19_1
    try clear hcz24_0
    try clear hcz24_1
    try clear hcz30_0
    try clear hcz30_1
    try clear hcz32_0
    try clear hcz32_1
    try clear hfz11_0
    try clear hfz11_1
    try clear hfz17_0
    try clear hfz17_1
    try clear hfz19_0
    try clear hfz19_1
    try clear hfz24_0
    try clear hfz24_1
    try clear hfz30_0
    try clear hfz30_1
    try clear hfz32_0
    try clear hfz32_1
    obtain ⟨kq, x71_7, rfl, HA, HJ7, HO_560001, HO_566001, HO_572001, BK559, BK565, BK571, HB⟩ := hcut; cases kq with
    | zero => exact absurd HA.out (by simp [laws_FnEdgesAndDegrees.j0])
    | succ kj7 =>
     have H := HA.out; clear HA
     simp only [laws_FnEdgesAndDegrees.j0] at H
     by_cases c33 : x71_7 = true
     ·subst c33
      rw [if_pos rfl] at H; exact absurd (Option.some.inj H) (by rw [HQT_.out]; decide)
     ·replace c33 := Bool.eq_false_iff.mpr c33
      subst c33
      rw [if_neg (show ¬ (false = true) by decide)] at H
      by_cases c34 : t570 = true
      ·subst c34
       rw [if_pos rfl] at H; replace H := Option.bind_eq_some_iff.mp H; obtain ⟨⟨t572, t575⟩, A350, H⟩ := H; (try dsimp -simprocs only at H); have A35 := am A350; clear A350; replace H := Option.bind_eq_some_iff.mp H; obtain ⟨⟨t576, t579⟩, A360, H⟩ := H; (try dsimp -simprocs only at H); have A36 := am A360; clear A360; replace H := Option.bind_eq_some_iff.mp H; obtain ⟨⟨t580, t583⟩, A370, H⟩ := H; (try dsimp -simprocs only at H); have A37 := am A370; clear A370; replace H := Option.bind_eq_some_iff.mp H; obtain ⟨⟨t584, t587⟩, A380, H⟩ := H; (try dsimp -simprocs only at H)
       have A38 := am A380; clear A380; have HC39 := am H; clear H; have hnb40 := NB559_565.out; have hnc40 := NB565_559.out; have hnb41 := NB559_571.out; have hnc41 := NB571_559.out; obtain ⟨hcz42_0, hcz42_1, hfz42_0, hfz42_1⟩ := cf2 (w := wc) BK559
       go_upto_region 14 with (first | ((with_reducible refine gate_callee (f := 22) rfl ?_); refine gL (some 76) Try.func22 #[.agg #[.int .i64 t552, .slice Ao12 t553.length co12]] ?_; (with_reducible refine (impl_CoreOf.calls kj7 t552 _ _ t553 t572 t575 _ ?side1 ?side2 A35.out).mono ?_); (case side1 => exact Cz ((Kd.S_reads' HO_560001.out).2.2)); (case side2 => exact (Kd.S_reads' HO_560001.out).2.1); rintro e w43 ⟨v573, rfl, ho0, hb⟩; refine ⟨_, rfl, ?_⟩; have n0_ := am (Kd.S_elder' (by (with_reducible repeat (first | apply Kd.S_alloc | apply Kd.S_drewN | apply Kd.S_drew)); exact HO_560001.out) (Kd.R_base ho0) hb); have n1_ := am (Kd.S_elder' (by (with_reducible repeat (first | apply Kd.S_alloc | apply Kd.S_drewN | apply Kd.S_drew)); exact HO_566001.out) (Kd.R_base ho0) hb); have n2_ := am (Kd.S_elder' (by (with_reducible repeat (first | apply Kd.S_alloc | apply Kd.S_drewN | apply Kd.S_drew)); exact HO_572001.out) (Kd.R_base ho0) hb); have n3_ := Rm ho0 HB; have n4_ := Kb BK559 hb; have n5_ := Kb BK565 hb; have n6_ := Kb BK571 hb; have n7_ := Bc HB hb; clear HO_560001 HO_566001 HO_572001 BK559 BK565 BK571 HB; revert n0_ n1_ n2_ n3_ n4_ n5_ n6_ n7_; intro HO_560001 HO_566001 HO_572001 HO574 BK559 BK565 BK571 HB; (try clear hb); (try clear hb2); (try clear hk); (try clear hi); (try clear ho0); have hnb44 := NB565_571.out; have hnc44 := NB571_565.out; obtain ⟨hcz45_0, hcz45_1, hfz45_0, hfz45_1⟩ := cf2 (w := w43) BK565) | ((with_reducible refine gate_callee (f := 22) rfl ?_); refine gL (some 81) Try.func22 #[.agg #[.int .i64 t560, .slice Ao18 t561.length co18]] ?_; (with_reducible refine (impl_CoreOf.calls kj7 t560 _ _ t561 t576 t579 _ ?side1 ?side2 A36.out).mono ?_); (case side1 => exact Cz ((Kd.S_reads' HO_566001.out).2.2)); (case side2 => exact (Kd.S_reads' HO_566001.out).2.1); rintro e w46 ⟨v577, rfl, ho0, hb⟩; refine ⟨_, rfl, ?_⟩; have n0_ := am (Kd.S_elder' (by (with_reducible repeat (first | apply Kd.S_alloc | apply Kd.S_drewN | apply Kd.S_drew)); exact HO_560001.out) (Kd.R_base ho0) hb); have n1_ := am (Kd.S_elder' (by (with_reducible repeat (first | apply Kd.S_alloc | apply Kd.S_drewN | apply Kd.S_drew)); exact HO_566001.out) (Kd.R_base ho0) hb); have n2_ := am (Kd.S_elder' (by (with_reducible repeat (first | apply Kd.S_alloc | apply Kd.S_drewN | apply Kd.S_drew)); exact HO_572001.out) (Kd.R_base ho0) hb); have n3_ := Re HO574 (Kd.R_base ho0) hb; have n4_ := Rm (Kd.R_new' ho0 (Kd.R_lt (Rz HO574.out))) HB; have n5_ := Kb BK559 hb; have n6_ := Kb BK565 hb; have n7_ := Kb BK571 hb; have n8_ := Bc HB hb; clear HO_560001 HO_566001 HO_572001 HO574 BK559 BK565 BK571 HB; revert n0_ n1_ n2_ n3_ n4_ n5_ n6_ n7_ n8_; intro HO_560001 HO_566001 HO_572001 HO574 HO578 BK559 BK565 BK571 HB; (try clear hb); (try clear hb2); (try clear hk); (try clear hi); (try clear ho0); obtain ⟨hcz47_0, hcz47_1, hfz47_0, hfz47_1⟩ := cf2 (w := w46) BK565) | ((with_reducible refine gate_callee (f := 23) rfl ?_); refine gL (some 86) Try.func23 #[.agg #[.int .i64 t560, .slice Ao18 t561.length co18]] ?_; (with_reducible refine (impl_HyperDegrees.calls kj7 t560 _ _ t561 t580 t583 _ ?side1 ?side2 A37.out).mono ?_); (case side1 => exact Cz ((Kd.S_reads' HO_566001.out).2.2)); (case side2 => exact (Kd.S_reads' HO_566001.out).2.1); rintro e w48 ⟨v581, rfl, ho0, hb⟩; refine ⟨_, rfl, ?_⟩; have n0_ := am (Kd.S_elder' (by (with_reducible repeat (first | apply Kd.S_alloc | apply Kd.S_drewN | apply Kd.S_drew)); exact HO_560001.out) (Kd.R_base ho0) hb); have n1_ := am (Kd.S_elder' (by (with_reducible repeat (first | apply Kd.S_alloc | apply Kd.S_drewN | apply Kd.S_drew)); exact HO_566001.out) (Kd.R_base ho0) hb); have n2_ := am (Kd.S_elder' (by (with_reducible repeat (first | apply Kd.S_alloc | apply Kd.S_drewN | apply Kd.S_drew)); exact HO_572001.out) (Kd.R_base ho0) hb); have n3_ := Re HO574 (Kd.R_base ho0) hb; have n4_ := Re HO578 (Kd.R_base ho0) hb; have n5_ := Rm (Kd.R_new' (Kd.R_new' ho0 (Kd.R_lt (Rz HO574.out))) (Kd.R_lt (Rz HO578.out))) HB; have n6_ := Kb BK559 hb; have n7_ := Kb BK565 hb; have n8_ := Kb BK571 hb; have n9_ := Bc HB hb; clear HO_560001 HO_566001 HO_572001 HO574 HO578 BK559 BK565 BK571 HB; revert n0_ n1_ n2_ n3_ n4_ n5_ n6_ n7_ n8_ n9_; intro HO_560001 HO_566001 HO_572001 HO574 HO578 HO582 BK559 BK565 BK571 HB; (try clear hb); (try clear hb2); (try clear hk); (try clear hi); (try clear ho0); obtain ⟨hcz49_0, hcz49_1, hfz49_0, hfz49_1⟩ := cf2 (w := w48) BK565) | ((with_reducible refine gate_callee (f := 34) rfl ?_); refine gL (some 91) Try.func34 #[.agg #[.int .i64 t560, .slice Ao18 t561.length co18]] ?_; (with_reducible refine (impl_HyperParts.calls kj7 t560 _ _ t561 t584 t587 _ ?side1 ?side2 A38.out).mono ?_); (case side1 => exact Cz ((Kd.S_reads' HO_566001.out).2.2)); (case side2 => exact (Kd.S_reads' HO_566001.out).2.1); rintro e w50 ⟨v585, rfl, ho0, hb⟩; refine ⟨_, rfl, ?_⟩; have n0_ := am (Kd.S_elder' (by (with_reducible repeat (first | apply Kd.S_alloc | apply Kd.S_drewN | apply Kd.S_drew)); exact HO_560001.out) (Kd.S_base ho0) hb); have n1_ := am (Kd.S_elder' (by (with_reducible repeat (first | apply Kd.S_alloc | apply Kd.S_drewN | apply Kd.S_drew)); exact HO_566001.out) (Kd.S_base ho0) hb); have n2_ := am (Kd.S_elder' (by (with_reducible repeat (first | apply Kd.S_alloc | apply Kd.S_drewN | apply Kd.S_drew)); exact HO_572001.out) (Kd.S_base ho0) hb); have n3_ := Rb HO574 hb; have n4_ := Rb HO578 hb; have n5_ := Rb HO582 hb; have n6_ := am (Kd.S_lower (Kd.S_new' (Kd.S_new' (Kd.S_new' (Kd.S_new' (Kd.S_new' (Kd.S_new' ho0 (Kd.S_lt (by (with_reducible repeat (first | apply Kd.S_alloc | apply Kd.S_drewN | apply Kd.S_drew)); exact HO_560001.out))) (Kd.S_lt (by (with_reducible repeat (first | apply Kd.S_alloc | apply Kd.S_drewN | apply Kd.S_drew)); exact HO_566001.out))) (Kd.S_lt (by (with_reducible repeat (first | apply Kd.S_alloc | apply Kd.S_drewN | apply Kd.S_drew)); exact HO_572001.out))) (Kd.R_lt (Rz HO574.out))) (Kd.R_lt (Rz HO578.out))) (Kd.R_lt (Rz HO582.out))) (below_size (w := w) (Bq))); have n7_ := Kb BK559 hb; have n8_ := Kb BK565 hb; have n9_ := Kb BK571 hb; have n10_ := Bc HB hb; clear HO_560001 HO_566001 HO_572001 HO574 HO578 HO582 BK559 BK565 BK571 HB; revert n0_ n1_ n2_ n3_ n4_ n5_ n6_ n7_ n8_ n9_ n10_; intro HO_560001 HO_566001 HO_572001 HO574 HO578 HO582 HO586 BK559 BK565 BK571 HB; (try clear hb); (try clear hb2); (try clear hk); (try clear hi); (try clear ho0)))
       (try simp only [aP])
       go_cut [114] (fun v114 wc => ∃ (kq : Nat) (x114_38 : Bool), v114 = .bool x114_38 ∧ Aside0 (laws_FnEdgesAndDegrees.j1 kq t572 t576 t580 t584 x114_38 t552 t553 t560 t561 = some r) ∧ Aside0 (kq ≤ kj7) ∧ Aside0 (Kd.R (Kd.int .i64) 3 wc w.heap.size (fun k_ => some k_ ≠ (v577 : Value).ownBlock ∧ some k_ ≠ (v581 : Value).ownBlock) v573 t572) ∧ Aside0 (Kd.R (Kd.int .i64) 3 wc w.heap.size (fun k_ => some k_ ≠ (v573 : Value).ownBlock ∧ some k_ ≠ (v581 : Value).ownBlock) v577 t576) ∧ Aside0 (Kd.R (Kd.int .i64) 3 wc w.heap.size (fun k_ => some k_ ≠ (v573 : Value).ownBlock ∧ some k_ ≠ (v577 : Value).ownBlock) v581 t580) ∧ Aside0 (Kd.S (Kd.slice 3 (Kd.int .i64)) 32 wc w.heap.size (fun k_ => some k_ ≠ (v573 : Value).ownBlock ∧ some k_ ≠ (v577 : Value).ownBlock ∧ some k_ ≠ (v581 : Value).ownBlock ∧ some k_ ≠ ((.slice Ao12 t553.length co12) : Value).ownBlock ∧ some k_ ≠ ((.slice Ao18 t561.length co18) : Value).ownBlock ∧ some k_ ≠ ((.slice Ao25 t567.length co25) : Value).ownBlock) v585 t584) ∧ Aside0 (Kd.S (Kd.slice 3 (Kd.int .i64)) 32 wc w.heap.size (fun k_ => some k_ ≠ (v573 : Value).ownBlock ∧ some k_ ≠ (v577 : Value).ownBlock ∧ some k_ ≠ (v581 : Value).ownBlock ∧ some k_ ≠ (v585 : Value).ownBlock ∧ some k_ ≠ ((.slice Ao18 t561.length co18) : Value).ownBlock ∧ some k_ ≠ ((.slice Ao25 t567.length co25) : Value).ownBlock) (.slice Ao12 t553.length co12) t553) ∧ Aside0 (Kd.S (Kd.slice 3 (Kd.int .i64)) 32 wc w.heap.size (fun k_ => some k_ ≠ (v573 : Value).ownBlock ∧ some k_ ≠ (v577 : Value).ownBlock ∧ some k_ ≠ (v581 : Value).ownBlock ∧ some k_ ≠ (v585 : Value).ownBlock ∧ some k_ ≠ ((.slice Ao12 t553.length co12) : Value).ownBlock ∧ some k_ ≠ ((.slice Ao25 t567.length co25) : Value).ownBlock) (.slice Ao18 t561.length co18) t561) ∧ Aside0 (Kd.S (Kd.slice 3 (Kd.int .i64)) 32 wc w.heap.size (fun k_ => some k_ ≠ (v573 : Value).ownBlock ∧ some k_ ≠ (v577 : Value).ownBlock ∧ some k_ ≠ (v581 : Value).ownBlock ∧ some k_ ≠ (v585 : Value).ownBlock ∧ some k_ ≠ ((.slice Ao12 t553.length co12) : Value).ownBlock ∧ some k_ ≠ ((.slice Ao18 t561.length co18) : Value).ownBlock) (.slice Ao25 t567.length co25) t567) ∧ Aside0 (wc.heap[gb559]? = some (.cells #[.int .i64 t552, (.slice Ao12 t553.length co12)] 37 (0, 0))) ∧ Aside0 (wc.heap[gb565]? = some (.cells #[.int .i64 t560, (.slice Ao18 t561.length co18)] 37 (0, 0))) ∧ Aside0 (wc.heap[gb571]? = some (.cells #[.int .i64 t566, (.slice Ao25 t567.length co25)] 37 (0, 0))) ∧ Aside0 (Below w.heap.size w wc))
       case first =>
        have H := HC39.out; clear HC39
        by_cases c51 : t575 = true
        ·subst c51
         rw [if_pos rfl] at H
         by_cases c52 : t579 = true
         ·subst c52
          rw [if_pos rfl] at H
          by_cases c53 : t583 = true
          ·subst c53
           rw [if_pos rfl] at H
           by_cases c54 : t587 = true
           ·subst c54
            rw [if_pos rfl] at H; have H' := am H; clear H; obtain ⟨Ao55, co55, eo55⟩ := Kd.R_slice HO582.out; subst eo55; have hnb56 := NB565_559.out; have hnc56 := NB559_565.out; have hnb57 := NB565_571.out; have hnc57 := NB571_565.out; obtain ⟨hcz58_0, hcz58_1, hfz58_0, hfz58_1⟩ := cf2 (w := w50) BK565
            go_wp2
            go_meet
            case rel => exact ⟨_, (((t580.length : Int) != t560)), wZ, H', ⟨by have := HJ7.out; first | omega | exact Nat.le_refl _⟩, ⟨Rz (Kd.R_mono HO574.out (fun _ hk => ⟨hk.1.2, hk.2⟩))⟩, ⟨Rz (Kd.R_mono HO578.out (fun _ hk => ⟨hk.1.2, hk.2⟩))⟩, ⟨Rz (Kd.R_mono HO582.out (fun _ hk => ⟨hk.1.2, hk.2⟩))⟩, ⟨by (with_reducible repeat (first | apply Kd.S_alloc | apply Kd.S_drewN | apply Kd.S_drew)); exact Kd.S_mono HO586.out (fun _ hk => ⟨hk.1.1.2, ⟨hk.1.2, ⟨hk.2, ⟨hk.1.1.1.1.1.2, ⟨hk.1.1.1.1.2, hk.1.1.1.2⟩⟩⟩⟩⟩)⟩, ⟨by (with_reducible repeat (first | apply Kd.S_alloc | apply Kd.S_drewN | apply Kd.S_drew)); exact Kd.S_mono HO_560001.out (fun _ hk => ⟨hk.1.1.1.2, ⟨hk.1.1.2, ⟨hk.1.2, ⟨hk.2, ⟨hk.1.1.1.1.1, hk.1.1.1.1.2⟩⟩⟩⟩⟩)⟩, ⟨by (with_reducible repeat (first | apply Kd.S_alloc | apply Kd.S_drewN | apply Kd.S_drew)); exact Kd.S_mono HO_566001.out (fun _ hk => ⟨hk.1.1.1.2, ⟨hk.1.1.2, ⟨hk.1.2, ⟨hk.2, ⟨hk.1.1.1.1.1, hk.1.1.1.1.2⟩⟩⟩⟩⟩)⟩, ⟨by (with_reducible repeat (first | apply Kd.S_alloc | apply Kd.S_drewN | apply Kd.S_drew)); exact Kd.S_mono HO_572001.out (fun _ hk => ⟨hk.1.1.1.2, ⟨hk.1.1.2, ⟨hk.1.2, ⟨hk.2, ⟨hk.1.1.1.1.1, hk.1.1.1.1.2⟩⟩⟩⟩⟩)⟩, ⟨Kz BK559.out⟩, ⟨Kz BK565.out⟩, ⟨Kz BK571.out⟩, ⟨Bq⟩⟩
           ·replace c54 := Bool.eq_false_iff.mpr c54
            subst c54
            rw [if_neg (show ¬ (false = true) by decide)] at H; exact absurd (H.trans (congrArg some HQT_.out)) (laws_FnEdgesAndDegrees.j1.dead _ _ _ _ _ _ _ _ _)
          ·replace c53 := Bool.eq_false_iff.mpr c53
           subst c53
           rw [if_neg (show ¬ (false = true) by decide)] at H; exact absurd (H.trans (congrArg some HQT_.out)) (laws_FnEdgesAndDegrees.j1.dead _ _ _ _ _ _ _ _ _)
         ·replace c52 := Bool.eq_false_iff.mpr c52
          subst c52
          rw [if_neg (show ¬ (false = true) by decide)] at H; exact absurd (H.trans (congrArg some HQT_.out)) (laws_FnEdgesAndDegrees.j1.dead _ _ _ _ _ _ _ _ _)
        ·replace c51 := Bool.eq_false_iff.mpr c51
         subst c51
         rw [if_neg (show ¬ (false = true) by decide)] at H; exact absurd (H.trans (congrArg some HQT_.out)) (laws_FnEdgesAndDegrees.j1.dead _ _ _ _ _ _ _ _ _)
       case rest =>
        refine Nonempty.elim ?_ id
        refine (letI hh_ : Nonempty (_ : Prop) := ?apart2; (?close2 : type_of% hh_))
        case apart2 =>
         refine Nonempty.intro ?_
         clear HC39
         try clear c1
         try clear c2
         try clear p2
         try clear c3
         try clear c4
         try clear c5
         try clear c6
         try clear c12
         try clear c16
         try clear c22
         try clear c23
         try clear c26
         try clear c26b0
         try clear c26b1
         try clear c26b2
         try clear c27
         try clear c27b0
         try clear c27b1
         try clear c28
         try clear c29
         try clear c31
         try clear c32
         try clear c33
         try clear c34
         try clear c40
         try clear c41
         try clear c44
         try clear c51
         try clear c52
         try clear c53
         try clear c54
         try clear c56
         try clear c57
         try clear hcz11_0
         try clear hcz11_1
         try clear hcz17_0
         try clear hcz17_1
         try clear hcz19_0
         try clear hcz19_1
         try clear hcz24_0
         try clear hcz24_1
         try clear hcz30_0
         try clear hcz30_1
         try clear hcz32_0
         try clear hcz32_1
         try clear hcz42_0
         try clear hcz42_1
         try clear hcz45_0
         try clear hcz45_1
         try clear hcz47_0
         try clear hcz47_1
         try clear hcz49_0
         try clear hcz49_1
         try clear hcz58_0
         try clear hcz58_1
         try clear hfz11_0
         try clear hfz11_1
         try clear hfz17_0
         try clear hfz17_1
         try clear hfz19_0
         try clear hfz19_1
         try clear hfz24_0
         try clear hfz24_1
         try clear hfz30_0
         try clear hfz30_1
         try clear hfz32_0
         try clear hfz32_1
         try clear hfz42_0
         try clear hfz42_1
         try clear hfz45_0
         try clear hfz45_1
         try clear hfz47_0
         try clear hfz47_1
         try clear hfz49_0
         try clear hfz49_1
         try clear hfz58_0
         try clear hfz58_1
         try clear p2
         obtain ⟨kq, x114_38, rfl, HA, HJ38, HO_11, HO_13, HO_15, HO_17, HO_560001, HO_566001, HO_572001, BK559, BK565, BK571, HB⟩ := hcut; cases kq with
         | zero => exact absurd HA.out (by simp [laws_FnEdgesAndDegrees.j1])
         | succ kj38 =>
          have H := HA.out; clear HA
          simp only [laws_FnEdgesAndDegrees.j1] at H
          by_cases c59 : x114_38 = true
          ·subst c59
           rw [if_pos rfl] at H; exact absurd (Option.some.inj H) (by rw [HQT_.out]; decide)
          ·replace c59 := Bool.eq_false_iff.mpr c59
           subst c59
           rw [if_neg (show ¬ (false = true) by decide)] at H; have H' := am H; clear H; obtain ⟨Ao60, co60, eo60⟩ := Kd.R_slice HO_11.out; subst eo60
           go_wp2
           go_loopg [117] kj38 (fun kq v117 w' => ∃ (x117_3 : Int), v117 = .int .i64 x117_3 ∧ Aside0 (laws_FnEdgesAndDegrees.l0 kq t576 t580 t584 t572 (t572.length : Int) x117_3 t552 t553 t560 t561 = some r) ∧ Aside0 (kq ≤ kj38) ∧ Aside0 (Kd.R (Kd.int .i64) 3 w' w.heap.size (fun k_ => some k_ ≠ (v581 : Value).ownBlock ∧ some k_ ≠ ((.slice Ao60 t572.length co60) : Value).ownBlock) v577 t576) ∧ Aside0 (Kd.R (Kd.int .i64) 3 w' w.heap.size (fun k_ => some k_ ≠ (v577 : Value).ownBlock ∧ some k_ ≠ ((.slice Ao60 t572.length co60) : Value).ownBlock) v581 t580) ∧ Aside0 (Kd.S (Kd.slice 3 (Kd.int .i64)) 32 w' w.heap.size (fun k_ => some k_ ≠ (v577 : Value).ownBlock ∧ some k_ ≠ (v581 : Value).ownBlock ∧ some k_ ≠ ((.slice Ao60 t572.length co60) : Value).ownBlock ∧ some k_ ≠ ((.slice Ao12 t553.length co12) : Value).ownBlock ∧ some k_ ≠ ((.slice Ao18 t561.length co18) : Value).ownBlock ∧ some k_ ≠ ((.slice Ao25 t567.length co25) : Value).ownBlock) v585 t584) ∧ Aside0 (Kd.R (Kd.int .i64) 3 w' w.heap.size (fun k_ => some k_ ≠ (v577 : Value).ownBlock ∧ some k_ ≠ (v581 : Value).ownBlock) (.slice Ao60 t572.length co60) t572) ∧ Aside0 (Kd.S (Kd.slice 3 (Kd.int .i64)) 32 w' w.heap.size (fun k_ => some k_ ≠ (v577 : Value).ownBlock ∧ some k_ ≠ (v581 : Value).ownBlock ∧ some k_ ≠ (v585 : Value).ownBlock ∧ some k_ ≠ ((.slice Ao60 t572.length co60) : Value).ownBlock ∧ some k_ ≠ ((.slice Ao18 t561.length co18) : Value).ownBlock ∧ some k_ ≠ ((.slice Ao25 t567.length co25) : Value).ownBlock) (.slice Ao12 t553.length co12) t553) ∧ Aside0 (Kd.S (Kd.slice 3 (Kd.int .i64)) 32 w' w.heap.size (fun k_ => some k_ ≠ (v577 : Value).ownBlock ∧ some k_ ≠ (v581 : Value).ownBlock ∧ some k_ ≠ (v585 : Value).ownBlock ∧ some k_ ≠ ((.slice Ao60 t572.length co60) : Value).ownBlock ∧ some k_ ≠ ((.slice Ao12 t553.length co12) : Value).ownBlock ∧ some k_ ≠ ((.slice Ao25 t567.length co25) : Value).ownBlock) (.slice Ao18 t561.length co18) t561) ∧ Aside0 (Kd.S (Kd.slice 3 (Kd.int .i64)) 32 w' w.heap.size (fun k_ => some k_ ≠ (v577 : Value).ownBlock ∧ some k_ ≠ (v581 : Value).ownBlock ∧ some k_ ≠ (v585 : Value).ownBlock ∧ some k_ ≠ ((.slice Ao60 t572.length co60) : Value).ownBlock ∧ some k_ ≠ ((.slice Ao12 t553.length co12) : Value).ownBlock ∧ some k_ ≠ ((.slice Ao18 t561.length co18) : Value).ownBlock) (.slice Ao25 t567.length co25) t567) ∧ Aside0 (w'.heap[gb559]? = some (.cells #[.int .i64 t552, (.slice Ao12 t553.length co12)] 37 (0, 0))) ∧ Aside0 (w'.heap[gb565]? = some (.cells #[.int .i64 t560, (.slice Ao18 t561.length co18)] 37 (0, 0))) ∧ Aside0 (w'.heap[gb571]? = some (.cells #[.int .i64 t566, (.slice Ao25 t567.length co25)] 37 (0, 0))) ∧ Aside0 (Below w.heap.size w w'))
           case atStart => exact ⟨(0), wZ, H', ⟨Nat.le_refl _⟩, ⟨Rz (Kd.R_mono HO_13.out (fun _ hk => ⟨hk.2, hk.1⟩))⟩, ⟨Rz (Kd.R_mono HO_15.out (fun _ hk => ⟨hk.2, hk.1⟩))⟩, ⟨by (with_reducible repeat (first | apply Kd.S_alloc | apply Kd.S_drewN | apply Kd.S_drew)); exact Kd.S_mono HO_17.out (fun _ hk => ⟨hk.2.1, ⟨hk.2.2.1, ⟨hk.1, ⟨hk.2.2.2.1, ⟨hk.2.2.2.2.1, hk.2.2.2.2.2⟩⟩⟩⟩⟩)⟩, ⟨Rz HO_11.out⟩, ⟨by (with_reducible repeat (first | apply Kd.S_alloc | apply Kd.S_drewN | apply Kd.S_drew)); exact Kd.S_mono HO_560001.out (fun _ hk => ⟨hk.2.1, ⟨hk.2.2.1, ⟨hk.2.2.2.1, ⟨hk.1, ⟨hk.2.2.2.2.1, hk.2.2.2.2.2⟩⟩⟩⟩⟩)⟩, ⟨by (with_reducible repeat (first | apply Kd.S_alloc | apply Kd.S_drewN | apply Kd.S_drew)); exact Kd.S_mono HO_566001.out (fun _ hk => ⟨hk.2.1, ⟨hk.2.2.1, ⟨hk.2.2.2.1, ⟨hk.1, ⟨hk.2.2.2.2.1, hk.2.2.2.2.2⟩⟩⟩⟩⟩)⟩, ⟨by (with_reducible repeat (first | apply Kd.S_alloc | apply Kd.S_drewN | apply Kd.S_drew)); exact Kd.S_mono HO_572001.out (fun _ hk => ⟨hk.2.1, ⟨hk.2.2.1, ⟨hk.2.2.2.1, ⟨hk.1, ⟨hk.2.2.2.2.1, hk.2.2.2.2.2⟩⟩⟩⟩⟩)⟩, ⟨Kz BK559.out⟩, ⟨Kz BK565.out⟩, ⟨Kz BK571.out⟩, ⟨Bq⟩⟩
           case round =>
            clear H'
            try clear c1
            try clear c2
            try clear p2
            try clear c3
            try clear c4
            try clear c5
            try clear c6
            try clear c12
            try clear c16
            try clear c22
            try clear c23
            try clear c26
            try clear c26b0
            try clear c26b1
            try clear c26b2
            try clear c27
            try clear c27b0
            try clear c27b1
            try clear c28
            try clear c29
            try clear c31
            try clear c32
            try clear c33
            try clear c34
            try clear c40
            try clear c41
            try clear c44
            try clear c51
            try clear c52
            try clear c53
            try clear c54
            try clear c56
            try clear c57
            try clear c59
            try clear hcz11_0
            try clear hcz11_1
            try clear hcz17_0
            try clear hcz17_1
            try clear hcz19_0
            try clear hcz19_1
            try clear hcz24_0
            try clear hcz24_1
            try clear hcz30_0
            try clear hcz30_1
            try clear hcz32_0
            try clear hcz32_1
            try clear hcz42_0
            try clear hcz42_1
            try clear hcz45_0
            try clear hcz45_1
            try clear hcz47_0
            try clear hcz47_1
            try clear hcz49_0
            try clear hcz49_1
            try clear hcz58_0
            try clear hcz58_1
            try clear hfz11_0
            try clear hfz11_1
            try clear hfz17_0
            try clear hfz17_1
            try clear hfz19_0
            try clear hfz19_1
            try clear hfz24_0
            try clear hfz24_1
            try clear hfz30_0
            try clear hfz30_1
            try clear hfz32_0
            try clear hfz32_1
            try clear hfz42_0
            try clear hfz42_1
            try clear hfz45_0
            try clear hfz45_1
            try clear hfz47_0
            try clear hfz47_1
            try clear hfz49_0
            try clear hfz49_1
            try clear hfz58_0
            try clear hfz58_1
            try clear p2
            obtain ⟨x117_3, rfl, HA, HK3, HO_13, HO_15, HO_17, HO_115, HO_560001, HO_566001, HO_572001, BK559, BK565, BK571, HB⟩ := hrel; cases gk with
            | zero => exact absurd HA.out (by simp [laws_FnEdgesAndDegrees.l0])
            | succ k3 =>
             have H := HA.out; clear HA
             simp only [laws_FnEdgesAndDegrees.l0] at H
             by_cases c61 : x117_3 < (t572.length : Int)
             ·rw [if_pos c61] at H
              have c61b0 : decide (x117_3 < (t572.length : Int)) = true := decide_eq_true c61; clear c61
              by_cases c62 : 0 ≤ x117_3
              ·rw [if_pos c62] at H
               have c62b0 : decide (0 ≤ x117_3) = true := decide_eq_true c62; clear c62
               by_cases c63 : x117_3 < (t572.length : Int)
               ·rw [if_pos c63] at H
                have c63b0 : decide (x117_3 < (t572.length : Int)) = true := decide_eq_true c63; clear c63; replace H := Option.bind_eq_some_iff.mp H; obtain ⟨t589, A640, H⟩ := H; (try dsimp -simprocs only at H); have A64 := am A640; clear A640
                by_cases c65 : t589 = true
                ·subst c65
                 rw [if_pos rfl] at H; have H' := am H; clear H; obtain ⟨ad588, e588, hx588_0⟩ := Kd.at_int (Kd.R_reads' HO_115.out).2.2 x117_3 dT dT; cases e588; have p588 := eT (0 ≤ (x117_3 : Int)); have q588 := eT (x117_3 < (t572.length : Int)); obtain ⟨Ao66, co66, eo66⟩ := Kd.R_slice HO_13.out; subst eo66
                 go_wp2_with (first | ((with_reducible refine gate_callee (f := 26) rfl ?_); refine gL (some 123) Try.func26 #[.slice Ao66 t576.length co66, .int .i64 (rd t572 x117_3)] ?_; (with_reducible refine (laws_pHas.calls k3 _ _ t576 (rd t572 x117_3) true _ ?side1 ?side2 A64.out).mono ?_); (case side1 => exact Cz ((Kd.R_reads' HO_13.out).2.2)); (case side2 => exact (Kd.R_reads' HO_13.out).2.1); rintro e w' ⟨rfl, ⟨nd, rfl⟩⟩; refine ⟨_, rfl, ?_⟩))
                 go_roundg k3
                 case measure => have := HJ7.out; have := HJ38.out; have := HK3.out; omega
                 case rel => exact ⟨(wrap64 (x117_3 + 1)), wZ, H', ⟨by have := HJ7.out; have := HJ38.out; have := HK3.out; omega⟩, ⟨Rz HO_13.out⟩, ⟨Rz HO_15.out⟩, ⟨by (with_reducible repeat (first | apply Kd.S_alloc | apply Kd.S_drewN | apply Kd.S_drew)); exact HO_17.out⟩, ⟨Rz HO_115.out⟩, ⟨by (with_reducible repeat (first | apply Kd.S_alloc | apply Kd.S_drewN | apply Kd.S_drew)); exact HO_560001.out⟩, ⟨by (with_reducible repeat (first | apply Kd.S_alloc | apply Kd.S_drewN | apply Kd.S_drew)); exact HO_566001.out⟩, ⟨by (with_reducible repeat (first | apply Kd.S_alloc | apply Kd.S_drewN | apply Kd.S_drew)); exact HO_572001.out⟩, ⟨Kz BK559.out⟩, ⟨Kz BK565.out⟩, ⟨Kz BK571.out⟩, ⟨Bq⟩⟩
                ·replace c65 := Bool.eq_false_iff.mpr c65
                 subst c65
                 rw [if_neg (show ¬ (false = true) by decide)] at H; exact absurd (Option.some.inj H) (by rw [HQT_.out]; decide)
               ·rw [if_neg c63] at H
                exact absurd H (by simp)
              ·rw [if_neg c62] at H
               exact absurd H (by simp)
             ·rw [if_neg c61] at H
              have c61b0 : decide (x117_3 < (t572.length : Int)) = false := decide_eq_false c61; clear c61; have H' := am H; clear H; obtain ⟨Ao67, co67, eo67⟩ := Kd.R_slice HO_15.out; subst eo67
              go_wp2
              go_loopg [21, 128] k3 (fun kq v21 v128 w' => ∃ (x21_4 : Int) (x128_4 : Int), v21 = .int .i64 x21_4 ∧ v128 = .int .i64 x128_4 ∧ Aside0 (laws_FnEdgesAndDegrees.l1 kq t584 x21_4 t580 (t580.length : Int) x128_4 t552 t553 t560 t561 = some r) ∧ Aside0 (kq ≤ k3) ∧ Aside0 (Kd.S (Kd.slice 3 (Kd.int .i64)) 32 w' w.heap.size (fun k_ => some k_ ≠ ((.slice Ao67 t580.length co67) : Value).ownBlock ∧ some k_ ≠ ((.slice Ao12 t553.length co12) : Value).ownBlock ∧ some k_ ≠ ((.slice Ao18 t561.length co18) : Value).ownBlock ∧ some k_ ≠ ((.slice Ao25 t567.length co25) : Value).ownBlock) v585 t584) ∧ Aside0 (Kd.R (Kd.int .i64) 3 w' w.heap.size (fun _ => True) (.slice Ao67 t580.length co67) t580) ∧ Aside0 (Kd.S (Kd.slice 3 (Kd.int .i64)) 32 w' w.heap.size (fun k_ => some k_ ≠ (v585 : Value).ownBlock ∧ some k_ ≠ ((.slice Ao67 t580.length co67) : Value).ownBlock ∧ some k_ ≠ ((.slice Ao18 t561.length co18) : Value).ownBlock ∧ some k_ ≠ ((.slice Ao25 t567.length co25) : Value).ownBlock) (.slice Ao12 t553.length co12) t553) ∧ Aside0 (Kd.S (Kd.slice 3 (Kd.int .i64)) 32 w' w.heap.size (fun k_ => some k_ ≠ (v585 : Value).ownBlock ∧ some k_ ≠ ((.slice Ao67 t580.length co67) : Value).ownBlock ∧ some k_ ≠ ((.slice Ao12 t553.length co12) : Value).ownBlock ∧ some k_ ≠ ((.slice Ao25 t567.length co25) : Value).ownBlock) (.slice Ao18 t561.length co18) t561) ∧ Aside0 (Kd.S (Kd.slice 3 (Kd.int .i64)) 32 w' w.heap.size (fun k_ => some k_ ≠ (v585 : Value).ownBlock ∧ some k_ ≠ ((.slice Ao67 t580.length co67) : Value).ownBlock ∧ some k_ ≠ ((.slice Ao12 t553.length co12) : Value).ownBlock ∧ some k_ ≠ ((.slice Ao18 t561.length co18) : Value).ownBlock) (.slice Ao25 t567.length co25) t567) ∧ Aside0 (w'.heap[gb559]? = some (.cells #[.int .i64 t552, (.slice Ao12 t553.length co12)] 37 (0, 0))) ∧ Aside0 (w'.heap[gb565]? = some (.cells #[.int .i64 t560, (.slice Ao18 t561.length co18)] 37 (0, 0))) ∧ Aside0 (w'.heap[gb571]? = some (.cells #[.int .i64 t566, (.slice Ao25 t567.length co25)] 37 (0, 0))) ∧ Aside0 (Below w.heap.size w w'))
              case atStart => exact ⟨(0), (0), wZ, wZ, H', ⟨Nat.le_refl _⟩, ⟨by (with_reducible repeat (first | apply Kd.S_alloc | apply Kd.S_drewN | apply Kd.S_drew)); exact Kd.S_mono HO_17.out (fun _ hk => ⟨hk.2.1, ⟨hk.2.2.2.1, ⟨hk.2.2.2.2.1, hk.2.2.2.2.2⟩⟩⟩)⟩, ⟨Rz (Kd.R_mono HO_15.out (fun _ hk => trivial))⟩, ⟨by (with_reducible repeat (first | apply Kd.S_alloc | apply Kd.S_drewN | apply Kd.S_drew)); exact Kd.S_mono HO_560001.out (fun _ hk => ⟨hk.2.2.1, ⟨hk.2.1, ⟨hk.2.2.2.2.1, hk.2.2.2.2.2⟩⟩⟩)⟩, ⟨by (with_reducible repeat (first | apply Kd.S_alloc | apply Kd.S_drewN | apply Kd.S_drew)); exact Kd.S_mono HO_566001.out (fun _ hk => ⟨hk.2.2.1, ⟨hk.2.1, ⟨hk.2.2.2.2.1, hk.2.2.2.2.2⟩⟩⟩)⟩, ⟨by (with_reducible repeat (first | apply Kd.S_alloc | apply Kd.S_drewN | apply Kd.S_drew)); exact Kd.S_mono HO_572001.out (fun _ hk => ⟨hk.2.2.1, ⟨hk.2.1, ⟨hk.2.2.2.2.1, hk.2.2.2.2.2⟩⟩⟩)⟩, ⟨Kz BK559.out⟩, ⟨Kz BK565.out⟩, ⟨Kz BK571.out⟩, ⟨Bq⟩⟩
              case round =>
               clear H'
               try clear c1
               try clear c2
               try clear p2
               try clear c3
               try clear c4
               try clear c5
               try clear p5
               try clear q5
               try clear hx5
               try clear c6
               try clear p6
               try clear c12
               try clear c16
               try clear c22
               try clear c23
               try clear c26
               try clear c26b0
               try clear c26b1
               try clear c26b2
               try clear c27
               try clear c27b0
               try clear c27b1
               try clear c28
               try clear c29
               try clear c31
               try clear c32
               try clear c33
               try clear c34
               try clear c40
               try clear c41
               try clear c44
               try clear c51
               try clear c52
               try clear c53
               try clear c54
               try clear c56
               try clear c57
               try clear p58
               try clear q58
               try clear hx58
               try clear c59
               try clear c61
               try clear c61b0
               try clear c62
               try clear c62b0
               try clear c63
               try clear c63b0
               try clear p64
               try clear c65
               try clear hcz11_0
               try clear hcz11_1
               try clear hcz17_0
               try clear hcz17_1
               try clear hcz19_0
               try clear hcz19_1
               try clear hcz24_0
               try clear hcz24_1
               try clear hcz30_0
               try clear hcz30_1
               try clear hcz32_0
               try clear hcz32_1
               try clear hcz42_0
               try clear hcz42_1
               try clear hcz45_0
               try clear hcz45_1
               try clear hcz47_0
               try clear hcz47_1
               try clear hcz49_0
               try clear hcz49_1
               try clear hcz58_0
               try clear hcz58_1
               try clear hfz11_0
               try clear hfz11_1
               try clear hfz17_0
               try clear hfz17_1
               try clear hfz19_0
               try clear hfz19_1
               try clear hfz24_0
               try clear hfz24_1
               try clear hfz30_0
               try clear hfz30_1
               try clear hfz32_0
               try clear hfz32_1
               try clear hfz42_0
               try clear hfz42_1
               try clear hfz45_0
               try clear hfz45_1
               try clear hfz47_0
               try clear hfz47_1
               try clear hfz49_0
               try clear hfz49_1
               try clear hfz58_0
               try clear hfz58_1
               try clear hx588_0
               try clear p2
               try clear p588
               try clear q588
               obtain ⟨x21_4, x128_4, rfl, rfl, HA, HK4, HO_17, HO_126, HO_560001, HO_566001, HO_572001, BK559, BK565, BK571, HB⟩ := hrel; cases gk with
               | zero => exact absurd HA.out (by simp [laws_FnEdgesAndDegrees.l1])
               | succ k4 =>
                have H := HA.out; clear HA
                simp only [laws_FnEdgesAndDegrees.l1] at H
                by_cases c68 : x128_4 < (t580.length : Int)
                ·rw [if_pos c68] at H
                 have c68b0 : decide (x128_4 < (t580.length : Int)) = true := decide_eq_true c68; clear c68
                 by_cases c69 : 0 ≤ x128_4
                 ·rw [if_pos c69] at H
                  have c69b0 : decide (0 ≤ x128_4) = true := decide_eq_true c69; clear c69
                  by_cases c70 : x128_4 < (t580.length : Int)
                  ·rw [if_pos c70] at H
                   have c70b0 : decide (x128_4 < (t580.length : Int)) = true := decide_eq_true c70; clear c70; replace H := Option.bind_eq_some_iff.mp H; obtain ⟨⟨t591, t594⟩, A710, H⟩ := H; (try dsimp -simprocs only at H); have A71 := am A710; clear A710
                   by_cases c72 : t594 = true
                   ·subst c72
                    rw [if_pos rfl] at H
                    by_cases c73 : (t591.length : Int) = (rd t580 x128_4)
                    ·rw [if_pos c73] at H
                     have c73b0 : ((t591.length : Int) == (rd t580 x128_4)) = true := beq_iff_eq.mpr c73; have c73b1 : ((t591.length : Int) != (rd t580 x128_4)) = false := bne_eq_false_iff_eq.mpr c73; clear c73; have H' := am H; clear H; obtain ⟨ad590, e590, hx590_0⟩ := Kd.at_int (Kd.R_reads' HO_126.out).2.2 x128_4 dT dT; cases e590; have p590 := eT (0 ≤ (x128_4 : Int)); have q590 := eT (x128_4 < (t580.length : Int)); have hnb74 := NB565_559.out; have hnc74 := NB559_565.out; have hnb75 := NB565_571.out; have hnc75 := NB571_565.out; obtain ⟨hcz76_0, hcz76_1, hfz76_0, hfz76_1⟩ := cf2 (w := wr) BK565
                     go_wp2_with (first | ((with_reducible refine gate_callee (f := 35) rfl ?_); refine gL (some 136) Try.func35 #[.agg #[.int .i64 t560, .slice Ao18 t561.length co18], .int .i64 x128_4] ?_; (with_reducible refine (impl_EdgesAt.calls k4 t560 _ _ t561 x128_4 t591 true _ ?side1 ?side2 A71.out).mono ?_); (case side1 => exact Cz ((Kd.S_reads' HO_566001.out).2.2)); (case side2 => exact (Kd.S_reads' HO_566001.out).2.1); rintro e w77 ⟨v592, rfl, ho0, hb⟩; refine ⟨_, rfl, ?_⟩; have n0_ := am (Kd.S_elder' (by (with_reducible repeat (first | apply Kd.S_alloc | apply Kd.S_drewN | apply Kd.S_drew)); exact HO_17.out) (Kd.R_base ho0) hb); have n1_ := Re HO_126 (Kd.R_base ho0) hb; have n2_ := am (Kd.S_elder' (by (with_reducible repeat (first | apply Kd.S_alloc | apply Kd.S_drewN | apply Kd.S_drew)); exact HO_560001.out) (Kd.R_base ho0) hb); have n3_ := am (Kd.S_elder' (by (with_reducible repeat (first | apply Kd.S_alloc | apply Kd.S_drewN | apply Kd.S_drew)); exact HO_566001.out) (Kd.R_base ho0) hb); have n4_ := am (Kd.S_elder' (by (with_reducible repeat (first | apply Kd.S_alloc | apply Kd.S_drewN | apply Kd.S_drew)); exact HO_572001.out) (Kd.R_base ho0) hb); have n5_ := Rm (Kd.R_new' ho0 (Kd.R_lt (Rz HO_126.out))) HB; have n6_ := Kb BK559 hb; have n7_ := Kb BK565 hb; have n8_ := Kb BK571 hb; have n9_ := Bc HB hb; clear HO_17 HO_126 HO_560001 HO_566001 HO_572001 BK559 BK565 BK571 HB; revert n0_ n1_ n2_ n3_ n4_ n5_ n6_ n7_ n8_ n9_; intro HO_17 HO_126 HO_560001 HO_566001 HO_572001 HO593 BK559 BK565 BK571 HB; (try clear hb); (try clear hb2); (try clear hk); (try clear hi); (try clear ho0); obtain ⟨Ao78, co78, eo78⟩ := Kd.R_slice HO593.out; subst eo78))
                     go_roundg k4
                     case measure => have := HJ7.out; have := HJ38.out; have := HK3.out; have := HK4.out; omega
                     case rel => exact ⟨(wrap64 (x21_4 + (rd t580 x128_4))), (wrap64 (x128_4 + 1)), wZ, wZ, H', ⟨by have := HJ7.out; have := HJ38.out; have := HK3.out; have := HK4.out; omega⟩, ⟨by (with_reducible repeat (first | apply Kd.S_alloc | apply Kd.S_drewN | apply Kd.S_drew)); exact Kd.S_mono HO_17.out (fun _ hk => ⟨hk.1.1, ⟨hk.1.2.1, ⟨hk.1.2.2.1, hk.1.2.2.2⟩⟩⟩)⟩, ⟨Rz (Kd.R_mono HO_126.out (fun _ hk => trivial))⟩, ⟨by (with_reducible repeat (first | apply Kd.S_alloc | apply Kd.S_drewN | apply Kd.S_drew)); exact Kd.S_mono HO_560001.out (fun _ hk => ⟨hk.1.1, ⟨hk.1.2.1, ⟨hk.1.2.2.1, hk.1.2.2.2⟩⟩⟩)⟩, ⟨by (with_reducible repeat (first | apply Kd.S_alloc | apply Kd.S_drewN | apply Kd.S_drew)); exact Kd.S_mono HO_566001.out (fun _ hk => ⟨hk.1.1, ⟨hk.1.2.1, ⟨hk.1.2.2.1, hk.1.2.2.2⟩⟩⟩)⟩, ⟨by (with_reducible repeat (first | apply Kd.S_alloc | apply Kd.S_drewN | apply Kd.S_drew)); exact Kd.S_mono HO_572001.out (fun _ hk => ⟨hk.1.1, ⟨hk.1.2.1, ⟨hk.1.2.2.1, hk.1.2.2.2⟩⟩⟩)⟩, ⟨Kz BK559.out⟩, ⟨Kz BK565.out⟩, ⟨Kz BK571.out⟩, ⟨Bq⟩⟩
                    ·rw [if_neg c73] at H
                     have c73b0 : ((t591.length : Int) == (rd t580 x128_4)) = false := beq_eq_false_iff_ne.mpr c73; have c73b1 : ((t591.length : Int) != (rd t580 x128_4)) = true := bne_iff_ne.mpr c73; exact absurd (Option.some.inj H) (by rw [HQT_.out]; decide)
                   ·replace c72 := Bool.eq_false_iff.mpr c72
                    subst c72
                    rw [if_neg (show ¬ (false = true) by decide)] at H; exact absurd (Option.some.inj H) (by rw [HQT_.out]; decide)
                  ·rw [if_neg c70] at H
                   exact absurd H (by simp)
                 ·rw [if_neg c69] at H
                  exact absurd H (by simp)
                ·rw [if_neg c68] at H
                 have c68b0 : decide (x128_4 < (t580.length : Int)) = false := decide_eq_false c68; clear c68; have H' := am H; clear H; obtain ⟨Ao79, co79, eo79⟩ := Kd.S_slice HO_17.out; subst eo79
                 go_wp2
                 go_loopg [26, 153] k4 (fun kq v26 v153 w' => ∃ (x26_5 : List Int) (x153_5 : Int), v153 = .int .i64 x153_5 ∧ Aside0 (laws_FnEdgesAndDegrees.l2 kq x21_4 x26_5 t584 (t584.length : Int) x153_5 t552 t553 t560 t561 = some r) ∧ Aside0 (kq ≤ k4) ∧ Aside0 (Kd.R (Kd.int .i64) 3 w' w.heap.size (fun _ => True) v26 x26_5) ∧ Aside0 (Kd.S (Kd.slice 3 (Kd.int .i64)) 32 w' w.heap.size (fun k_ => some k_ ≠ (v26 : Value).ownBlock ∧ some k_ ≠ ((.slice Ao12 t553.length co12) : Value).ownBlock ∧ some k_ ≠ ((.slice Ao18 t561.length co18) : Value).ownBlock ∧ some k_ ≠ ((.slice Ao25 t567.length co25) : Value).ownBlock) (.slice Ao79 t584.length co79) t584) ∧ Aside0 (Kd.S (Kd.slice 3 (Kd.int .i64)) 32 w' w.heap.size (fun k_ => some k_ ≠ (v26 : Value).ownBlock ∧ some k_ ≠ ((.slice Ao79 t584.length co79) : Value).ownBlock ∧ some k_ ≠ ((.slice Ao18 t561.length co18) : Value).ownBlock ∧ some k_ ≠ ((.slice Ao25 t567.length co25) : Value).ownBlock) (.slice Ao12 t553.length co12) t553) ∧ Aside0 (Kd.S (Kd.slice 3 (Kd.int .i64)) 32 w' w.heap.size (fun k_ => some k_ ≠ (v26 : Value).ownBlock ∧ some k_ ≠ ((.slice Ao79 t584.length co79) : Value).ownBlock ∧ some k_ ≠ ((.slice Ao12 t553.length co12) : Value).ownBlock ∧ some k_ ≠ ((.slice Ao25 t567.length co25) : Value).ownBlock) (.slice Ao18 t561.length co18) t561) ∧ Aside0 (Kd.S (Kd.slice 3 (Kd.int .i64)) 32 w' w.heap.size (fun k_ => some k_ ≠ (v26 : Value).ownBlock ∧ some k_ ≠ ((.slice Ao79 t584.length co79) : Value).ownBlock ∧ some k_ ≠ ((.slice Ao12 t553.length co12) : Value).ownBlock ∧ some k_ ≠ ((.slice Ao18 t561.length co18) : Value).ownBlock) (.slice Ao25 t567.length co25) t567) ∧ Aside0 (w'.heap[gb559]? = some (.cells #[.int .i64 t552, (.slice Ao12 t553.length co12)] 37 (0, 0))) ∧ Aside0 (w'.heap[gb565]? = some (.cells #[.int .i64 t560, (.slice Ao18 t561.length co18)] 37 (0, 0))) ∧ Aside0 (w'.heap[gb571]? = some (.cells #[.int .i64 t566, (.slice Ao25 t567.length co25)] 37 (0, 0))) ∧ Aside0 (Below w.heap.size w w'))
                 case atStart => exact ⟨(([] : List Int)), (0), wZ, H', ⟨Nat.le_refl _⟩, ⟨nZ⟩, ⟨by (with_reducible repeat (first | apply Kd.S_alloc | apply Kd.S_drewN | apply Kd.S_drew)); exact Kd.S_mono HO_17.out (fun _ hk => ⟨(by simp [Value.ownBlock]), ⟨hk.2.1, ⟨hk.2.2.1, hk.2.2.2⟩⟩⟩)⟩, ⟨by (with_reducible repeat (first | apply Kd.S_alloc | apply Kd.S_drewN | apply Kd.S_drew)); exact Kd.S_mono HO_560001.out (fun _ hk => ⟨(by simp [Value.ownBlock]), ⟨hk.1, ⟨hk.2.2.1, hk.2.2.2⟩⟩⟩)⟩, ⟨by (with_reducible repeat (first | apply Kd.S_alloc | apply Kd.S_drewN | apply Kd.S_drew)); exact Kd.S_mono HO_566001.out (fun _ hk => ⟨(by simp [Value.ownBlock]), ⟨hk.1, ⟨hk.2.2.1, hk.2.2.2⟩⟩⟩)⟩, ⟨by (with_reducible repeat (first | apply Kd.S_alloc | apply Kd.S_drewN | apply Kd.S_drew)); exact Kd.S_mono HO_572001.out (fun _ hk => ⟨(by simp [Value.ownBlock]), ⟨hk.1, ⟨hk.2.2.1, hk.2.2.2⟩⟩⟩)⟩, ⟨Kz BK559.out⟩, ⟨Kz BK565.out⟩, ⟨Kz BK571.out⟩, ⟨Bq⟩⟩
                 case round =>
                  clear H'
                  try clear c1
                  try clear c2
                  try clear p2
                  try clear c3
                  try clear c4
                  try clear c5
                  try clear p5
                  try clear q5
                  try clear hx5
                  try clear c6
                  try clear p6
                  try clear c7
                  try clear c12
                  try clear c16
                  try clear c22
                  try clear c23
                  try clear c26
                  try clear c26b0
                  try clear c26b1
                  try clear c26b2
                  try clear c27
                  try clear c27b0
                  try clear c27b1
                  try clear c28
                  try clear c29
                  try clear c31
                  try clear c32
                  try clear c33
                  try clear c34
                  try clear c35
                  try clear c40
                  try clear c41
                  try clear c44
                  try clear c51
                  try clear c52
                  try clear c53
                  try clear c54
                  try clear c56
                  try clear c57
                  try clear p58
                  try clear q58
                  try clear hx58
                  try clear c59
                  try clear p59
                  try clear q59
                  try clear hx59
                  try clear c61
                  try clear c61b0
                  try clear c62
                  try clear c62b0
                  try clear c63
                  try clear c63b0
                  try clear p64
                  try clear c65
                  try clear c68
                  try clear c68b0
                  try clear c69
                  try clear c69b0
                  try clear c70
                  try clear c70b0
                  try clear c72
                  try clear c73
                  try clear c73b0
                  try clear c73b1
                  try clear c74
                  try clear c75
                  try clear hcz11_0
                  try clear hcz11_1
                  try clear hcz17_0
                  try clear hcz17_1
                  try clear hcz19_0
                  try clear hcz19_1
                  try clear hcz24_0
                  try clear hcz24_1
                  try clear hcz30_0
                  try clear hcz30_1
                  try clear hcz32_0
                  try clear hcz32_1
                  try clear hcz42_0
                  try clear hcz42_1
                  try clear hcz45_0
                  try clear hcz45_1
                  try clear hcz47_0
                  try clear hcz47_1
                  try clear hcz49_0
                  try clear hcz49_1
                  try clear hcz58_0
                  try clear hcz58_1
                  try clear hcz76_0
                  try clear hcz76_1
                  try clear hfz11_0
                  try clear hfz11_1
                  try clear hfz17_0
                  try clear hfz17_1
                  try clear hfz19_0
                  try clear hfz19_1
                  try clear hfz24_0
                  try clear hfz24_1
                  try clear hfz30_0
                  try clear hfz30_1
                  try clear hfz32_0
                  try clear hfz32_1
                  try clear hfz42_0
                  try clear hfz42_1
                  try clear hfz45_0
                  try clear hfz45_1
                  try clear hfz47_0
                  try clear hfz47_1
                  try clear hfz49_0
                  try clear hfz49_1
                  try clear hfz58_0
                  try clear hfz58_1
                  try clear hfz76_0
                  try clear hfz76_1
                  try clear hx588_0
                  try clear hx590_0
                  try clear p2
                  try clear p5
                  try clear p58
                  try clear p588
                  try clear p590
                  try clear p6
                  try clear p64
                  try clear q5
                  try clear q58
                  try clear q588
                  try clear q590
                  obtain ⟨x26_5, x153_5, rfl, HA, HK5, HO_26, HO_151, HO_560001, HO_566001, HO_572001, BK559, BK565, BK571, HB⟩ := hrel; cases gk with
                  | zero => exact absurd HA.out (by simp [laws_FnEdgesAndDegrees.l2])
                  | succ k5 =>
                   have H := HA.out; clear HA
                   simp only [laws_FnEdgesAndDegrees.l2] at H
                   by_cases c80 : x153_5 < (t584.length : Int)
                   ·rw [if_pos c80] at H
                    have c80b0 : decide (x153_5 < (t584.length : Int)) = true := decide_eq_true c80; clear c80
                    by_cases c81 : 0 ≤ x153_5
                    ·rw [if_pos c81] at H
                     have c81b0 : decide (0 ≤ x153_5) = true := decide_eq_true c81; clear c81
                     by_cases c82 : x153_5 < (t584.length : Int)
                     ·rw [if_pos c82] at H
                      have c82b0 : decide (x153_5 < (t584.length : Int)) = true := decide_eq_true c82; clear c82
                      by_cases c83 : x26_5.length + (rd_L2 t584 x153_5).length < 17592186044416
                      ·rw [if_pos c83] at H
                       have LMc83 := am c83; clear c83; obtain ⟨y596, hy596⟩ : ∃ y_ : List Int, y_ = (x26_5 ++ (rd_L2 t584 x153_5)) := ⟨_, rfl⟩
                       replace H : (laws_FnEdgesAndDegrees.l2 k5 x21_4 y596 t584 (t584.length : Int) (wrap64 (x153_5 + 1)) t552 t553 t560 t561) = some r := by first | (rw [hy596]; with_reducible exact H) | (have H2_ := (Option.bind_some _ _).symm.trans H; rw [hy596]; with_reducible exact H2_) | (have H2_ := (Option.bind_some _ _).symm.trans H; with_reducible exact H2_) | with_reducible exact H | (rw [hy596]; exact H) | exact H
                       have Ny596 := am hy596; clear hy596; have H' := am H; clear H; have p595 : 0 ≤ (x153_5 : Int) := dT; have q595 : x153_5 < (t584.length : Int) := dT; obtain ⟨ad595, A595_0, c595_0, e595, hx595_0, hl595_0, hi595_0⟩ := at_L2 (Kd.S_reads' HO_151.out).2.2 x153_5 p595 q595; cases e595; obtain ⟨ce595, hce595, hMe595, hcc595⟩ := Kd.S_get HO_151.out [] x153_5 p595 (by first | exact q595 | exact dT | (have e_ := (Kd.S_reads' HO_151.out).1; omega)); obtain ⟨ve595_0, rfl, ge595_0⟩ := hMe595; have hv595_0 := hcc595 0 _ rfl; rw [Nat.add_zero, show ((Kd.slice 3 (Kd.int .i64))).sz = 1 from rfl, Nat.mul_one] at hv595_0; replace hv595_0 := Option.some.inj (hv595_0.symm.trans hx595_0); rw [hv595_0] at ge595_0; have HL595_0 := am (show Kd.R (Kd.int .i64) 3 _ _ _ _ (rd_L2 t584 x153_5) from ge595_0); clear hv595_0 ge595_0; clear hcc595 hce595; have HR595_0 := am hi595_0; have HC595_0 := am hl595_0; clear hi595_0 hl595_0; replace p595 := eq_true p595; replace q595 := eq_true q595
                       go_wp2_with (first | ((with_reducible refine gate_builtin (b := .append) (xs := #[.tmp 157, .tmp 158]) rfl ?_); (try (refine gate_guard (by rfl) ?_; dsimp only)); at_builtin; refine Kd.R_append_rows (Kd.int .i64) (w0 := w) w.heap.size rfl (.tmp 157) (.tmp 158) 32 3 (.int .i64 0) 8 rfl Try.underlying32 info3 rfl (by decide) (by omega) u26 x26_5 (rd_L2 t584 x153_5) _ _ _ (fun _ => True) (fun _ => False) rfl rfl ?aO ?aR (fun _ _ h => h) (fun _ h => h.elim) ?aF ?aB ?aS ?aL ?_; (case aR => repeat (first | exact (by repeat (first | (with_reducible exact HR595_0.out) | (with_reducible refine Kd.C_alloc ?_ _) | (with_reducible refine Kd.C_drewN ?_ _) | (with_reducible refine Kd.C_drew ?_) | exact HR595_0.out)) | (with_reducible refine Kd.C_alloc ?_ _) | (with_reducible refine Kd.C_drewN ?_ _) | (with_reducible refine Kd.C_drew ?_))); (case aB => exact (Bq)); (case aF => exact (fun _ _ => trivial)); (case aO => exact (Rz HO_26.out)); (case aS => exact (below_size (w := w) (Bq))); (case aL => have := LMc83.out; omega); intro v597 w84 ho hb hg hat; rw [← Ny596.out] at ho; have n0_ := am (Kd.S_after (ok := (fun k_ => some k_ ≠ (.slice Ao12 t553.length co12 : Value).ownBlock ∧ some k_ ≠ (.slice Ao18 t561.length co18 : Value).ownBlock ∧ some k_ ≠ (.slice Ao25 t567.length co25 : Value).ownBlock)) (by (with_reducible repeat (first | apply Kd.S_alloc | apply Kd.S_drewN | apply Kd.S_drew)); exact Kd.S_mono HO_151.out (fun _ hk => ⟨⟨hk.2.1, ⟨hk.2.2.1, hk.2.2.2⟩⟩, hk.1⟩)) hg hat); have n1_ := am (Kd.S_after (ok := (fun k_ => some k_ ≠ (.slice (some ad595) t584.length co79 : Value).ownBlock ∧ some k_ ≠ (.slice Ao18 t561.length co18 : Value).ownBlock ∧ some k_ ≠ (.slice Ao25 t567.length co25 : Value).ownBlock)) (by (with_reducible repeat (first | apply Kd.S_alloc | apply Kd.S_drewN | apply Kd.S_drew)); exact Kd.S_mono HO_560001.out (fun _ hk => ⟨⟨hk.2.1, ⟨hk.2.2.1, hk.2.2.2⟩⟩, hk.1⟩)) hg hat); have n2_ := am (Kd.S_after (ok := (fun k_ => some k_ ≠ (.slice (some ad595) t584.length co79 : Value).ownBlock ∧ some k_ ≠ (.slice Ao12 t553.length co12 : Value).ownBlock ∧ some k_ ≠ (.slice Ao25 t567.length co25 : Value).ownBlock)) (by (with_reducible repeat (first | apply Kd.S_alloc | apply Kd.S_drewN | apply Kd.S_drew)); exact Kd.S_mono HO_566001.out (fun _ hk => ⟨⟨hk.2.1, ⟨hk.2.2.1, hk.2.2.2⟩⟩, hk.1⟩)) hg hat); have n3_ := am (Kd.S_after (ok := (fun k_ => some k_ ≠ (.slice (some ad595) t584.length co79 : Value).ownBlock ∧ some k_ ≠ (.slice Ao12 t553.length co12 : Value).ownBlock ∧ some k_ ≠ (.slice Ao18 t561.length co18 : Value).ownBlock)) (by (with_reducible repeat (first | apply Kd.S_alloc | apply Kd.S_drewN | apply Kd.S_drew)); exact Kd.S_mono HO_572001.out (fun _ hk => ⟨⟨hk.2.1, ⟨hk.2.2.1, hk.2.2.2⟩⟩, hk.1⟩)) hg hat); have n4_ := am (blk_grown (g := gb559) (o := .cells #[.int .i64 t552, .slice Ao12 t553.length co12] 37 (0, 0)) (Kz BK559.out) hg (Kd.R_ne HO_26.out BK559.out (by decide))); have n5_ := am (blk_grown (g := gb565) (o := .cells #[.int .i64 t560, .slice Ao18 t561.length co18] 37 (0, 0)) (Kz BK565.out) hg (Kd.R_ne HO_26.out BK565.out (by decide))); have n6_ := am (blk_grown (g := gb571) (o := .cells #[.int .i64 t566, .slice Ao25 t567.length co25] 37 (0, 0)) (Kz BK571.out) hg (Kd.R_ne HO_26.out BK571.out (by decide))); have n7_ := am (Kd.R_after (ok := (fun k_ => some k_ ≠ (.slice (some ad595) t584.length co79 : Value).ownBlock ∧ some k_ ≠ (.slice Ao12 t553.length co12 : Value).ownBlock ∧ some k_ ≠ (.slice Ao18 t561.length co18 : Value).ownBlock ∧ some k_ ≠ (.slice Ao25 t567.length co25 : Value).ownBlock)) (Rz (Kd.R_mono HL595_0.out (fun _ hk => ⟨⟨hk.2, ⟨hk.1.2.1, ⟨hk.1.2.2.1, hk.1.2.2.2⟩⟩⟩, hk.1.1⟩))) hg hat); have n8_ := am (hb); have n9_ := am (ho); clear HO_151 HO_560001 HO_566001 HO_572001 BK559 BK565 BK571 HL595_0 HB HO_26; revert n0_ n1_ n2_ n3_ n4_ n5_ n6_ n7_ n8_ n9_; intro HO_151 HO_560001 HO_566001 HO_572001 BK559 BK565 BK571 HL595_0 HB HO598; clear ho hb hg hat))
                       go_roundg k5
                       case measure => have := HJ7.out; have := HJ38.out; have := HK3.out; have := HK4.out; have := HK5.out; omega
                       case rel => exact ⟨(y596), (wrap64 (x153_5 + 1)), wZ, H', ⟨by have := HJ7.out; have := HJ38.out; have := HK3.out; have := HK4.out; have := HK5.out; omega⟩, ⟨Rz HO598.out⟩, ⟨by (with_reducible repeat (first | apply Kd.S_alloc | apply Kd.S_drewN | apply Kd.S_drew)); exact Kd.S_mono HO_151.out (fun _ hk => ⟨hk.2, ⟨hk.1.1, ⟨hk.1.2.1, hk.1.2.2⟩⟩⟩)⟩, ⟨by (with_reducible repeat (first | apply Kd.S_alloc | apply Kd.S_drewN | apply Kd.S_drew)); exact Kd.S_mono HO_560001.out (fun _ hk => ⟨hk.2, ⟨hk.1.1, ⟨hk.1.2.1, hk.1.2.2⟩⟩⟩)⟩, ⟨by (with_reducible repeat (first | apply Kd.S_alloc | apply Kd.S_drewN | apply Kd.S_drew)); exact Kd.S_mono HO_566001.out (fun _ hk => ⟨hk.2, ⟨hk.1.1, ⟨hk.1.2.1, hk.1.2.2⟩⟩⟩)⟩, ⟨by (with_reducible repeat (first | apply Kd.S_alloc | apply Kd.S_drewN | apply Kd.S_drew)); exact Kd.S_mono HO_572001.out (fun _ hk => ⟨hk.2, ⟨hk.1.1, ⟨hk.1.2.1, hk.1.2.2⟩⟩⟩)⟩, ⟨Kz BK559.out⟩, ⟨Kz BK565.out⟩, ⟨Kz BK571.out⟩, ⟨Bq⟩⟩
                      ·rw [if_neg c83] at H
                       exact absurd H (by simp)
                     ·rw [if_neg c82] at H
                      exact absurd H (by simp)
                    ·rw [if_neg c81] at H
                     exact absurd H (by simp)
                   ·rw [if_neg c80] at H
                    have c80b0 : decide (x153_5 < (t584.length : Int)) = false := decide_eq_false c80; clear c80; replace H := Option.bind_eq_some_iff.mp H; obtain ⟨⟨t599, t600, t603⟩, A850, H⟩ := H; (try dsimp -simprocs only at H); have A85 := am A850; clear A850; have HC86 := am H; clear H; have hnb87 := NB565_559.out; have hnc87 := NB559_565.out; have hnb88 := NB565_571.out; have hnc88 := NB571_565.out; obtain ⟨hcz89_0, hcz89_1, hfz89_0, hfz89_1⟩ := cf2 (w := wr) BK565; have hnb90 := NB559_571.out; have hnc90 := NB571_559.out; obtain ⟨hcz91_0, hcz91_1, hfz91_0, hfz91_1⟩ := cf2 (w := wr) BK559
                    go_upto_region 38 with (first | ((with_reducible refine gate_callee (f := 36) rfl ?_); refine gL (some 166) Try.func36 #[.agg #[.int .i64 t560, .slice Ao18 t561.length co18], .int .i64 (t553.length : Int)] ?_; (with_reducible refine (impl_WithoutEdge.calls k5 t560 _ _ t561 (t553.length : Int) t599 t600 t603 _ ?side1 ?side2 A85.out).mono ?_); (case side1 => exact Cz ((Kd.S_reads' HO_566001.out).2.2)); (case side2 => exact (Kd.S_reads' HO_566001.out).2.1); rintro e w92 ⟨v601, rfl, ho0, hb⟩; refine ⟨_, rfl, ?_⟩; have n0_ := Rb HO_26 hb; have n1_ := am (Kd.S_elder' (by (with_reducible repeat (first | apply Kd.S_alloc | apply Kd.S_drewN | apply Kd.S_drew)); exact HO_151.out) (Kd.S_base ho0) hb); have n2_ := am (Kd.S_elder' (by (with_reducible repeat (first | apply Kd.S_alloc | apply Kd.S_drewN | apply Kd.S_drew)); exact HO_560001.out) (Kd.S_base ho0) hb); have n3_ := am (Kd.S_elder' (by (with_reducible repeat (first | apply Kd.S_alloc | apply Kd.S_drewN | apply Kd.S_drew)); exact HO_566001.out) (Kd.S_base ho0) hb); have n4_ := am (Kd.S_elder' (by (with_reducible repeat (first | apply Kd.S_alloc | apply Kd.S_drewN | apply Kd.S_drew)); exact HO_572001.out) (Kd.S_base ho0) hb); have n5_ := am (Kd.S_lower (Kd.S_new' (Kd.S_new' (Kd.S_new' (Kd.S_new' (Kd.S_new' ho0 (Kd.R_lt (Rz HO_26.out))) (Kd.S_lt (by (with_reducible repeat (first | apply Kd.S_alloc | apply Kd.S_drewN | apply Kd.S_drew)); exact HO_151.out))) (Kd.S_lt (by (with_reducible repeat (first | apply Kd.S_alloc | apply Kd.S_drewN | apply Kd.S_drew)); exact HO_560001.out))) (Kd.S_lt (by (with_reducible repeat (first | apply Kd.S_alloc | apply Kd.S_drewN | apply Kd.S_drew)); exact HO_566001.out))) (Kd.S_lt (by (with_reducible repeat (first | apply Kd.S_alloc | apply Kd.S_drewN | apply Kd.S_drew)); exact HO_572001.out))) (below_size (w := w) (Bq))); have n6_ := Kb BK559 hb; have n7_ := Kb BK565 hb; have n8_ := Kb BK571 hb; have n9_ := Bc HB hb; clear HO_26 HO_151 HO_560001 HO_566001 HO_572001 BK559 BK565 BK571 HB; revert n0_ n1_ n2_ n3_ n4_ n5_ n6_ n7_ n8_ n9_; intro HO_26 HO_151 HO_560001 HO_566001 HO_572001 HO602 BK559 BK565 BK571 HB; (try clear hb); (try clear hb2); (try clear hk); (try clear hi); (try clear ho0)) | ((with_reducible refine gate_dst (N := 29) rfl ?_); (try (refine gate_guard (by rfl) ?_; dsimp only)); refine bE 29 #[.int .i64 0, .slice none 0 0] 37 ?_; intro gb604 hg w93 hbox hb; have n0_ := Rb HO_26 hb; have n1_ := am (Kd.S_below (by (with_reducible repeat (first | apply Kd.S_alloc | apply Kd.S_drewN | apply Kd.S_drew)); exact HO_151.out) hb); have n2_ := am (Kd.S_below (by (with_reducible repeat (first | apply Kd.S_alloc | apply Kd.S_drewN | apply Kd.S_drew)); exact HO_560001.out) hb); have n3_ := am (Kd.S_below (by (with_reducible repeat (first | apply Kd.S_alloc | apply Kd.S_drewN | apply Kd.S_drew)); exact HO_566001.out) hb); have n4_ := am (Kd.S_below (by (with_reducible repeat (first | apply Kd.S_alloc | apply Kd.S_drewN | apply Kd.S_drew)); exact HO_572001.out) hb); have n5_ := am (Kd.S_below (by (with_reducible repeat (first | apply Kd.S_alloc | apply Kd.S_drewN | apply Kd.S_drew)); exact HO602.out) hb); have n6_ := Kb BK559 hb; have n7_ := Kb BK565 hb; have n8_ := Kb BK571 hb; have n9_ := Bc HB hb; have n10_ := am (hbox); have n11_ := Gm HB hg; have n12_ := Gm HB hg; have n13_ := Nl BK559 hg; have n14_ := Ng BK559 hg; have n15_ := Nl BK565 hg; have n16_ := Ng BK565 hg; have n17_ := Nl BK571 hg; have n18_ := Ng BK571 hg; clear HO_26 HO_151 HO_560001 HO_566001 HO_572001 HO602 BK559 BK565 BK571 HB; revert n0_ n1_ n2_ n3_ n4_ n5_ n6_ n7_ n8_ n9_ n10_ n11_ n12_ n13_ n14_ n15_ n16_ n17_ n18_; intro HO_26 HO_151 HO_560001 HO_566001 HO_572001 HO602 BK559 BK565 BK571 HB BK604 GW604 GE604 NB559_604 NB604_559 NB565_604 NB604_565 NB571_604 NB604_571; clear hb hbox hg; have hnb94 := NB604_559.out; have hnc94 := NB559_604.out; have hnb95 := NB604_565.out; have hnc95 := NB565_604.out; have hnb96 := NB604_571.out; have hnc96 := NB571_604.out; obtain ⟨hcz97_0, hcz97_1, hfz97_0, hfz97_1⟩ := cf2 (w := w93) BK604; obtain ⟨Ao98, co98, eo98⟩ := Kd.S_slice HO602.out; subst eo98))
                    (try simp only [aP])
                    go_cut [187] (fun v187 wc => ∃ (kq : Nat) (x187_85 : Bool), v187 = .bool x187_85 ∧ Aside0 (laws_FnEdgesAndDegrees.j5 kq x26_5 x187_85 t552 t553 t560 t561 t599 t600 = some r) ∧ Aside0 (kq ≤ k5) ∧ Aside0 (Kd.R (Kd.int .i64) 3 wc w.heap.size (fun _ => True) u26 x26_5) ∧ Aside0 (Kd.S (Kd.slice 3 (Kd.int .i64)) 32 wc w.heap.size (fun k_ => some k_ ≠ (u26 : Value).ownBlock ∧ some k_ ≠ ((.slice Ao18 t561.length co18) : Value).ownBlock ∧ some k_ ≠ ((.slice Ao25 t567.length co25) : Value).ownBlock ∧ some k_ ≠ ((.slice Ao98 t600.length co98) : Value).ownBlock) (.slice Ao12 t553.length co12) t553) ∧ Aside0 (Kd.S (Kd.slice 3 (Kd.int .i64)) 32 wc w.heap.size (fun k_ => some k_ ≠ (u26 : Value).ownBlock ∧ some k_ ≠ ((.slice Ao12 t553.length co12) : Value).ownBlock ∧ some k_ ≠ ((.slice Ao25 t567.length co25) : Value).ownBlock ∧ some k_ ≠ ((.slice Ao98 t600.length co98) : Value).ownBlock) (.slice Ao18 t561.length co18) t561) ∧ Aside0 (Kd.S (Kd.slice 3 (Kd.int .i64)) 32 wc w.heap.size (fun k_ => some k_ ≠ (u26 : Value).ownBlock ∧ some k_ ≠ ((.slice Ao12 t553.length co12) : Value).ownBlock ∧ some k_ ≠ ((.slice Ao18 t561.length co18) : Value).ownBlock ∧ some k_ ≠ ((.slice Ao98 t600.length co98) : Value).ownBlock) (.slice Ao25 t567.length co25) t567) ∧ Aside0 (Kd.S (Kd.slice 3 (Kd.int .i64)) 32 wc w.heap.size (fun k_ => some k_ ≠ (u26 : Value).ownBlock ∧ some k_ ≠ ((.slice Ao12 t553.length co12) : Value).ownBlock ∧ some k_ ≠ ((.slice Ao18 t561.length co18) : Value).ownBlock ∧ some k_ ≠ ((.slice Ao25 t567.length co25) : Value).ownBlock) (.slice Ao98 t600.length co98) t600) ∧ Aside0 (wc.heap[gb559]? = some (.cells #[.int .i64 t552, (.slice Ao12 t553.length co12)] 37 (0, 0))) ∧ Aside0 (wc.heap[gb565]? = some (.cells #[.int .i64 t560, (.slice Ao18 t561.length co18)] 37 (0, 0))) ∧ Aside0 (wc.heap[gb571]? = some (.cells #[.int .i64 t566, (.slice Ao25 t567.length co25)] 37 (0, 0))) ∧ Aside0 (wc.heap[gb604]? = some (.cells #[.int .i64 t599, (.slice Ao98 t600.length co98)] 37 (0, 0))) ∧ Aside0 (Below w.heap.size w wc))
                    case first =>
                     have H := HC86.out; clear HC86
                     by_cases c99 : t603 = true
                     ·subst c99
                      rw [if_pos rfl] at H
                      by_cases c100 : (t600.length : Int) = (t553.length : Int)
                      ·rw [if_pos c100] at H
                       have c100b0 : ((t600.length : Int) == (t553.length : Int)) = true := beq_iff_eq.mpr c100; have c100b1 : ((t600.length : Int) != (t553.length : Int)) = false := bne_eq_false_iff_eq.mpr c100
                       have c100b2 : (t600.length == t553.length) = true := by first | simpa using c100 | (simp at c100 ⊢; omega)
                       clear c100
                       (first | rw [c100b0] | (simp only [i64_w, i32_w]; rw [c100b0]) | skip)
                       have H' := am H; clear H; have hnb101 := NB604_559.out; have hnc101 := NB559_604.out; have hnb102 := NB604_565.out; have hnc102 := NB565_604.out; have hnb103 := NB604_571.out; have hnc103 := NB571_604.out; obtain ⟨hcz104_0, hcz104_1, hfz104_0, hfz104_1⟩ := cf2 (w := w93) BK604; have hnb105 := NB559_565.out; have hnc105 := NB565_559.out; have hnb106 := NB559_571.out; have hnc106 := NB571_559.out; obtain ⟨hcz107_0, hcz107_1, hfz107_0, hfz107_1⟩ := cf2 (w := w93) BK559; have hnb108 := NB565_571.out; have hnc108 := NB571_565.out; obtain ⟨hcz109_0, hcz109_1, hfz109_0, hfz109_1⟩ := cf2 (w := w93) BK565
                       go_wp2
                       go_meet
                       case rel => exact ⟨_, ((x21_4 != (wrap64 (3 * (t561.length : Int))))), wZ, H', ⟨by have := HJ7.out; have := HJ38.out; have := HK3.out; have := HK4.out; have := HK5.out; first | omega | exact Nat.le_refl _⟩, ⟨Rz (Kd.R_mono (Kd.R_far (p := ⟨gb604, 1, none⟩) (Kd.R_far (p := ⟨gb604, 0, none⟩) (Kd.R_types HO_26.out BK604.out (by decide)) (fun _ hk => hk.2) (.int .i64 t599)) (fun _ hk => hk.2) (.slice Ao98 t600.length co98)) (fun _ hk => trivial))⟩, ⟨by (with_reducible repeat (first | apply Kd.S_alloc | apply Kd.S_drewN | apply Kd.S_drew)); exact Kd.S_mono (Kd.S_far (p := ⟨gb604, 1, none⟩) (Kd.S_far (p := ⟨gb604, 0, none⟩) (Kd.S_types HO_560001.out BK604.out (by decide)) (fun _ hk => hk.2) (.int .i64 t599)) (fun _ hk => hk.2) (.slice Ao98 t600.length co98)) (fun _ hk => ⟨hk.1.1.1, ⟨hk.1.1.2.2.1, ⟨hk.1.1.2.2.2, hk.1.2⟩⟩⟩)⟩, ⟨by (with_reducible repeat (first | apply Kd.S_alloc | apply Kd.S_drewN | apply Kd.S_drew)); exact Kd.S_mono (Kd.S_far (p := ⟨gb604, 1, none⟩) (Kd.S_far (p := ⟨gb604, 0, none⟩) (Kd.S_types HO_566001.out BK604.out (by decide)) (fun _ hk => hk.2) (.int .i64 t599)) (fun _ hk => hk.2) (.slice Ao98 t600.length co98)) (fun _ hk => ⟨hk.1.1.1, ⟨hk.1.1.2.2.1, ⟨hk.1.1.2.2.2, hk.1.2⟩⟩⟩)⟩, ⟨by (with_reducible repeat (first | apply Kd.S_alloc | apply Kd.S_drewN | apply Kd.S_drew)); exact Kd.S_mono (Kd.S_far (p := ⟨gb604, 1, none⟩) (Kd.S_far (p := ⟨gb604, 0, none⟩) (Kd.S_types HO_572001.out BK604.out (by decide)) (fun _ hk => hk.2) (.int .i64 t599)) (fun _ hk => hk.2) (.slice Ao98 t600.length co98)) (fun _ hk => ⟨hk.1.1.1, ⟨hk.1.1.2.2.1, ⟨hk.1.1.2.2.2, hk.1.2⟩⟩⟩)⟩, ⟨by (with_reducible repeat (first | apply Kd.S_alloc | apply Kd.S_drewN | apply Kd.S_drew)); exact Kd.S_mono (Kd.S_far (p := ⟨gb604, 1, none⟩) (Kd.S_far (p := ⟨gb604, 0, none⟩) (Kd.S_types HO602.out BK604.out (by decide)) (fun _ hk => hk.2) (.int .i64 t599)) (fun _ hk => hk.2) (.slice Ao98 t600.length co98)) (fun _ hk => ⟨hk.1.1.1.1.1.2, ⟨hk.1.1.1.2, ⟨hk.1.1.2, hk.1.2⟩⟩⟩)⟩, ⟨by (with_reducible repeat (first | refine blk_drewN ?_ _ | refine blk_drew ?_ | refine blk_alloc ?_ _)); refine blk_far ?_ NB559_604.out _; (with_reducible repeat (first | refine blk_drewN ?_ _ | refine blk_drew ?_ | refine blk_alloc ?_ _)); refine blk_far ?_ NB559_604.out _; (with_reducible repeat (first | refine blk_drewN ?_ _ | refine blk_drew ?_ | refine blk_alloc ?_ _)); exact BK559.out⟩, ⟨by (with_reducible repeat (first | refine blk_drewN ?_ _ | refine blk_drew ?_ | refine blk_alloc ?_ _)); refine blk_far ?_ NB565_604.out _; (with_reducible repeat (first | refine blk_drewN ?_ _ | refine blk_drew ?_ | refine blk_alloc ?_ _)); refine blk_far ?_ NB565_604.out _; (with_reducible repeat (first | refine blk_drewN ?_ _ | refine blk_drew ?_ | refine blk_alloc ?_ _)); exact BK565.out⟩, ⟨by (with_reducible repeat (first | refine blk_drewN ?_ _ | refine blk_drew ?_ | refine blk_alloc ?_ _)); refine blk_far ?_ NB571_604.out _; (with_reducible repeat (first | refine blk_drewN ?_ _ | refine blk_drew ?_ | refine blk_alloc ?_ _)); refine blk_far ?_ NB571_604.out _; (with_reducible repeat (first | refine blk_drewN ?_ _ | refine blk_drew ?_ | refine blk_alloc ?_ _)); exact BK571.out⟩, ⟨by (with_reducible repeat (first | refine blk_drewN ?_ _ | refine blk_drew ?_ | refine blk_alloc ?_ _)); refine blk_put (cs := #[.int .i64 t599, .slice none 0 0]) ?_ 1 _ rfl; (with_reducible repeat (first | refine blk_drewN ?_ _ | refine blk_drew ?_ | refine blk_alloc ?_ _)); refine blk_put (cs := #[.int .i64 0, .slice none 0 0]) ?_ 0 _ rfl; (with_reducible repeat (first | refine blk_drewN ?_ _ | refine blk_drew ?_ | refine blk_alloc ?_ _)); exact BK604.out⟩, ⟨Bq⟩⟩
                      ·rw [if_neg c100] at H
                       have c100b0 : ((t600.length : Int) == (t553.length : Int)) = false := beq_eq_false_iff_ne.mpr c100; have c100b1 : ((t600.length : Int) != (t553.length : Int)) = true := bne_iff_ne.mpr c100
                       have c100b2 : (t600.length == t553.length) = false := by first | simpa using c100 | (simp at c100 ⊢; omega)
                       (first | rw [c100b0] | (simp only [i64_w, i32_w]; rw [c100b0]) | skip)
                       exact absurd (H.trans (congrArg some HQT_.out)) (laws_FnEdgesAndDegrees.j5.dead _ _ _ _ _ _ _ _)
                     ·replace c99 := Bool.eq_false_iff.mpr c99
                      subst c99
                      rw [if_neg (show ¬ (false = true) by decide)] at H; exact absurd (H.trans (congrArg some HQT_.out)) (laws_FnEdgesAndDegrees.j5.dead _ _ _ _ _ _ _ _)
                    case rest =>
                     refine Nonempty.elim ?_ id
                     refine (letI hh_ : Nonempty (_ : Prop) := ?apart3; (?close3 : type_of% hh_))
                     case apart3 =>
                      refine Nonempty.intro ?_
                      clear HC86
                      try clear c1
                      try clear c2
                      try clear p2
                      try clear c3
                      try clear c4
                      try clear c5
                      try clear p5
                      try clear q5
                      try clear hx5
                      try clear c6
                      try clear p6
                      try clear c7
                      try clear c8
                      try clear c9
                      try clear c10
                      try clear c12
                      try clear c16
                      try clear c22
                      try clear c23
                      try clear c26
                      try clear c26b0
                      try clear c26b1
                      try clear c26b2
                      try clear c27
                      try clear c27b0
                      try clear c27b1
                      try clear c28
                      try clear c29
                      try clear c31
                      try clear c32
                      try clear c33
                      try clear c34
                      try clear c35
                      try clear c36
                      try clear c40
                      try clear c41
                      try clear c44
                      try clear c51
                      try clear c52
                      try clear c53
                      try clear c54
                      try clear c56
                      try clear c57
                      try clear p58
                      try clear q58
                      try clear hx58
                      try clear c59
                      try clear p59
                      try clear q59
                      try clear hx59
                      try clear c61
                      try clear c61b0
                      try clear c62
                      try clear c62b0
                      try clear c63
                      try clear c63b0
                      try clear p64
                      try clear c65
                      try clear c68
                      try clear c68b0
                      try clear c69
                      try clear c69b0
                      try clear c70
                      try clear c70b0
                      try clear c72
                      try clear c73
                      try clear c73b0
                      try clear c73b1
                      try clear c74
                      try clear c75
                      try clear c80
                      try clear c80b0
                      try clear c81
                      try clear c81b0
                      try clear c82
                      try clear c82b0
                      try clear c83
                      try clear c87
                      try clear c88
                      try clear c90
                      try clear c94
                      try clear c95
                      try clear c96
                      try clear c99
                      try clear c100
                      try clear c100b0
                      try clear c100b1
                      try clear c100b2
                      try clear c101
                      try clear c102
                      try clear c103
                      try clear c105
                      try clear c106
                      try clear c108
                      try clear hcz104_0
                      try clear hcz104_1
                      try clear hcz107_0
                      try clear hcz107_1
                      try clear hcz109_0
                      try clear hcz109_1
                      try clear hcz11_0
                      try clear hcz11_1
                      try clear hcz17_0
                      try clear hcz17_1
                      try clear hcz19_0
                      try clear hcz19_1
                      try clear hcz24_0
                      try clear hcz24_1
                      try clear hcz30_0
                      try clear hcz30_1
                      try clear hcz32_0
                      try clear hcz32_1
                      try clear hcz42_0
                      try clear hcz42_1
                      try clear hcz45_0
                      try clear hcz45_1
                      try clear hcz47_0
                      try clear hcz47_1
                      try clear hcz49_0
                      try clear hcz49_1
                      try clear hcz58_0
                      try clear hcz58_1
                      try clear hcz76_0
                      try clear hcz76_1
                      try clear hcz89_0
                      try clear hcz89_1
                      try clear hcz91_0
                      try clear hcz91_1
                      try clear hcz97_0
                      try clear hcz97_1
                      try clear hfz104_0
                      try clear hfz104_1
                      try clear hfz107_0
                      try clear hfz107_1
                      try clear hfz109_0
                      try clear hfz109_1
                      try clear hfz11_0
                      try clear hfz11_1
                      try clear hfz17_0
                      try clear hfz17_1
                      try clear hfz19_0
                      try clear hfz19_1
                      try clear hfz24_0
                      try clear hfz24_1
                      try clear hfz30_0
                      try clear hfz30_1
                      try clear hfz32_0
                      try clear hfz32_1
                      try clear hfz42_0
                      try clear hfz42_1
                      try clear hfz45_0
                      try clear hfz45_1
                      try clear hfz47_0
                      try clear hfz47_1
                      try clear hfz49_0
                      try clear hfz49_1
                      try clear hfz58_0
                      try clear hfz58_1
                      try clear hfz76_0
                      try clear hfz76_1
                      try clear hfz89_0
                      try clear hfz89_1
                      try clear hfz91_0
                      try clear hfz91_1
                      try clear hfz97_0
                      try clear hfz97_1
                      try clear hx588_0
                      try clear hx590_0
                      try clear hx595_0
                      try clear p2
                      try clear p5
                      try clear p58
                      try clear p588
                      try clear p59
                      try clear p590
                      try clear p595
                      try clear p6
                      try clear p64
                      try clear q5
                      try clear q58
                      try clear q588
                      try clear q59
                      try clear q590
                      try clear q595
                      obtain ⟨kq, x187_85, rfl, HA, HJ85, HO_26, HO_560001, HO_566001, HO_572001, HO_605001, BK559, BK565, BK571, BK604, HB⟩ := hcut; cases kq with
                      | zero => exact absurd HA.out (by simp [laws_FnEdgesAndDegrees.j5])
                      | succ kj85 =>
                       have H := HA.out; clear HA
                       simp only [laws_FnEdgesAndDegrees.j5] at H
                       by_cases c110 : x187_85 = true
                       ·subst c110
                        rw [if_pos rfl] at H; exact absurd (Option.some.inj H) (by rw [HQT_.out]; decide)
                       ·replace c110 := Bool.eq_false_iff.mpr c110
                        subst c110
                        rw [if_neg (show ¬ (false = true) by decide)] at H; have H' := am H; clear H; have hnb111 := NB559_565.out; have hnc111 := NB565_559.out; have hnb112 := NB559_571.out; have hnc112 := NB571_559.out; have hnb113 := NB559_604.out; have hnc113 := NB604_559.out; obtain ⟨hcz114_0, hcz114_1, hfz114_0, hfz114_1⟩ := cf2 (w := wc) BK559
                        go_wp2
                        go_loopg [191] kj85 (fun kq v191 w' => ∃ (x191_7 : Int), v191 = .int .i64 x191_7 ∧ Aside0 (laws_FnEdgesAndDegrees.l3 kq x26_5 t553 (t553.length : Int) x191_7 t560 t561 t599 t600 = some r) ∧ Aside0 (kq ≤ kj85) ∧ Aside0 (Kd.R (Kd.int .i64) 3 w' w.heap.size (fun _ => True) u26 x26_5) ∧ Aside0 (Kd.S (Kd.slice 3 (Kd.int .i64)) 32 w' w.heap.size (fun k_ => some k_ ≠ (u26 : Value).ownBlock ∧ some k_ ≠ ((.slice Ao18 t561.length co18) : Value).ownBlock ∧ some k_ ≠ ((.slice Ao25 t567.length co25) : Value).ownBlock ∧ some k_ ≠ ((.slice Ao98 t600.length co98) : Value).ownBlock) (.slice Ao12 t553.length co12) t553) ∧ Aside0 (Kd.S (Kd.slice 3 (Kd.int .i64)) 32 w' w.heap.size (fun k_ => some k_ ≠ (u26 : Value).ownBlock ∧ some k_ ≠ ((.slice Ao18 t561.length co18) : Value).ownBlock ∧ some k_ ≠ ((.slice Ao25 t567.length co25) : Value).ownBlock ∧ some k_ ≠ ((.slice Ao98 t600.length co98) : Value).ownBlock) (.slice Ao12 t553.length co12) t553) ∧ Aside0 (Kd.S (Kd.slice 3 (Kd.int .i64)) 32 w' w.heap.size (fun k_ => some k_ ≠ (u26 : Value).ownBlock ∧ some k_ ≠ ((.slice Ao12 t553.length co12) : Value).ownBlock ∧ some k_ ≠ ((.slice Ao12 t553.length co12) : Value).ownBlock ∧ some k_ ≠ ((.slice Ao25 t567.length co25) : Value).ownBlock ∧ some k_ ≠ ((.slice Ao98 t600.length co98) : Value).ownBlock) (.slice Ao18 t561.length co18) t561) ∧ Aside0 (Kd.S (Kd.slice 3 (Kd.int .i64)) 32 w' w.heap.size (fun k_ => some k_ ≠ (u26 : Value).ownBlock ∧ some k_ ≠ ((.slice Ao12 t553.length co12) : Value).ownBlock ∧ some k_ ≠ ((.slice Ao12 t553.length co12) : Value).ownBlock ∧ some k_ ≠ ((.slice Ao18 t561.length co18) : Value).ownBlock ∧ some k_ ≠ ((.slice Ao98 t600.length co98) : Value).ownBlock) (.slice Ao25 t567.length co25) t567) ∧ Aside0 (Kd.S (Kd.slice 3 (Kd.int .i64)) 32 w' w.heap.size (fun k_ => some k_ ≠ (u26 : Value).ownBlock ∧ some k_ ≠ ((.slice Ao12 t553.length co12) : Value).ownBlock ∧ some k_ ≠ ((.slice Ao12 t553.length co12) : Value).ownBlock ∧ some k_ ≠ ((.slice Ao18 t561.length co18) : Value).ownBlock ∧ some k_ ≠ ((.slice Ao25 t567.length co25) : Value).ownBlock) (.slice Ao98 t600.length co98) t600) ∧ Aside0 (w'.heap[gb559]? = some (.cells #[.int .i64 t552, (.slice Ao12 t553.length co12)] 37 (0, 0))) ∧ Aside0 (w'.heap[gb565]? = some (.cells #[.int .i64 t560, (.slice Ao18 t561.length co18)] 37 (0, 0))) ∧ Aside0 (w'.heap[gb571]? = some (.cells #[.int .i64 t566, (.slice Ao25 t567.length co25)] 37 (0, 0))) ∧ Aside0 (w'.heap[gb604]? = some (.cells #[.int .i64 t599, (.slice Ao98 t600.length co98)] 37 (0, 0))) ∧ Aside0 (Below w.heap.size w w'))
                        case atStart => exact ⟨(0), wZ, H', ⟨Nat.le_refl _⟩, ⟨Rz HO_26.out⟩, ⟨by (with_reducible repeat (first | apply Kd.S_alloc | apply Kd.S_drewN | apply Kd.S_drew)); exact HO_560001.out⟩, ⟨by (with_reducible repeat (first | apply Kd.S_alloc | apply Kd.S_drewN | apply Kd.S_drew)); exact HO_560001.out⟩, ⟨by (with_reducible repeat (first | apply Kd.S_alloc | apply Kd.S_drewN | apply Kd.S_drew)); exact Kd.S_mono HO_566001.out (fun _ hk => ⟨hk.1, ⟨hk.2.1, ⟨hk.2.1, ⟨hk.2.2.1, hk.2.2.2⟩⟩⟩⟩)⟩, ⟨by (with_reducible repeat (first | apply Kd.S_alloc | apply Kd.S_drewN | apply Kd.S_drew)); exact Kd.S_mono HO_572001.out (fun _ hk => ⟨hk.1, ⟨hk.2.1, ⟨hk.2.1, ⟨hk.2.2.1, hk.2.2.2⟩⟩⟩⟩)⟩, ⟨by (with_reducible repeat (first | apply Kd.S_alloc | apply Kd.S_drewN | apply Kd.S_drew)); exact Kd.S_mono HO_605001.out (fun _ hk => ⟨hk.1, ⟨hk.2.1, ⟨hk.2.1, ⟨hk.2.2.1, hk.2.2.2⟩⟩⟩⟩)⟩, ⟨Kz BK559.out⟩, ⟨Kz BK565.out⟩, ⟨Kz BK571.out⟩, ⟨Kz BK604.out⟩, ⟨Bq⟩⟩
                        case round =>
                         clear H'
                         try clear c1
                         try clear c2
                         try clear p2
                         try clear c3
                         try clear c4
                         try clear c5
                         try clear p5
                         try clear q5
                         try clear hx5
                         try clear c6
                         try clear p6
                         try clear c7
                         try clear c8
                         try clear c9
                         try clear c10
                         try clear c11
                         try clear c12
                         try clear c16
                         try clear c22
                         try clear c23
                         try clear c26
                         try clear c26b0
                         try clear c26b1
                         try clear c26b2
                         try clear c27
                         try clear c27b0
                         try clear c27b1
                         try clear c28
                         try clear c29
                         try clear c31
                         try clear c32
                         try clear c33
                         try clear c34
                         try clear c35
                         try clear c36
                         try clear c40
                         try clear c41
                         try clear c44
                         try clear c51
                         try clear c52
                         try clear c53
                         try clear c54
                         try clear c56
                         try clear c57
                         try clear p58
                         try clear q58
                         try clear hx58
                         try clear c59
                         try clear p59
                         try clear q59
                         try clear hx59
                         try clear c61
                         try clear c61b0
                         try clear c62
                         try clear c62b0
                         try clear c63
                         try clear c63b0
                         try clear p64
                         try clear c65
                         try clear c68
                         try clear c68b0
                         try clear c69
                         try clear c69b0
                         try clear c70
                         try clear c70b0
                         try clear c72
                         try clear c73
                         try clear c73b0
                         try clear c73b1
                         try clear c74
                         try clear c75
                         try clear c80
                         try clear c80b0
                         try clear c81
                         try clear c81b0
                         try clear c82
                         try clear c82b0
                         try clear c83
                         try clear c87
                         try clear c88
                         try clear c90
                         try clear c94
                         try clear c95
                         try clear c96
                         try clear c99
                         try clear c100
                         try clear c100b0
                         try clear c100b1
                         try clear c100b2
                         try clear c101
                         try clear c102
                         try clear c103
                         try clear c105
                         try clear c106
                         try clear c108
                         try clear c110
                         try clear c111
                         try clear c112
                         try clear c113
                         try clear hcz104_0
                         try clear hcz104_1
                         try clear hcz107_0
                         try clear hcz107_1
                         try clear hcz109_0
                         try clear hcz109_1
                         try clear hcz114_0
                         try clear hcz114_1
                         try clear hcz11_0
                         try clear hcz11_1
                         try clear hcz17_0
                         try clear hcz17_1
                         try clear hcz19_0
                         try clear hcz19_1
                         try clear hcz24_0
                         try clear hcz24_1
                         try clear hcz30_0
                         try clear hcz30_1
                         try clear hcz32_0
                         try clear hcz32_1
                         try clear hcz42_0
                         try clear hcz42_1
                         try clear hcz45_0
                         try clear hcz45_1
                         try clear hcz47_0
                         try clear hcz47_1
                         try clear hcz49_0
                         try clear hcz49_1
                         try clear hcz58_0
                         try clear hcz58_1
                         try clear hcz76_0
                         try clear hcz76_1
                         try clear hcz89_0
                         try clear hcz89_1
                         try clear hcz91_0
                         try clear hcz91_1
                         try clear hcz97_0
                         try clear hcz97_1
                         try clear hfz104_0
                         try clear hfz104_1
                         try clear hfz107_0
                         try clear hfz107_1
                         try clear hfz109_0
                         try clear hfz109_1
                         try clear hfz114_0
                         try clear hfz114_1
                         try clear hfz11_0
                         try clear hfz11_1
                         try clear hfz17_0
                         try clear hfz17_1
                         try clear hfz19_0
                         try clear hfz19_1
                         try clear hfz24_0
                         try clear hfz24_1
                         try clear hfz30_0
                         try clear hfz30_1
                         try clear hfz32_0
                         try clear hfz32_1
                         try clear hfz42_0
                         try clear hfz42_1
                         try clear hfz45_0
                         try clear hfz45_1
                         try clear hfz47_0
                         try clear hfz47_1
                         try clear hfz49_0
                         try clear hfz49_1
                         try clear hfz58_0
                         try clear hfz58_1
                         try clear hfz76_0
                         try clear hfz76_1
                         try clear hfz89_0
                         try clear hfz89_1
                         try clear hfz91_0
                         try clear hfz91_1
                         try clear hfz97_0
                         try clear hfz97_1
                         try clear hx588_0
                         try clear hx590_0
                         try clear hx595_0
                         try clear p2
                         try clear p5
                         try clear p58
                         try clear p588
                         try clear p59
                         try clear p590
                         try clear p595
                         try clear p6
                         try clear p64
                         try clear q5
                         try clear q58
                         try clear q588
                         try clear q59
                         try clear q590
                         try clear q595
                         obtain ⟨x191_7, rfl, HA, HK7, HO_26, HO_189, HO_560001, HO_566001, HO_572001, HO_605001, BK559, BK565, BK571, BK604, HB⟩ := hrel; cases gk with
                         | zero => exact absurd HA.out (by simp [laws_FnEdgesAndDegrees.l3])
                         | succ k7 =>
                          have H := HA.out; clear HA
                          simp only [laws_FnEdgesAndDegrees.l3] at H
                          by_cases c115 : x191_7 < (t553.length : Int)
                          ·rw [if_pos c115] at H
                           have c115b0 : decide (x191_7 < (t553.length : Int)) = true := decide_eq_true c115; clear c115
                           by_cases c116 : 0 ≤ x191_7
                           ·rw [if_pos c116] at H
                            have c116b0 : decide (0 ≤ x191_7) = true := decide_eq_true c116; clear c116
                            by_cases c117 : x191_7 < (t553.length : Int)
                            ·rw [if_pos c117] at H
                             have c117b0 : decide (x191_7 < (t553.length : Int)) = true := decide_eq_true c117; clear c117
                             by_cases c118 : x191_7 < (t600.length : Int)
                             ·rw [if_pos c118] at H
                              have c118b0 : decide (x191_7 < (t600.length : Int)) = true := decide_eq_true c118; clear c118; replace H := Option.bind_eq_some_iff.mp H; obtain ⟨t607, A1190, H⟩ := H; (try dsimp -simprocs only at H); have A119 := am A1190; clear A1190
                              by_cases c120 : t607 = true
                              ·subst c120
                               rw [if_pos rfl] at H; have H' := am H; clear H; have p605 : 0 ≤ (x191_7 : Int) := dT; have q605 : x191_7 < (t553.length : Int) := dT; obtain ⟨ad605, A605_0, c605_0, e605, hx605_0, hl605_0, hi605_0⟩ := at_L2 (Kd.S_reads' HO_189.out).2.2 x191_7 p605 q605; cases e605; obtain ⟨ce605, hce605, hMe605, hcc605⟩ := Kd.S_get HO_189.out [] x191_7 p605 (by first | exact q605 | exact dT | (have e_ := (Kd.S_reads' HO_189.out).1; omega)); obtain ⟨ve605_0, rfl, ge605_0⟩ := hMe605; have hv605_0 := hcc605 0 _ rfl; rw [Nat.add_zero, show ((Kd.slice 3 (Kd.int .i64))).sz = 1 from rfl, Nat.mul_one] at hv605_0; replace hv605_0 := Option.some.inj (hv605_0.symm.trans hx605_0); rw [hv605_0] at ge605_0; have HL605_0 := am (show Kd.R (Kd.int .i64) 3 _ _ _ _ (rd_L2 t553 x191_7) from ge605_0); clear hv605_0 ge605_0; clear hcc605 hce605; have HR605_0 := am hi605_0; have HC605_0 := am hl605_0; clear hi605_0 hl605_0; replace p605 := eq_true p605; replace q605 := eq_true q605; have hnb121 := NB604_559.out; have hnc121 := NB559_604.out; have hnb122 := NB604_565.out; have hnc122 := NB565_604.out; have hnb123 := NB604_571.out; have hnc123 := NB571_604.out; obtain ⟨hcz124_0, hcz124_1, hfz124_0, hfz124_1⟩ := cf2 (w := wr) BK604; have p606 : 0 ≤ (x191_7 : Int) := dT; have q606 : x191_7 < (t600.length : Int) := dT; obtain ⟨ad606, A606_0, c606_0, e606, hx606_0, hl606_0, hi606_0⟩ := at_L2 (Kd.S_reads' HO_605001.out).2.2 x191_7 p606 q606; cases e606; obtain ⟨ce606, hce606, hMe606, hcc606⟩ := Kd.S_get HO_605001.out [] x191_7 p606 (by first | exact q606 | exact dT | (have e_ := (Kd.S_reads' HO_605001.out).1; omega)); obtain ⟨ve606_0, rfl, ge606_0⟩ := hMe606; have hv606_0 := hcc606 0 _ rfl; rw [Nat.add_zero, show ((Kd.slice 3 (Kd.int .i64))).sz = 1 from rfl, Nat.mul_one] at hv606_0; replace hv606_0 := Option.some.inj (hv606_0.symm.trans hx606_0); rw [hv606_0] at ge606_0; have HL606_0 := am (show Kd.R (Kd.int .i64) 3 _ _ _ _ (rd_L2 t600 x191_7) from ge606_0); clear hv606_0 ge606_0; clear hcc606 hce606; have HR606_0 := am hi606_0; have HC606_0 := am hl606_0; clear hi606_0 hl606_0; replace p606 := eq_true p606; replace q606 := eq_true q606
                               go_wp2_with (first | ((with_reducible refine gate_callee (f := 24) rfl ?_); refine gL (some 202) Try.func24 #[.slice A606_0 (rd_L2 t600 x191_7).length c606_0, .slice A605_0 (rd_L2 t553 x191_7).length c605_0] ?_; (with_reducible refine (laws_pSameInts.calls k7 _ _ (rd_L2 t600 x191_7) _ _ (rd_L2 t553 x191_7) true _ ?side1 ?side2 ?side3 ?side4 A119.out).mono ?_); (case side1 => repeat (first | exact (by repeat (first | (with_reducible exact HR606_0.out) | (with_reducible refine Kd.C_alloc ?_ _) | (with_reducible refine Kd.C_drewN ?_ _) | (with_reducible refine Kd.C_drew ?_) | exact HR606_0.out)) | (with_reducible refine Kd.C_alloc ?_ _) | (with_reducible refine Kd.C_drewN ?_ _) | (with_reducible refine Kd.C_drew ?_))); (case side2 => exact HC606_0.out); (case side3 => repeat (first | exact (by repeat (first | (with_reducible exact HR605_0.out) | (with_reducible refine Kd.C_alloc ?_ _) | (with_reducible refine Kd.C_drewN ?_ _) | (with_reducible refine Kd.C_drew ?_) | exact HR605_0.out)) | (with_reducible refine Kd.C_alloc ?_ _) | (with_reducible refine Kd.C_drewN ?_ _) | (with_reducible refine Kd.C_drew ?_))); (case side4 => exact HC605_0.out); rintro e w' ⟨rfl, ⟨nd, rfl⟩⟩; refine ⟨_, rfl, ?_⟩))
                               go_roundg k7
                               case measure => have := HJ7.out; have := HJ38.out; have := HK3.out; have := HK4.out; have := HK5.out; have := HJ85.out; have := HK7.out; omega
                               case rel => exact ⟨(wrap64 (x191_7 + 1)), wZ, H', ⟨by have := HJ7.out; have := HJ38.out; have := HK3.out; have := HK4.out; have := HK5.out; have := HJ85.out; have := HK7.out; omega⟩, ⟨Rz HO_26.out⟩, ⟨by (with_reducible repeat (first | apply Kd.S_alloc | apply Kd.S_drewN | apply Kd.S_drew)); exact HO_189.out⟩, ⟨by (with_reducible repeat (first | apply Kd.S_alloc | apply Kd.S_drewN | apply Kd.S_drew)); exact HO_560001.out⟩, ⟨by (with_reducible repeat (first | apply Kd.S_alloc | apply Kd.S_drewN | apply Kd.S_drew)); exact HO_566001.out⟩, ⟨by (with_reducible repeat (first | apply Kd.S_alloc | apply Kd.S_drewN | apply Kd.S_drew)); exact HO_572001.out⟩, ⟨by (with_reducible repeat (first | apply Kd.S_alloc | apply Kd.S_drewN | apply Kd.S_drew)); exact HO_605001.out⟩, ⟨Kz BK559.out⟩, ⟨Kz BK565.out⟩, ⟨Kz BK571.out⟩, ⟨Kz BK604.out⟩, ⟨Bq⟩⟩
                              ·replace c120 := Bool.eq_false_iff.mpr c120
                               subst c120
                               rw [if_neg (show ¬ (false = true) by decide)] at H; exact absurd (Option.some.inj H) (by rw [HQT_.out]; decide)
                             ·rw [if_neg c118] at H
                              exact absurd H (by simp)
                            ·rw [if_neg c117] at H
                             exact absurd H (by simp)
                           ·rw [if_neg c116] at H
                            exact absurd H (by simp)
                          ·rw [if_neg c115] at H
                           have c115b0 : decide (x191_7 < (t553.length : Int)) = false := decide_eq_false c115; clear c115; replace H := Option.bind_eq_some_iff.mp H; obtain ⟨t608, A1250, H⟩ := H; (try dsimp -simprocs only at H); have A125 := am A1250; clear A1250; obtain rfl := Option.some.inj H; have hnb126 := NB565_559.out; have hnc126 := NB559_565.out; have hnb127 := NB565_571.out; have hnc127 := NB571_565.out; have hnb128 := NB565_604.out; have hnc128 := NB604_565.out; obtain ⟨hcz129_0, hcz129_1, hfz129_0, hfz129_1⟩ := cf2 (w := wr) BK565; obtain ⟨Ao130, co130, eo130⟩ := Kd.R_slice HO_26.out; subst eo130
                           go_wp2_with (first | ((with_reducible refine gate_callee (f := 25) rfl ?_); refine gL (some 209) Try.func25 #[.slice Ao130 x26_5.length co130, .int .i64 (t561.length : Int)] ?_; (with_reducible refine (laws_pAllOnce.calls k7 _ _ x26_5 (t561.length : Int) t608 _ ?side1 ?side2 A125.out).mono ?_); (case side1 => exact Cz ((Kd.R_reads' HO_26.out).2.2)); (case side2 => exact (Kd.R_reads' HO_26.out).2.1); rintro e w' ⟨rfl, ⟨nd, rfl⟩⟩; refine ⟨_, rfl, ?_⟩))
                           go_ret
                           exact ⟨eZ, Bq⟩
                     case close3 => exact inferInstanceAs _
        case close2 => exact inferInstanceAs _
      ·replace c34 := Bool.eq_false_iff.mpr c34
       subst c34
       rw [if_neg (show ¬ (false = true) by decide)] at H; obtain rfl := Option.some.inj H
       go_wp2
       go_ret
       exact ⟨eZ, Bq⟩
   case close1 => exact inferInstanceAs _
def laws_FnEdgesAndDegrees.Pure : Prop := ∀ (l0 : List Int) (l1 : List Int), l0.length ≤ maxLen → l0.length * 1 ≤ 140737488351232 → (∀ x ∈ l0, (Lit.int .u8 x).wf = true) → l1.length ≤ maxLen → l1.length * 1 ≤ 140737488351232 → (∀ x ∈ l1, (Lit.int .u8 x).wf = true) → ∃ k, laws_FnEdgesAndDegrees.f k l0 l1 = some true
theorem laws_FnEdgesAndDegrees.walk (P : laws_FnEdgesAndDegrees.Pure) (a0 : Option Addr) (len0 cap0 : Nat) (z0 : List Int) (a1 : Option Addr) (len1 cap1 : Nat) (z1 : List Int) (w : World) (w0 : (a0 = none ∧ len0 = 0 ∧ cap0 = 0 ∧ z0 = []) ∨ ∃ x, a0 = some x ∧ len0 ≤ cap0 ∧ cap0 ≤ maxLen ∧ z0.length = cap0 ∧ (∀ i, i < z0.length → w.cell? (x.add i) = some (.int .u8 (z0.getD i 0))) ∧ ∀ n ∈ z0, (Lit.int .u8 n).wf = true) (y0 : len0 * 1 ≤ 140737488351232) (w1 : (a1 = none ∧ len1 = 0 ∧ cap1 = 0 ∧ z1 = []) ∨ ∃ x, a1 = some x ∧ len1 ≤ cap1 ∧ cap1 ≤ maxLen ∧ z1.length = cap1 ∧ (∀ i, i < z1.length → w.cell? (x.add i) = some (.int .u8 (z1.getD i 0))) ∧ ∀ n ∈ z1, (Lit.int .u8 n).wf = true) (y1 : len1 * 1 ≤ 140737488351232) :
  Calls Try.prog 6 #[.slice a0 len0 cap0, .slice a1 len1 cap1] w fun e w' => e = .returned (.bool true) ∧ Below w.heap.size w w' := by
 obtain ⟨l0, rfl, hr0, hm0, hw0, hc0⟩ := ReadsInt.ofRowC w0; obtain ⟨l1, rfl, hr1, hm1, hw1, hc1⟩ := ReadsInt.ofRowC w1; obtain ⟨k, h⟩ := P l0 l1 hm0 y0 hw0 hm1 y1 hw1; refine (laws_FnEdgesAndDegrees.calls k _ _ l0 _ _ l1 true w (Kd.C_of_reads (d := (0 : Int)) (h1 := fun _ => rfl) hr0) hc0 (Kd.C_of_reads (d := (0 : Int)) (h1 := fun _ => rfl) hr1) hc1 h rfl).mono ?_; rintro e w' ⟨rfl, hd⟩; exact ⟨rfl, hd⟩

end Go.Proofs.Ythkcgimnagpmaaa.PT
namespace Go.Proofs.YthkcgimnagpmaaaQ
open Go Go.RowKit Go.Proofs.YthkcgimnagpmaaaW.PrintWords Go.Proofs.YthkcgimnagpmaaaGp

theorem ev_succ {α : Type} {g : Nat → Option α} {r : α} (h : Ev (fun k => g (k + 1)) r) : Ev g r := Ev.step (f := fun k => g (k + 1)) (fun _ => rfl) h
theorem ev_some {α : Type} {a r : α} (h : a = r) : Ev (fun _ => some a) r := h ▸ Ev.now a
theorem ev_pos {α : Type} {c : Prop} [Decidable c] {f g : Nat → Option α} {r : α} (h : c) (k : Ev f r) : Ev (fun n => if c then f n else g n) r := by simpa only [if_pos h] using k
theorem ev_neg {α : Type} {c : Prop} [Decidable c] {f g : Nat → Option α} {r : α} (h : ¬ c) (k : Ev g r) : Ev (fun n => if c then f n else g n) r := by simpa only [if_neg h] using k
theorem ev_bind {α β : Type} {g : Nat → Option α} {f : Nat → α → Option β} {r : β} (a : α) (h : Ev g a) (k : Ev (fun n => f n a) r) : Ev (fun n => (g n).bind (f n)) r := Ev.bind h k
theorem w64 {x : Int} (h0 : -9223372036854775808 ≤ x) (h1 : x ≤ 9223372036854775807) : wrap64 x = x := by unfold wrap64; omega
theorem winc {i : Nat} (h : (i : Int) < 9223372036854775807) : wrap64 ((i : Int) + 1) = ((i + 1 : Nat) : Int) := by unfold wrap64; omega
theorem wdec {i : Nat} (h : (i : Int) < 9223372036854775807) : wrap64 (((i + 1 : Nat) : Int) - 1) = (i : Int) := by unfold wrap64; omega
theorem maxLen_eq : maxLen = 9223372036854775807 := by unfold maxLen; rfl
section
variable {α : Type} {d : α} {pre t : List α} {s : α}
theorem rdOf_mid : rdOf d (pre ++ s :: t) ((pre.length : Nat) : Int) = s := by simp [rdOf]
theorem lt_mid : ((pre.length : Nat) : Int) < ((pre ++ s :: t).length : Int) := by simp; omega
theorem not_lt_end : ¬ ((pre.length : Nat) : Int) < ((pre ++ ([] : List α)).length : Int) := by simp
theorem len_one : ((pre ++ [s]).length : Int) = ((pre.length + 1 : Nat) : Int) := by simp
end
theorem rd_mid {pre t : List Int} {s : Int} : rd (pre ++ s :: t) ((pre.length : Nat) : Int) = s := by simp [rd]
theorem rd_get {xs : List Int} {i : Nat} (h : i < xs.length) : rd xs (i : Int) = xs[i] := by simp [rd, h]

theorem tl (s : ByteArray) : s.toList = s.data.toList := Lib.toList_data s
theorem tl_inj {x y : ByteArray} : x.toList = y.toList ↔ x = y := by
  rw [tl, tl]
  exact ⟨fun h => ByteArray.ext (Array.toList_inj.1 h), fun h => h ▸ rfl⟩
theorem size_len (s : ByteArray) : s.size = s.data.toList.length := (data_length s).symm
theorem bt_mid {s : ByteArray} {pre t : List UInt8} {c : UInt8} (h : s.data.toList = pre ++ c :: t) : bt s ((pre.length : Nat) : Int) = (c.toNat : Int) := by
  have hs : pre.length < s.size := by rw [size_len, h]; simp
  have hg : s[pre.length]'hs = c := by
    have : s.data.toList[pre.length]'(by rw [h]; simp) = c := by simp [h]
    rw [← this]; rfl
  unfold bt
  rw [dif_pos (by simpa using hs)]
  simp only [Int.toNat_natCast, hg]
theorem lt_size {s : ByteArray} {pre t : List UInt8} {c : UInt8} (h : s.data.toList = pre ++ c :: t) : ((pre.length : Nat) : Int) < (s.size : Int) := by rw [size_len, h]; simp; omega
theorem not_lt_size {s : ByteArray} {pre : List UInt8} (h : s.data.toList = pre ++ []) : ¬ ((pre.length : Nat) : Int) < (s.size : Int) := by rw [size_len, h]; simp
def lessS (a b : ByteArray) : Bool := Op.bytesLess a.toList b.toList
end Go.Proofs.YthkcgimnagpmaaaQ
namespace Go.Proofs.YthkcgimnagpmaaaQ
open Go Go.RowKit

abbrev Edges := List (List Int)
def edg (E : Edges) (i : Nat) : List Int := E.getD i []
def degOf (E : Edges) (L : List Nat) (p : Int) : Nat := (L.map fun i => (edg E i).count p).sum
def placesL (P : Nat) : List Int := (List.range P).map Int.ofNat
def freeL (P : Nat) (E : Edges) (L : List Nat) : List Int := (placesL P).filter fun p => degOf E L p == 1
def withE (E : Edges) (L : List Nat) (p : Int) : Option Nat := L.find? fun i => (edg E i).contains p
def dropE (L : List Nat) (i : Nat) : List Nat := L.filter fun j => j != i
def goodE (P : Nat) (E : Edges) : Prop := ∀ e ∈ E, ∀ p ∈ e, 0 ≤ p ∧ p < (P : Int)
def Stable (E : Edges) (S : List Nat) : Prop := ∀ p, degOf E S p ≠ 1

theorem degOf_nil (E : Edges) (p : Int) : degOf E [] p = 0 := rfl
theorem degOf_cons (E : Edges) (i : Nat) (L : List Nat) (p : Int) : degOf E (i :: L) p = (edg E i).count p + degOf E L p := by simp [degOf]
theorem degOf_sub {E : Edges} {S L : List Nat} (h : S.Sublist L) (p : Int) : degOf E S p ≤ degOf E L p := by
  induction h with
  | slnil => exact Nat.le_refl _
  | cons i _ ih => rw [degOf_cons]; omega
  | cons_cons i _ ih => rw [degOf_cons, degOf_cons]; omega
theorem degOf_mem {E : Edges} {L : List Nat} {i : Nat} {p : Int} (h : i ∈ L) (hp : p ∈ edg E i) : 1 ≤ degOf E L p := by
  have : 0 < (edg E i).count p := List.count_pos_iff.2 hp
  have h2 := degOf_sub (E := E) (List.singleton_sublist.2 h) p
  rw [degOf_cons, degOf_nil] at h2
  omega
theorem degOf_pos {E : Edges} {L : List Nat} {p : Int} (h : 1 ≤ degOf E L p) : ∃ i ∈ L, p ∈ edg E i := by
  induction L with
  | nil => rw [degOf_nil] at h; omega
  | cons i L ih =>
    rw [degOf_cons] at h
    by_cases c : p ∈ edg E i
    · exact ⟨i, by simp, c⟩
    · rw [List.count_eq_zero_of_not_mem c] at h
      obtain ⟨j, hj, hp⟩ := ih (by omega)
      exact ⟨j, by simp [hj], hp⟩
theorem withE_some {E : Edges} {L : List Nat} {p : Int} {i : Nat} (h : withE E L p = some i) : i ∈ L ∧ p ∈ edg E i := by
  have h1 := List.mem_of_find?_eq_some h
  have h2 := List.find?_some h
  exact ⟨h1, by simpa using h2⟩
theorem withE_ex {E : Edges} {L : List Nat} {p : Int} (h : 1 ≤ degOf E L p) : ∃ i, withE E L p = some i := by
  obtain ⟨i, hi, hp⟩ := degOf_pos h
  cases hw : withE E L p with
  | some j => exact ⟨j, rfl⟩
  | none => exact absurd (by simpa using hp) (by simpa using List.find?_eq_none.1 hw i hi)
theorem mem_freeL {P : Nat} {E : Edges} {L : List Nat} {p : Int} : p ∈ freeL P E L ↔ (0 ≤ p ∧ p < (P : Int)) ∧ degOf E L p = 1 := by
  simp only [freeL, placesL, List.mem_filter, List.mem_map, List.mem_range, beq_iff_eq]
  constructor
  · rintro ⟨⟨i, hi, rfl⟩, h⟩
    exact ⟨⟨Int.natCast_nonneg i, Int.ofNat_lt.2 hi⟩, h⟩
  · rintro ⟨h, e⟩
    exact ⟨⟨p.toNat, by omega, Int.toNat_of_nonneg h.1⟩, e⟩
theorem edg_mem {E : Edges} {i : Nat} {p : Int} (h : p ∈ edg E i) : edg E i ∈ E := by
  unfold edg at h ⊢
  by_cases c : i < E.length
  · simp [List.getD, c]
  · simp [List.getD, c] at h
theorem deg_free {P : Nat} {E : Edges} (hg : goodE P E) {L : List Nat} {p : Int} (h : degOf E L p = 1) : p ∈ freeL P E L := by
  obtain ⟨i, _, hp⟩ := degOf_pos (E := E) (L := L) (p := p) (by omega)
  exact mem_freeL.2 ⟨hg _ (edg_mem hp) _ hp, h⟩
theorem stable_iff {P : Nat} {E : Edges} (hg : goodE P E) {L : List Nat} : Stable E L ↔ freeL P E L = [] := by
  constructor
  · intro h
    rw [List.eq_nil_iff_forall_not_mem]
    intro p hp
    exact h p (mem_freeL.1 hp).2
  · intro h p hp
    have := deg_free hg hp
    rw [h] at this
    cases this
theorem dropE_sub (L : List Nat) (i : Nat) : (dropE L i).Sublist L := List.filter_sublist
theorem dropE_len {L : List Nat} (hn : L.Nodup) {i : Nat} (h : i ∈ L) : (dropE L i).length + 1 = L.length := by
  have : dropE L i = L.erase i := (hn.erase_eq_filter i).symm
  rw [this, List.length_erase_of_mem h]
  have := List.length_pos_of_mem h
  omega
theorem stable_step {E : Edges} {S L : List Nat} {p : Int} {i : Nat} (hS : Stable E S) (hs : S.Sublist L) (hd : degOf E L p = 1) (hw : withE E L p = some i) : S.Sublist (dropE L i) := by
  obtain ⟨h1, h2⟩ := withE_some hw
  have hi : i ∉ S := fun c => by
    have a := degOf_mem c h2
    have b := degOf_sub (E := E) hs p
    exact hS p (by omega)
  have e : S.filter (fun j => j != i) = S := List.filter_eq_self.2 fun j hj => by
    simp only [bne_iff_ne, ne_eq]
    rintro rfl
    exact hi hj
  rw [← e]
  exact hs.filter _

def stepE (P : Nat) (E : Edges) (L : List Nat) (c : Nat) : Option (Nat × Int) :=
  if (freeL P E L).length = 0 then none else let p := (freeL P E L).getD (c % (freeL P E L).length) 0; some ((withE E L p).getD 0, p)
def peelC (P : Nat) (E : Edges) : List Nat → List Nat → List (Nat × Int) × List Nat
  | [], L => ([], L)
  | c :: cs, L => match stepE P E L c with
    | none => ([], L)
    | some (i, p) => ((i, p) :: (peelC P E cs (dropE L i)).1, (peelC P E cs (dropE L i)).2)
theorem stepE_none {P : Nat} {E : Edges} {L : List Nat} {c : Nat} : stepE P E L c = none ↔ freeL P E L = [] := by
  unfold stepE
  split
  · rename_i h; simp [List.length_eq_zero_iff.1 h]
  · rename_i h; simp; intro e; rw [e] at h; exact h rfl
theorem stepE_some {P : Nat} {E : Edges} {L : List Nat} {c i : Nat} {p : Int} (h : stepE P E L c = some (i, p)) : p ∈ freeL P E L ∧ degOf E L p = 1 ∧ withE E L p = some i := by
  unfold stepE at h
  split at h
  · cases h
  · rename_i hl
    simp only [Option.some.injEq, Prod.mk.injEq] at h
    obtain ⟨h1, h2⟩ := h
    have hm : c % (freeL P E L).length < (freeL P E L).length := Nat.mod_lt _ (by omega)
    have hp : p ∈ freeL P E L := by rw [← h2, List.getD_eq_getElem?_getD, List.getElem?_eq_getElem hm]; exact List.getElem_mem hm
    have hd := (mem_freeL.1 hp).2
    obtain ⟨j, hj⟩ := withE_ex (E := E) (L := L) (p := p) (by omega)
    rw [h2, hj] at h1
    exact ⟨hp, hd, by rw [hj]; simpa using h1⟩
theorem peelC_cons_none {P : Nat} {E : Edges} {L : List Nat} (c : Nat) (cs : List Nat) (h : freeL P E L = []) : peelC P E (c :: cs) L = ([], L) := by
  rw [peelC, stepE_none.2 h]
theorem peelC_cons_some {P : Nat} {E : Edges} {L : List Nat} {c i : Nat} {p : Int} (cs : List Nat) (h : stepE P E L c = some (i, p)) : peelC P E (c :: cs) L = ((i, p) :: (peelC P E cs (dropE L i)).1, (peelC P E cs (dropE L i)).2) := by
  rw [peelC, h]
theorem nodup_drop {L : List Nat} (h : L.Nodup) (i : Nat) : (dropE L i).Nodup := (dropE_sub L i).nodup h
theorem peelC_len {P : Nat} {E : Edges} : ∀ (cs L : List Nat), L.Nodup → (peelC P E cs L).1.length + (peelC P E cs L).2.length = L.length
  | [], L, _ => by simp [peelC]
  | c :: cs, L, hn => by
    cases h : stepE P E L c with
    | none => rw [peelC_cons_none c cs (stepE_none.1 h)]; simp
    | some q =>
      obtain ⟨i, p⟩ := q
      rw [peelC_cons_some cs h]
      have h1 := (withE_some (stepE_some h).2.2).1
      have := peelC_len (P := P) (E := E) cs (dropE L i) (nodup_drop hn i)
      have := dropE_len hn h1
      simp only [List.length_cons]
      omega
theorem peelC_sub {P : Nat} {E : Edges} : ∀ (cs L : List Nat), (peelC P E cs L).2.Sublist L
  | [], L => by simp [peelC]
  | c :: cs, L => by
    cases h : stepE P E L c with
    | none => rw [peelC_cons_none c cs (stepE_none.1 h)]; exact List.Sublist.refl _
    | some q =>
      obtain ⟨i, p⟩ := q
      rw [peelC_cons_some cs h]
      exact (peelC_sub cs (dropE L i)).trans (dropE_sub L i)
theorem peelC_stable {P : Nat} {E : Edges} {S : List Nat} (hS : Stable E S) : ∀ (cs L : List Nat), S.Sublist L → S.Sublist (peelC P E cs L).2
  | [], L, h => by simpa [peelC] using h
  | c :: cs, L, hs => by
    cases h : stepE P E L c with
    | none => rw [peelC_cons_none c cs (stepE_none.1 h)]; exact hs
    | some q =>
      obtain ⟨i, p⟩ := q
      rw [peelC_cons_some cs h]
      obtain ⟨_, hd, hw⟩ := stepE_some h
      exact peelC_stable hS cs (dropE L i) (stable_step hS hs hd hw)
theorem peelC_done {P : Nat} {E : Edges} : ∀ (cs L : List Nat), L.Nodup → (peelC P E cs L).1.length = cs.length ∨ freeL P E (peelC P E cs L).2 = []
  | [], L, _ => by simp [peelC]
  | c :: cs, L, hn => by
    cases h : stepE P E L c with
    | none => rw [peelC_cons_none c cs (stepE_none.1 h)]; exact .inr (stepE_none.1 h)
    | some q =>
      obtain ⟨i, p⟩ := q
      rw [peelC_cons_some cs h]
      rcases peelC_done (P := P) (E := E) cs (dropE L i) (nodup_drop hn i) with e | e
      · left; simp only [List.length_cons]; omega
      · right; exact e
theorem freeL_nil {P : Nat} {E : Edges} : freeL P E [] = [] := by
  rw [List.eq_nil_iff_forall_not_mem]
  intro p hp
  have := (mem_freeL.1 hp).2
  rw [degOf_nil] at this
  cases this
theorem peelC_end {P : Nat} {E : Edges} {cs L : List Nat} (hn : L.Nodup) (h : L.length ≤ cs.length) : freeL P E (peelC P E cs L).2 = [] := by
  rcases peelC_done (P := P) (E := E) cs L hn with e | e
  · have := peelC_len (P := P) (E := E) cs L hn
    have : (peelC P E cs L).2 = [] := List.length_eq_zero_iff.1 (by omega)
    rw [this]; exact freeL_nil
  · exact e
def allE (E : Edges) : List Nat := List.range E.length
def peelAll (P : Nat) (E : Edges) : List (Nat × Int) × List Nat := peelC P E (List.replicate E.length 0) (allE E)
def coreE (P : Nat) (E : Edges) : List Nat := (peelAll P E).2
theorem allE_nodup (E : Edges) : (allE E).Nodup := List.nodup_range
theorem core_stable {P : Nat} {E : Edges} (hg : goodE P E) : Stable E (coreE P E) := (stable_iff hg).2 (peelC_end (allE_nodup E) (by simp [allE]))
theorem core_sub {P : Nat} {E : Edges} : (coreE P E).Sublist (allE E) := peelC_sub _ _
theorem stable_core {P : Nat} {E : Edges} {S : List Nat} (hS : Stable E S) (h : S.Sublist (allE E)) : S.Sublist (coreE P E) := peelC_stable hS _ _ h
end Go.Proofs.YthkcgimnagpmaaaQ
