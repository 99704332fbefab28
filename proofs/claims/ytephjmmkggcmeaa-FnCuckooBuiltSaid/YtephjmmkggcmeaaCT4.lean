import Derived.Test.YtephjmmkggcmeaaCT1
import Derived.Test.YtephjmmkggcmeaaCT2
import Derived.Test.YtephjmmkggcmeaaCT3
import Derived.Test.YtephjmmkggcmeaaCT0
import Derived.Lib.Bytes
-- printed by a program of this session (wip/gp) out of the translation; Lean checks it
namespace Go.Proofs.Ytephjmmkggcmeaa.PG
open Go.RowKit Go.Proofs.YtephjmmkggcmeaaW.PrintWords Go.Proofs.YtephjmmkggcmeaaW.PrintLast Go.Proofs.YtephjmmkggcmeaaW.PrintMore Go.Proofs.YtephjmmkggcmeaaSq
attribute [local go_sem] max2_int min2_int max_two min_two max_three min_three max_four min_four   -- for this text's walks alone
attribute [local go_sem] Go.Proofs.YtephjmmkggcmeaaGp.str_geq Go.Proofs.YtephjmmkggcmeaaGp.str_gtr Go.Proofs.YtephjmmkggcmeaaGp.str_leq
set_option linter.unusedVariables false
set_option linter.unusedSimpArgs false

set_option maxHeartbeats 8000000
set_option maxRecDepth 100000
mutual
def impl_pairs.j0 : Nat → Int → List ByteArray → Int → Bool → Option ((List (List Int)) × Bool)
 | 0, _, _, _, _ => none
 | k + 1, x0, x1, x2, x25 => if x25 = true then (some (([] : List (List Int)), false)) else (impl_pairs.l0 k x0 x2 (([] : List (List Int))) x1 (x1.length : Int) 0)
def impl_pairs.l0 : Nat → Int → Int → List (List Int) → List ByteArray → Int → Int → Option ((List (List Int)) × Bool)
 | 0, _, _, _, _, _, _ => none
 | k + 1, x0, x2, x8, x27, x28, x29 => if x29 < x28 then (if 0 ≤ x29 then (if x29 < (x27.length : Int) then ((impl_cellsOf.f k x0 (rdOf ByteArray.empty x27 x29) x2).bind fun bt614 => (if x8.length < 5864062014805 then (impl_pairs.l0 k x0 x2 (x8 ++ [(([bt614.1, bt614.2] : List Int))]) x27 x28 (wrap64 (x29 + 1))) else (none))) else (none)) else (none)) else (some (x8, true))
end
def impl_pairs.f (k : Nat) (a0 : Int) (l1 : List ByteArray) (a2 : Int) : Option ((List (List Int)) × Bool) := (impl_isSeed.f a0).bind fun t607 => (if t607 = true then ((impl_AreKeys.f k l1).bind fun t608 => (if t608 = true then ((impl_cellsOk.f a2).bind fun t609 => (impl_pairs.j0 k a0 l1 a2 (!t609))) else (impl_pairs.j0 k a0 l1 a2 true))) else (impl_pairs.j0 k a0 l1 a2 true))
theorem impl_pairs.calls (k : Nat) (a0 : Int) (A1 : Option Addr) (c1 : Nat) (l1 : List ByteArray) (a2 : Int) (r1 : List (List Int)) (r2 : Bool) (w : World) (hr1 : Kd.C Kd.string w A1 l1.length l1) (hc1 : l1.length ≤ c1) (h : impl_pairs.f k a0 l1 a2 = some (r1, r2)) :
  Calls Try.prog 60 #[.int .i64 a0, .slice A1 l1.length c1, .int .i64 a2] w fun e w' => ∃ v0_ : Value, e = .returned (.tuple #[v0_, .bool r2]) ∧ Kd.S (Kd.slice 3 (Kd.int .i64)) 31 w' w.heap.size (fun _ => True) v0_ r1 ∧ Below w.heap.size w w' := by
 have HR1 := am hr1; have HC1 := am hc1; clear hr1 hc1; have HB := am (Below.refl w.heap.size w); have H : ((impl_isSeed.f a0).bind fun t607 => (if t607 = true then ((impl_AreKeys.f k l1).bind fun t608 => (if t608 = true then ((impl_cellsOk.f a2).bind fun t609 => (impl_pairs.j0 k a0 l1 a2 (!t609))) else (impl_pairs.j0 k a0 l1 a2 true))) else (impl_pairs.j0 k a0 l1 a2 true))) = some (r1, r2) := h; clear h; have HC4 := am H; clear H
 go_enter Try.func60, Try.ntmps60
 go_upto_region 1 with (fail)
 go_cut [25] (fun v25 wc => ∃ (kq : Nat) (x25_3 : Bool), v25 = .bool x25_3 ∧ Aside0 (impl_pairs.j0 kq a0 l1 a2 x25_3 = some (r1, r2)) ∧ Aside0 (kq ≤ k) ∧ Aside0 (Below w.heap.size w wc))
 case first =>
  have H := HC4.out; clear HC4; replace H := Option.bind_eq_some_iff.mp H; obtain ⟨t607, A50, H⟩ := H; (try dsimp -simprocs only at H); have A5 := am A50; clear A50
  by_cases c6 : t607 = true
  ·subst c6
   rw [if_pos rfl] at H; replace H := Option.bind_eq_some_iff.mp H; obtain ⟨t608, A70, H⟩ := H; (try dsimp -simprocs only at H); have A7 := am A70; clear A70
   by_cases c8 : t608 = true
   ·subst c8
    rw [if_pos rfl] at H; replace H := Option.bind_eq_some_iff.mp H; obtain ⟨t609, A90, H⟩ := H; (try dsimp -simprocs only at H); have A9 := am A90; clear A90; have H' := am H; clear H
    go_wp2_with (first | ((with_reducible refine gate_callee (f := 65) rfl ?_); refine gL (some 14) Try.func65 #[.int .i64 a0] ?_; (with_reducible refine (impl_isSeed.calls a0 true _ A5.out).mono ?_); rintro e w' ⟨rfl, ⟨nd, rfl⟩⟩; refine ⟨_, rfl, ?_⟩) | (go_at_call 72; (with_reducible refine (impl_AreKeys.calls k _ _ l1 true _ ?side1 ?side2 A7.out).mono ?_); (case side1 => exact Kd.C_below HR1.out (Bz HB.out)); (case side2 => exact HC1.out); rintro e w' ⟨rfl, ⟨nd, rfl⟩⟩) | (go_at_call 67; (with_reducible refine (impl_cellsOk.calls a2 t609 _ A9.out).mono ?_); rintro e w' ⟨rfl, ⟨nd, rfl⟩⟩))
    go_meet
    case rel => exact ⟨_, (!t609), wZ, H', ⟨by first | omega | exact Nat.le_refl _⟩, ⟨Bz HB.out⟩⟩
   ·replace c8 := Bool.eq_false_iff.mpr c8
    subst c8
    rw [if_neg (show ¬ (false = true) by decide)] at H; have H' := am H; clear H
    go_wp2_with (first | ((with_reducible refine gate_callee (f := 65) rfl ?_); refine gL (some 14) Try.func65 #[.int .i64 a0] ?_; (with_reducible refine (impl_isSeed.calls a0 true _ A5.out).mono ?_); rintro e w' ⟨rfl, ⟨nd, rfl⟩⟩; refine ⟨_, rfl, ?_⟩) | (go_at_call 72; (with_reducible refine (impl_AreKeys.calls k _ _ l1 false _ ?side1 ?side2 A7.out).mono ?_); (case side1 => exact Kd.C_below HR1.out (Bz HB.out)); (case side2 => exact HC1.out); rintro e w' ⟨rfl, ⟨nd, rfl⟩⟩))
    go_meet
    case rel => exact ⟨_, (true), wZ, H', ⟨by first | omega | exact Nat.le_refl _⟩, ⟨Bz HB.out⟩⟩
  ·replace c6 := Bool.eq_false_iff.mpr c6
   subst c6
   rw [if_neg (show ¬ (false = true) by decide)] at H; have H' := am H; clear H
   go_wp2_with (first | ((with_reducible refine gate_callee (f := 65) rfl ?_); refine gL (some 14) Try.func65 #[.int .i64 a0] ?_; (with_reducible refine (impl_isSeed.calls a0 false _ A5.out).mono ?_); rintro e w' ⟨rfl, ⟨nd, rfl⟩⟩; refine ⟨_, rfl, ?_⟩))
   go_meet
   case rel => exact ⟨_, (true), wZ, H', ⟨by first | omega | exact Nat.le_refl _⟩, ⟨Bz HB.out⟩⟩
 case rest =>
  clear HC4
  try clear c1
  try clear p2
  try clear c6
  try clear c8
  obtain ⟨kq, x25_3, rfl, HA, HJ3, HB⟩ := hcut; cases kq with
  | zero => exact absurd HA.out (by simp [impl_pairs.j0])
  | succ kj3 =>
   have H := HA.out; clear HA
   simp only [impl_pairs.j0] at H
   by_cases c10 : x25_3 = true
   ·subst c10
    rw [if_pos rfl] at H
    simp only [Option.some.injEq, Prod.mk.injEq] at H
    obtain ⟨rfl, rfl⟩ := H
    go_wp2
    go_ret2
    exact ⟨_, eZ, by first | exact Kd.S_nil _ _ _ _ _ | exact Kd.N_nil _ _ _ _ _ | exact Kd.V_nil _ _ _ _ _ | exact Kd.Q_nil _ _ _ _ _ | exact Kd.R_nil _ _ _ _ _, Bz HB.out⟩
   ·replace c10 := Bool.eq_false_iff.mpr c10
    subst c10
    rw [if_neg (show ¬ (false = true) by decide)] at H; obtain ⟨y610, hy610⟩ : ∃ y_ : List (List Int), y_ = (([] : List (List Int))) := ⟨_, rfl⟩
    replace H : (impl_pairs.l0 kj3 a0 a2 y610 l1 (l1.length : Int) 0) = some (r1, r2) := by first | (rw [hy610]; with_reducible exact H) | (have H2_ := (Option.bind_some _ _).symm.trans H; rw [hy610]; with_reducible exact H2_) | (have H2_ := (Option.bind_some _ _).symm.trans H; with_reducible exact H2_) | with_reducible exact H | (rw [hy610]; exact H) | exact H
    have Ny610 := am hy610; clear hy610; have H' := am H; clear H
    go_wp2_with (first | ((with_reducible refine gate_dst (N := 26) rfl ?_); refine Kd.S_lit (Kd.slice 3 (Kd.int .i64)) _ 31 ?hg (N := 26) ?hd (xs := ([] : List (List Int))) (inner := []) (ok := fun _ => True) (okp := fun _ => True) ?hr ?hp (fun _ hk => hk) trivial (Below.refl _ _) (Nat.le_refl _) (by simp) ?_; (case hd => rfl); (case hg => rfl); (case hr => first | (go_simp; done) | (go_simp; rfl)); (case hp => exact (Reps.none _ _)); intro v611 w11 ho12 hb hg_ hnew_; clear hg_ hnew_; (first | rw [← Ny610.out] at ho12 | (simp only [Int.reduceToNat] at ho12; rw [← Ny610.out] at ho12)); have n0_ := am (Kd.S_lower ho12 (below_size (Bz HB.out))); have n1_ := Bb HB hb; clear HB; revert n0_ n1_; intro HO612 HB; clear hb ho12))
    (try simp only [aP])
    go_loopg [8, 29] kj3 (fun kq v8 v29 w' => ∃ (x8_2 : List (List Int)) (x29_2 : Int), v29 = .int .i64 x29_2 ∧ Aside0 (impl_pairs.l0 kq a0 a2 x8_2 l1 (l1.length : Int) x29_2 = some (r1, r2)) ∧ Aside0 (kq ≤ kj3) ∧ Aside0 (Kd.S (Kd.slice 3 (Kd.int .i64)) 31 w' w.heap.size (fun _ => True) v8 x8_2) ∧ Aside0 (Below w.heap.size w w'))
    case atStart => exact ⟨(y610), (0), wZ, H', ⟨Nat.le_refl _⟩, ⟨by (with_reducible repeat (first | apply Kd.S_alloc | apply Kd.S_drewN | apply Kd.S_drew)); exact HO612.out⟩, ⟨Bz HB.out⟩⟩
    case round =>
     clear H'
     try clear c1
     try clear p2
     try clear c6
     try clear c8
     try clear c10
     try clear p2
     obtain ⟨x8_2, x29_2, rfl, HA, HK2, HO_8, HB⟩ := hrel; cases gk with
     | zero => exact absurd HA.out (by simp [impl_pairs.l0])
     | succ k2 =>
      have H := HA.out; clear HA
      simp only [impl_pairs.l0] at H
      by_cases c13 : x29_2 < (l1.length : Int)
      ·rw [if_pos c13] at H
       have c13b0 : decide (x29_2 < (l1.length : Int)) = true := decide_eq_true c13; clear c13
       by_cases c14 : 0 ≤ x29_2
       ·rw [if_pos c14] at H
        have c14b0 : decide (0 ≤ x29_2) = true := decide_eq_true c14; clear c14
        by_cases c15 : x29_2 < (l1.length : Int)
        ·rw [if_pos c15] at H
         have c15b0 : decide (x29_2 < (l1.length : Int)) = true := decide_eq_true c15; clear c15; replace H := Option.bind_eq_some_iff.mp H; obtain ⟨⟨t614, t615⟩, A160, H⟩ := H; (try dsimp -simprocs only at H); have A16 := am A160; clear A160; obtain ⟨y616, hy616⟩ : ∃ y_ : List Int, y_ = (([t614, t615] : List Int)) := ⟨_, rfl⟩
         replace H : (if x8_2.length < 5864062014805 then (impl_pairs.l0 k2 a0 a2 (x8_2 ++ [y616]) l1 (l1.length : Int) (wrap64 (x29_2 + 1))) else (none)) = some (r1, r2) := by first | (rw [hy616]; with_reducible exact H) | (have H2_ := (Option.bind_some _ _).symm.trans H; rw [hy616]; with_reducible exact H2_) | (have H2_ := (Option.bind_some _ _).symm.trans H; with_reducible exact H2_) | with_reducible exact H | (rw [hy616]; exact H) | exact H
         have Ny616 := am hy616; clear hy616
         by_cases c17 : x8_2.length < 5864062014805
         ·rw [if_pos c17] at H
          have LMc17 := am c17; clear c17; obtain ⟨y619, hy619⟩ : ∃ y_ : List (List Int), y_ = (x8_2 ++ [y616]) := ⟨_, rfl⟩
          replace H : (impl_pairs.l0 k2 a0 a2 y619 l1 (l1.length : Int) (wrap64 (x29_2 + 1))) = some (r1, r2) := by first | (rw [hy619]; with_reducible exact H) | (have H2_ := (Option.bind_some _ _).symm.trans H; rw [hy619]; with_reducible exact H2_) | (have H2_ := (Option.bind_some _ _).symm.trans H; with_reducible exact H2_) | with_reducible exact H | (rw [hy619]; exact H) | exact H
          have Ny619 := am hy619; clear hy619; have H' := am H; clear H; have p613 : 0 ≤ (x29_2 : Int) := dT; have q613 : x29_2 < (l1.length : Int) := dT; obtain ⟨ad613, e613, hx613_0⟩ := Kd.at_string HR1.out x29_2 p613 q613; cases e613; replace hx613_0 := (HB.out.cell (World.block_lt_of_cell? w _ hx613_0)).trans hx613_0; replace p613 := eq_true p613; replace q613 := eq_true q613
          go_wp2_with (first | ((with_reducible refine gate_callee (f := 68) rfl ?_); refine gL (some 37) Try.func68 #[.int .i64 a0, .string (rdOf ByteArray.empty l1 x29_2), .int .i64 a2] ?_; (with_reducible refine (impl_cellsOf.calls k2 a0 (rdOf ByteArray.empty l1 x29_2) a2 t614 t615 _ A16.out).mono ?_); rintro e w' ⟨rfl, ⟨nd, rfl⟩⟩; refine ⟨_, rfl, ?_⟩) | ((with_reducible refine gate_dst (N := 43) rfl ?_); refine Kd.R_lit (Kd.int .i64) _ 3 ?hg (N := 43) ?hd (xs := ([t614, t615] : List Int)) (inner := [.int .i64 t614, .int .i64 t615]) (ok := fun _ => True) (okp := fun _ => True) ?hr ?hp (fun _ hk => hk) trivial (Below.refl _ _) (Nat.le_refl _) (by simp) ?_; (case hd => rfl); (case hg => rfl); (case hr => first | (go_simp; done) | (go_simp; rfl)); (case hp => exact (Reps.one (show Kd.M (Kd.int .i64) _ _ _ t614 [.int .i64 t614] from rfl) (Reps.one (show Kd.M (Kd.int .i64) _ _ _ t615 [.int .i64 t615] from rfl) (Reps.none _ _)))); intro v617 w18 ho19 hb hg_ hnew_; clear hg_ hnew_; (first | rw [← Ny616.out] at ho19 | (simp only [Int.reduceToNat] at ho19; rw [← Ny616.out] at ho19)); have n0_ := am (Kd.S_elder' (by (with_reducible repeat (first | apply Kd.S_alloc | apply Kd.S_drewN | apply Kd.S_drew)); exact HO_8.out) (Kd.R_base ho19) hb); have n1_ := Rl ho19 HB; have n2_ := Bb HB hb; clear HO_8 HB; revert n0_ n1_ n2_; intro HO_8 HO618 HB; clear hb ho19; obtain ⟨Ao21, co21, eo21⟩ := Kd.R_slice HO618.out; subst eo21) | ((with_reducible refine gate_builtin (b := .append) (xs := #[.tmp 40, .tmp 44]) rfl ?_); at_builtin; refine Kd.S_append (Kd.slice 3 (Kd.int .i64)) (w0 := w) w.heap.size rfl (.tmp 40) (.tmp 44) 27 31 (.slice none 0 0) 24 rfl Try.underlying27 info31 rfl (by decide) (by omega) u8 x8_2 y616 [.slice Ao21 y616.length co21] (fun _ => True) (fun k_ => some k_ = (.slice Ao21 y616.length co21 : Value).ownBlock) rfl rfl ?aP (fun k_ hk_ => ((Kd.R_mono (ok' := fun k_ => ((fun _ => True)) k_ ∧ some k_ ≠ (u8 : Value).ownBlock) (Kd.R_apart' (HO618.out) (Kd.S_typed HO_8.out) (by decide)) (fun k_ hk => ⟨trivial, hk.2⟩))).1 k_ hk_.symm) ?aF ?aO ?aB ?aS ?aL ?_; (case aP => exact Kd.M_row (Kd.R_mono (Kd.R_tight rfl (Kd.R_mono (ok' := fun k_ => ((fun _ => True)) k_ ∧ some k_ ≠ (u8 : Value).ownBlock) (Kd.R_apart' (HO618.out) (Kd.S_typed HO_8.out) (by decide)) (fun k_ hk => ⟨trivial, hk.2⟩))) (fun _ h_ => h_))); (case aB => exact (Bz HB.out)); (case aF => exact (fun _ _ => trivial)); (case aO => exact (by (with_reducible repeat (first | apply Kd.S_alloc | apply Kd.S_drewN | apply Kd.S_drew)); exact Kd.S_mono HO_8.out (fun k_ hk => ⟨trivial, fun e_ => hk.2 e_⟩))); (case aS => exact (below_size (Bz HB.out))); (case aL => have := LMc17.out; omega); intro v620 w20 ho hb hg hat; rw [← Ny619.out] at ho; have n0_ := am (hb); have n1_ := am (ho); clear HB HO_8 HO618; revert n0_ n1_; intro HB HO621; clear ho hb hg hat))
          go_roundg k2
          case measure => have := HJ3.out; have := HK2.out; omega
          case rel => exact ⟨(y619), (wrap64 (x29_2 + 1)), wZ, H', ⟨by have := HJ3.out; have := HK2.out; omega⟩, ⟨by (with_reducible repeat (first | apply Kd.S_alloc | apply Kd.S_drewN | apply Kd.S_drew)); exact HO621.out⟩, ⟨Bz HB.out⟩⟩
         ·rw [if_neg c17] at H
          exact absurd H (by simp)
        ·rw [if_neg c15] at H
         exact absurd H (by simp)
       ·rw [if_neg c14] at H
        exact absurd H (by simp)
      ·rw [if_neg c13] at H
       have c13b0 : decide (x29_2 < (l1.length : Int)) = false := decide_eq_false c13; clear c13
       simp only [Option.some.injEq, Prod.mk.injEq] at H
       obtain ⟨rfl, rfl⟩ := H
       go_wp2
       go_ret2
       exact ⟨_, eZ, by (with_reducible repeat (first | apply Kd.S_alloc | apply Kd.S_drewN | apply Kd.S_drew)); exact HO_8.out, Bz HB.out⟩

def slices_Index_int_int.l0 : Nat → List Int → Int → Int → Int → Option (Int)
 | 0, _, _, _, _ => none
 | k + 1, x0, x1, x7, x8 => if x8 < x7 then (if 0 ≤ x8 then (if x8 < (x0.length : Int) then (if x1 = (rd x0 x8) then (some x8) else (slices_Index_int_int.l0 k x0 x1 x7 (wrap64 (x8 + 1)))) else (none)) else (none)) else (some (-1))
def slices_Index_int_int.f (k : Nat) (l0 : List Int) (a1 : Int) : Option (Int) := slices_Index_int_int.l0 k l0 a1 (l0.length : Int) 0
theorem slices_Index_int_int.calls (k : Nat) (A0 : Option Addr) (c0 : Nat) (l0 : List Int) (a1 : Int) (r : Int) (w : World) (hr0 : Kd.C (Kd.int .i64) w A0 l0.length l0) (hc0 : l0.length ≤ c0) (h : slices_Index_int_int.f k l0 a1 = some r) :
  Calls Try.prog 133 #[.slice A0 l0.length c0, .int .i64 a1] w fun e w' => e = .returned (.int .i64 r) ∧ Drawn0 w w' := by
 have HR0 := am hr0; have HC0 := am hc0; clear hr0 hc0; have H : (slices_Index_int_int.l0 k l0 a1 (l0.length : Int) 0) = some r := h; clear h; have H' := am H; clear H
 go_enter Try.func133, Try.ntmps133
 go_wp2
 go_loopg [8] k (fun kq v8 w' => ∃ (x8_1 : Int), v8 = .int .i64 x8_1 ∧ Aside0 (slices_Index_int_int.l0 kq l0 a1 (l0.length : Int) x8_1 = some r) ∧ Aside0 (kq ≤ k) ∧ Drawn0 w w')
 case atStart => exact ⟨(0), wZ, H', ⟨Nat.le_refl _⟩, by repeat (first | exact Drawn0.refl _ | apply Drawn0.step)⟩
 case round =>
  clear H'
  try clear c1
  try clear p2
  obtain ⟨x8_1, rfl, HA, HK1, ⟨m1, rfl⟩⟩ := hrel; cases gk with
  | zero => exact absurd HA.out (by simp [slices_Index_int_int.l0])
  | succ k1 =>
   have H := HA.out; clear HA
   simp only [slices_Index_int_int.l0] at H
   by_cases c3 : x8_1 < (l0.length : Int)
   ·rw [if_pos c3] at H
    have c3b0 : decide (x8_1 < (l0.length : Int)) = true := decide_eq_true c3; clear c3
    by_cases c4 : 0 ≤ x8_1
    ·rw [if_pos c4] at H
     have c4b0 : decide (0 ≤ x8_1) = true := decide_eq_true c4; clear c4
     by_cases c5 : x8_1 < (l0.length : Int)
     ·rw [if_pos c5] at H
      have c5b0 : decide (x8_1 < (l0.length : Int)) = true := decide_eq_true c5; clear c5
      by_cases c6 : a1 = (rd l0 x8_1)
      ·rw [if_pos c6] at H
       have c6b0 : (a1 == (rd l0 x8_1)) = true := beq_iff_eq.mpr c6; have c6b1 : (a1 != (rd l0 x8_1)) = false := bne_eq_false_iff_eq.mpr c6; clear c6; obtain rfl := Option.some.inj H; obtain ⟨ad622, e622, hx622_0⟩ := Kd.at_int HR0.out x8_1 dT dT; cases e622; have p622 := eT (0 ≤ (x8_1 : Int)); have q622 := eT (x8_1 < (l0.length : Int))
       go_wp2
       go_ret
       exact ⟨by first | rfl | (simp; done) | (simp [*]; done), by repeat (first | exact Drawn0.refl _ | apply Drawn0.step)⟩
      ·rw [if_neg c6] at H
       have c6b0 : (a1 == (rd l0 x8_1)) = false := beq_eq_false_iff_ne.mpr c6; have c6b1 : (a1 != (rd l0 x8_1)) = true := bne_iff_ne.mpr c6; have H' := am H; clear H; obtain ⟨ad622, e622, hx622_0⟩ := Kd.at_int HR0.out x8_1 dT dT; cases e622; have p622 := eT (0 ≤ (x8_1 : Int)); have q622 := eT (x8_1 < (l0.length : Int))
       go_wp2
       go_roundg k1
       case measure => have := HK1.out; omega
       case rel => exact ⟨(wrap64 (x8_1 + 1)), wZ, H', ⟨by have := HK1.out; omega⟩, by repeat (first | exact Drawn0.refl _ | apply Drawn0.step)⟩
     ·rw [if_neg c5] at H
      exact absurd H (by simp)
    ·rw [if_neg c4] at H
     exact absurd H (by simp)
   ·rw [if_neg c3] at H
    have c3b0 : decide (x8_1 < (l0.length : Int)) = false := decide_eq_false c3; clear c3; obtain rfl := Option.some.inj H
    go_wp2
    go_ret
    exact ⟨by first | rfl | (simp; done) | (simp [*]; done), by repeat (first | exact Drawn0.refl _ | apply Drawn0.step)⟩

def slices_Contains_int_int.f (k : Nat) (l0 : List Int) (a1 : Int) : Option (Bool) := (slices_Index_int_int.f k l0 a1).bind fun t623 => (some (decide (t623 ≥ 0)))
theorem slices_Contains_int_int.calls (k : Nat) (A0 : Option Addr) (c0 : Nat) (l0 : List Int) (a1 : Int) (r : Bool) (w : World) (hr0 : Kd.C (Kd.int .i64) w A0 l0.length l0) (hc0 : l0.length ≤ c0) (h : slices_Contains_int_int.f k l0 a1 = some r) :
  Calls Try.prog 88 #[.slice A0 l0.length c0, .int .i64 a1] w fun e w' => e = .returned (.bool r) ∧ Drawn0 w w' := by
 have HR0 := am hr0; have HC0 := am hc0; clear hr0 hc0; have H : ((slices_Index_int_int.f k l0 a1).bind fun t623 => (some (decide (t623 ≥ 0)))) = some r := h; clear h; replace H := Option.bind_eq_some_iff.mp H; obtain ⟨t623, A30, H⟩ := H; (try dsimp -simprocs only at H); have A3 := am A30; clear A30; obtain rfl := Option.some.inj H
 go_enter Try.func88, Try.ntmps88
 go_wp2_with (first | ((with_reducible refine gate_callee (f := 133) rfl ?_); refine gL (some 7) Try.func133 #[.slice A0 l0.length c0, .int .i64 a1] ?_; (with_reducible refine (slices_Index_int_int.calls k _ _ l0 a1 t623 _ ?side1 ?side2 A3.out).mono ?_); (case side1 => exact Cz HR0.out); (case side2 => exact HC0.out); rintro e w' ⟨rfl, ⟨nd, rfl⟩⟩; refine ⟨_, rfl, ?_⟩))
 go_ret
 exact ⟨by first | rfl | (simp; done) | (simp [*]; done), by repeat (first | exact Drawn0.refl _ | apply Drawn0.step)⟩

-- BY HAND: function 132 (impl_distinct)

mutual
def impl_isPlacement.j0 : Nat → List (List Int) → List Int → Bool → Option (Bool)
 | 0, _, _, _ => none
 | k + 1, x0, x1, x16 => if x16 = true then (some false) else (impl_isPlacement.l0 k x0 x1 (x1.length : Int) 0)
def impl_isPlacement.l0 : Nat → List (List Int) → List Int → Int → Int → Option (Bool)
 | 0, _, _, _, _ => none
 | k + 1, x0, x17, x18, x19 => if x19 < x18 then (if 0 ≤ x19 then (if x19 < (x17.length : Int) then (if x19 < (x0.length : Int) then ((slices_Contains_int_int.f k (rd_L3 x0 x19) (rd x17 x19)).bind fun t627 => (if t627 = true then (impl_isPlacement.l0 k x0 x17 x18 (wrap64 (x19 + 1))) else (some false))) else (none)) else (none)) else (none)) else (some true)
end
def impl_isPlacement.f (k : Nat) (l0 : List (List Int)) (l1 : List Int) : Option (Bool) := if (l1.length : Int) = (l0.length : Int) then ((impl_distinct.f l1).bind fun t624 => (impl_isPlacement.j0 k l0 l1 (!t624))) else (impl_isPlacement.j0 k l0 l1 true)
theorem impl_isPlacement.calls (k : Nat) (A0 : Option Addr) (c0 : Nat) (l0 : List (List Int)) (A1 : Option Addr) (c1 : Nat) (l1 : List Int) (r : Bool) (w : World) (hr0 : Kd.C (Kd.slice 3 (Kd.int .i64)) w A0 l0.length l0) (hc0 : l0.length ≤ c0) (hr1 : Kd.C (Kd.int .i64) w A1 l1.length l1) (hc1 : l1.length ≤ c1) (h : impl_isPlacement.f k l0 l1 = some r) :
  Calls Try.prog 85 #[.slice A0 l0.length c0, .slice A1 l1.length c1] w fun e w' => e = .returned (.bool r) ∧ Below w.heap.size w w' := by
 have HR0 := am hr0; have HC0 := am hc0; clear hr0 hc0; have HR1 := am hr1; have HC1 := am hc1; clear hr1 hc1; have HB := am (Below.refl w.heap.size w); have H : (if (l1.length : Int) = (l0.length : Int) then ((impl_distinct.f l1).bind fun t624 => (impl_isPlacement.j0 k l0 l1 (!t624))) else (impl_isPlacement.j0 k l0 l1 true)) = some r := h; clear h; have HC3 := am H; clear H
 go_enter Try.func85, Try.ntmps85
 go_upto_region 1 with (fail)
 go_cut [16] (fun v16 wc => ∃ (kq : Nat) (x16_2 : Bool), v16 = .bool x16_2 ∧ Aside0 (impl_isPlacement.j0 kq l0 l1 x16_2 = some r) ∧ Aside0 (kq ≤ k) ∧ Aside0 (Below w.heap.size w wc))
 case first =>
  have H := HC3.out; clear HC3
  by_cases c4 : (l1.length : Int) = (l0.length : Int)
  ·rw [if_pos c4] at H
   have c4b0 : ((l1.length : Int) == (l0.length : Int)) = true := beq_iff_eq.mpr c4; have c4b1 : ((l1.length : Int) != (l0.length : Int)) = false := bne_eq_false_iff_eq.mpr c4
   have c4b2 : (l1.length == l0.length) = true := by first | simpa using c4 | (simp at c4 ⊢; omega)
   clear c4
   (first | rw [c4b0] | (simp only [i64_w, i32_w]; rw [c4b0]) | skip)
   replace H := Option.bind_eq_some_iff.mp H; obtain ⟨t624, A50, H⟩ := H; (try dsimp -simprocs only at H); have A5 := am A50; clear A50; have H' := am H; clear H
   go_wp2_with (first | (go_at_call 132; (with_reducible refine (impl_distinct.calls _ _ l1 t624 _ ?side1 ?side2 A5.out).mono ?_); (case side1 => exact Cz (Kd.C_below HR1.out HB.out)); (case side2 => exact HC1.out); rintro e w6 ⟨rfl, hb⟩; have n0_ := Bb HB hb; clear HB; revert n0_; intro HB; (try clear hb); (try clear hb2); (try clear hk); (try clear hi)))
   go_meet
   case rel => exact ⟨_, (!t624), wZ, H', ⟨by first | omega | exact Nat.le_refl _⟩, ⟨Bz HB.out⟩⟩
  ·rw [if_neg c4] at H
   have c4b0 : ((l1.length : Int) == (l0.length : Int)) = false := beq_eq_false_iff_ne.mpr c4; have c4b1 : ((l1.length : Int) != (l0.length : Int)) = true := bne_iff_ne.mpr c4
   have c4b2 : (l1.length == l0.length) = false := by first | simpa using c4 | (simp at c4 ⊢; omega)
   (first | rw [c4b0] | (simp only [i64_w, i32_w]; rw [c4b0]) | skip)
   have H' := am H; clear H
   go_wp2
   go_meet
   case rel => exact ⟨_, (true), wZ, H', ⟨by first | omega | exact Nat.le_refl _⟩, ⟨Bz HB.out⟩⟩
 case rest =>
  clear HC3
  try clear c1
  try clear p2
  try clear c4
  try clear c4b0
  try clear c4b1
  try clear c4b2
  obtain ⟨kq, x16_2, rfl, HA, HJ2, HB⟩ := hcut; cases kq with
  | zero => exact absurd HA.out (by simp [impl_isPlacement.j0])
  | succ kj2 =>
   have H := HA.out; clear HA
   simp only [impl_isPlacement.j0] at H
   by_cases c7 : x16_2 = true
   ·subst c7
    rw [if_pos rfl] at H; obtain rfl := Option.some.inj H
    go_wp2
    go_ret
    exact ⟨eZ, Bz HB.out⟩
   ·replace c7 := Bool.eq_false_iff.mpr c7
    subst c7
    rw [if_neg (show ¬ (false = true) by decide)] at H; have H' := am H; clear H
    go_wp2
    go_loopg [19] kj2 (fun kq v19 w' => ∃ (x19_2 : Int), v19 = .int .i64 x19_2 ∧ Aside0 (impl_isPlacement.l0 kq l0 l1 (l1.length : Int) x19_2 = some r) ∧ Aside0 (kq ≤ kj2) ∧ Aside0 (Below w.heap.size w w'))
    case atStart => exact ⟨(0), wZ, H', ⟨Nat.le_refl _⟩, ⟨Bz HB.out⟩⟩
    case round =>
     clear H'
     try clear c1
     try clear p2
     try clear c4
     try clear c4b0
     try clear c4b1
     try clear c4b2
     try clear c7
     try clear p2
     obtain ⟨x19_2, rfl, HA, HK2, HB⟩ := hrel; cases gk with
     | zero => exact absurd HA.out (by simp [impl_isPlacement.l0])
     | succ k2 =>
      have H := HA.out; clear HA
      simp only [impl_isPlacement.l0] at H
      by_cases c8 : x19_2 < (l1.length : Int)
      ·rw [if_pos c8] at H
       have c8b0 : decide (x19_2 < (l1.length : Int)) = true := decide_eq_true c8; clear c8
       by_cases c9 : 0 ≤ x19_2
       ·rw [if_pos c9] at H
        have c9b0 : decide (0 ≤ x19_2) = true := decide_eq_true c9; clear c9
        by_cases c10 : x19_2 < (l1.length : Int)
        ·rw [if_pos c10] at H
         have c10b0 : decide (x19_2 < (l1.length : Int)) = true := decide_eq_true c10; clear c10
         by_cases c11 : x19_2 < (l0.length : Int)
         ·rw [if_pos c11] at H
          have c11b0 : decide (x19_2 < (l0.length : Int)) = true := decide_eq_true c11; clear c11; replace H := Option.bind_eq_some_iff.mp H; obtain ⟨t627, A120, H⟩ := H; (try dsimp -simprocs only at H); have A12 := am A120; clear A120
          by_cases c13 : t627 = true
          ·subst c13
           rw [if_pos rfl] at H; have H' := am H; clear H; have p625 : 0 ≤ (x19_2 : Int) := dT; have q625 : x19_2 < (l1.length : Int) := dT; obtain ⟨ad625, e625, hx625_0⟩ := Kd.at_int HR1.out x19_2 p625 q625; cases e625; replace hx625_0 := (HB.out.cell (World.block_lt_of_cell? w _ hx625_0)).trans hx625_0; replace p625 := eq_true p625; replace q625 := eq_true q625; have p626 : 0 ≤ (x19_2 : Int) := dT; have q626 : x19_2 < (l0.length : Int) := dT; obtain ⟨ad626, A626_0, c626_0, e626, hx626_0, hl626_0, hi626_0⟩ := at_L3 HR0.out x19_2 p626 q626; cases e626; replace hx626_0 := (HB.out.cell (World.block_lt_of_cell? w _ hx626_0)).trans hx626_0; have HR626_0 := am hi626_0; have HC626_0 := am hl626_0; clear hi626_0 hl626_0; replace p626 := eq_true p626; replace q626 := eq_true q626
           go_wp2_with (first | ((with_reducible refine gate_callee (f := 88) rfl ?_); refine gL (some 29) Try.func88 #[.slice A626_0 (rd_L3 l0 x19_2).length c626_0, .int .i64 (rd l1 x19_2)] ?_; (with_reducible refine (slices_Contains_int_int.calls k2 _ _ (rd_L3 l0 x19_2) (rd l1 x19_2) true _ ?side1 ?side2 A12.out).mono ?_); (case side1 => exact Cz (Kd.C_below HR626_0.out HB.out)); (case side2 => exact HC626_0.out); rintro e w' ⟨rfl, ⟨nd, rfl⟩⟩; refine ⟨_, rfl, ?_⟩))
           go_roundg k2
           case measure => have := HJ2.out; have := HK2.out; omega
           case rel => exact ⟨(wrap64 (x19_2 + 1)), wZ, H', ⟨by have := HJ2.out; have := HK2.out; omega⟩, ⟨Bz HB.out⟩⟩
          ·replace c13 := Bool.eq_false_iff.mpr c13
           subst c13
           rw [if_neg (show ¬ (false = true) by decide)] at H; obtain rfl := Option.some.inj H; have p625 : 0 ≤ (x19_2 : Int) := dT; have q625 : x19_2 < (l1.length : Int) := dT; obtain ⟨ad625, e625, hx625_0⟩ := Kd.at_int HR1.out x19_2 p625 q625; cases e625; replace hx625_0 := (HB.out.cell (World.block_lt_of_cell? w _ hx625_0)).trans hx625_0; replace p625 := eq_true p625; replace q625 := eq_true q625; have p626 : 0 ≤ (x19_2 : Int) := dT; have q626 : x19_2 < (l0.length : Int) := dT; obtain ⟨ad626, A626_0, c626_0, e626, hx626_0, hl626_0, hi626_0⟩ := at_L3 HR0.out x19_2 p626 q626; cases e626; replace hx626_0 := (HB.out.cell (World.block_lt_of_cell? w _ hx626_0)).trans hx626_0; have HR626_0 := am hi626_0; have HC626_0 := am hl626_0; clear hi626_0 hl626_0; replace p626 := eq_true p626; replace q626 := eq_true q626
           go_wp2_with (first | ((with_reducible refine gate_callee (f := 88) rfl ?_); refine gL (some 29) Try.func88 #[.slice A626_0 (rd_L3 l0 x19_2).length c626_0, .int .i64 (rd l1 x19_2)] ?_; (with_reducible refine (slices_Contains_int_int.calls k2 _ _ (rd_L3 l0 x19_2) (rd l1 x19_2) false _ ?side1 ?side2 A12.out).mono ?_); (case side1 => exact Cz (Kd.C_below HR626_0.out HB.out)); (case side2 => exact HC626_0.out); rintro e w' ⟨rfl, ⟨nd, rfl⟩⟩; refine ⟨_, rfl, ?_⟩))
           go_ret
           exact ⟨eZ, Bz HB.out⟩
         ·rw [if_neg c11] at H
          exact absurd H (by simp)
        ·rw [if_neg c10] at H
         exact absurd H (by simp)
       ·rw [if_neg c9] at H
        exact absurd H (by simp)
      ·rw [if_neg c8] at H
       have c8b0 : decide (x19_2 < (l1.length : Int)) = false := decide_eq_false c8; clear c8; obtain rfl := Option.some.inj H
       go_wp2
       go_ret
       exact ⟨eZ, Bz HB.out⟩

def impl_IsPlacement.f (k : Nat) (a0 : Int) (l1 : List ByteArray) (a2 : Int) (l3 : List Int) : Option (Bool × Bool) := (impl_pairs.f k a0 l1 a2).bind fun bt628 => (if bt628.2 = true then ((impl_isPlacement.f k bt628.1 l3).bind fun t632 => (some (t632, true))) else (some (false, false)))
theorem impl_IsPlacement.calls (k : Nat) (a0 : Int) (A1 : Option Addr) (c1 : Nat) (l1 : List ByteArray) (a2 : Int) (A3 : Option Addr) (c3 : Nat) (l3 : List Int) (r1 : Bool) (r2 : Bool) (w : World) (hr1 : Kd.C Kd.string w A1 l1.length l1) (hc1 : l1.length ≤ c1) (hr3 : Kd.C (Kd.int .i64) w A3 l3.length l3) (hc3 : l3.length ≤ c3) (h : impl_IsPlacement.f k a0 l1 a2 l3 = some (r1, r2)) :
  Calls Try.prog 31 #[.int .i64 a0, .slice A1 l1.length c1, .int .i64 a2, .slice A3 l3.length c3] w fun e w' => e = .returned (.tuple #[.bool r1, .bool r2]) ∧ Below w.heap.size w w' := by
 have HR1 := am hr1; have HC1 := am hc1; clear hr1 hc1; have HR3 := am hr3; have HC3 := am hc3; clear hr3 hc3; have HB := am (Below.refl w.heap.size w); have H : ((impl_pairs.f k a0 l1 a2).bind fun bt628 => (if bt628.2 = true then ((impl_isPlacement.f k bt628.1 l3).bind fun t632 => (some (t632, true))) else (some (false, false)))) = some (r1, r2) := h; clear h; replace H := Option.bind_eq_some_iff.mp H; obtain ⟨⟨t628, t629⟩, A50, H⟩ := H; (try dsimp -simprocs only at H); have A5 := am A50; clear A50
 by_cases c6 : t629 = true
 ·subst c6
  rw [if_pos rfl] at H; replace H := Option.bind_eq_some_iff.mp H; obtain ⟨t632, A70, H⟩ := H; (try dsimp -simprocs only at H); have A7 := am A70; clear A70
  simp only [Option.some.injEq, Prod.mk.injEq] at H
  obtain ⟨rfl, rfl⟩ := H
  go_enter Try.func31, Try.ntmps31
  go_wp2_with (first | ((with_reducible refine gate_callee (f := 60) rfl ?_); refine gL (some 16) Try.func60 #[.int .i64 a0, .slice A1 l1.length c1, .int .i64 a2] ?_; (with_reducible refine (impl_pairs.calls k a0 _ _ l1 a2 t628 true _ ?side1 ?side2 A5.out).mono ?_); (case side1 => exact Cz HR1.out); (case side2 => exact HC1.out); rintro e w8 ⟨v630, rfl, ho0, hb⟩; refine ⟨_, rfl, ?_⟩; have n0_ := am (Kd.S_lower ho0 (below_size (Bz HB.out))); have n1_ := Bb HB hb; clear HB; revert n0_ n1_; intro HO631 HB; (try clear hb); (try clear hb2); (try clear hk); (try clear hi); (try clear ho0); obtain ⟨Ao9, co9, eo9⟩ := Kd.S_slice HO631.out; subst eo9) | ((with_reducible refine gate_callee (f := 85) rfl ?_); refine gL (some 23) Try.func85 #[.slice Ao9 t628.length co9, .slice A3 l3.length c3] ?_; (with_reducible refine (impl_isPlacement.calls k _ _ t628 _ _ l3 t632 _ ?side1 ?side2 ?side3 ?side4 A7.out).mono ?_); (case side1 => exact Cz ((Kd.S_reads' HO631.out).2.2)); (case side2 => exact (Kd.S_reads' HO631.out).2.1); (case side3 => exact Cz (Kd.C_below HR3.out HB.out)); (case side4 => exact HC3.out); rintro e w10 ⟨rfl, hb⟩; refine ⟨_, rfl, ?_⟩; have n0_ := am (Kd.S_below (by (with_reducible repeat (first | apply Kd.S_alloc | apply Kd.S_drewN | apply Kd.S_drew)); exact HO631.out) hb); have n1_ := Bb HB hb; clear HO631 HB; revert n0_ n1_; intro HO631 HB; (try clear hb); (try clear hb2); (try clear hk); (try clear hi)))
  go_ret2
  exact ⟨eZ, Bz HB.out⟩
 ·replace c6 := Bool.eq_false_iff.mpr c6
  subst c6
  rw [if_neg (show ¬ (false = true) by decide)] at H
  simp only [Option.some.injEq, Prod.mk.injEq] at H
  obtain ⟨rfl, rfl⟩ := H
  go_enter Try.func31, Try.ntmps31
  go_wp2_with (first | ((with_reducible refine gate_callee (f := 60) rfl ?_); refine gL (some 16) Try.func60 #[.int .i64 a0, .slice A1 l1.length c1, .int .i64 a2] ?_; (with_reducible refine (impl_pairs.calls k a0 _ _ l1 a2 t628 false _ ?side1 ?side2 A5.out).mono ?_); (case side1 => exact Cz HR1.out); (case side2 => exact HC1.out); rintro e w11 ⟨v630, rfl, ho0, hb⟩; refine ⟨_, rfl, ?_⟩; have n0_ := am (Kd.S_lower ho0 (below_size (Bz HB.out))); have n1_ := Bb HB hb; clear HB; revert n0_ n1_; intro HO631 HB; (try clear hb); (try clear hb2); (try clear hk); (try clear hi); (try clear ho0)))
  go_ret2
  exact ⟨eZ, Bz HB.out⟩

def spec_l1Cur_many.l0 : Nat → Int → List ByteArray → Int → List Int → Int → Int → Option (List ByteArray × Int × Int)
 | 0, _, _, _, _, _, _ => none
 | k + 1, x1, x5, x6, x1000, x1001, x1002 => if x6 < x1 then ((spec_l1PutS.f k x5 (strOfNums (([(wrap64 (97 + (wrap64 (Int.tdiv x6 10)))) % 256, (wrap64 (48 + (Int.tmod x6 10))) % 256] : List Int)))).bind fun t636 => (spec_l1Cur_many.l0 k x1 t636 (wrap64 (x6 + 1)) x1000 x1001 x1002)) else (some (x5, x1001, x1002))
def spec_l1Cur_many.f (k : Nat) (s0_0 : List Int) (s0_1 : Int) (s0_2 : Int) (a1 : Int) : Option (List ByteArray × Int × Int) := spec_l1Cur_many.l0 k a1 ([] : List ByteArray) 0 s0_0 s0_1 s0_2
theorem spec_l1Cur_many.calls (k : Nat) (g : Nat) (s0_0 : List Int) (s0_1 : Int) (s0_2 : Int) (a1 : Int) (r1 : List ByteArray) (r2 : Int) (r3 : Int) (w0 w : World) (hI : IsS75 w0 w g s0_0 s0_1 s0_2) (hB : Below w0.heap.size w0 w) (h : spec_l1Cur_many.f k s0_0 s0_1 s0_2 a1 = some (r1, r2, r3)) :
  Calls Try.prog 147 #[.pointer (some ⟨g, 0, none⟩), .int .i64 a1] w fun e w' => ∃ v0_ : Value, e = .returned (v0_) ∧ Kd.R Kd.string 9 w' w.heap.size (fun _ => True) v0_ r1 ∧ IsS75 w0 w' g s0_0 r2 r3 ∧ Below w0.heap.size w0 w' ∧ KeepBut w w' g none := by
 have HI0 := am hI; have HK := am (KeepBut.refl w g none); have HL := am hB.size; clear hI; have HW0 := am hB.size; have HB := am hB; clear hB; have H : (spec_l1Cur_many.l0 k a1 ([] : List ByteArray) 0 s0_0 s0_1 s0_2) = some (r1, r2, r3) := h; clear h; have H' := am H; clear H
 go_enter Try.func147, Try.ntmps147
 go_wp2
 go_loopg [5, 6] k (fun kq v5 v6 w' => ∃ (x5_1 : List ByteArray) (x6_1 : Int), v6 = .int .i64 x6_1 ∧ Aside0 (spec_l1Cur_many.l0 kq a1 x5_1 x6_1 s0_0 s0_1 s0_2 = some (r1, r2, r3)) ∧ Aside0 (kq ≤ k) ∧ Aside0 (Kd.R Kd.string 9 w' w.heap.size (fun _ => True) v5 x5_1) ∧ Aside0 (IsS75 w0 w' g s0_0 s0_1 s0_2) ∧ Aside0 (KeepBut w w' g none) ∧ Aside0 (Below w0.heap.size w0 w'))
 case atStart => exact ⟨(([] : List ByteArray)), (0), wZ, H', ⟨Nat.le_refl _⟩, ⟨nZ⟩, ⟨by repeat (first | (with_reducible first | exact HI0.out | apply IsS75.alloc | apply IsS75.drewN | apply IsS75.drew | apply IsS75.set_1 | apply IsS75.set_2) | exact HI0.out)⟩, ⟨by repeat (first | (with_reducible first | exact HK.out | apply KeepBut.set_ | apply keep_drewN | apply keep_drew | apply keep_alloc) | exact HK.out)⟩, ⟨by repeat (first | (with_reducible first | exact HB.out | apply below_alloc | apply pw_below_drewN | apply below_drew1 | refine below_set ?_ (IsS75.ge HI0.out)) | exact HB.out)⟩⟩
 case round =>
  clear H'
  try clear c1
  try clear p2
  obtain ⟨x5_1, x6_1, rfl, HA, HK1, HO_5, HI0, HK, HB⟩ := hrel; cases gk with
  | zero => exact absurd HA.out (by simp [spec_l1Cur_many.l0])
  | succ k1 =>
   have H := HA.out; clear HA
   simp only [spec_l1Cur_many.l0] at H
   by_cases c3 : x6_1 < a1
   ·rw [if_pos c3] at H
    have c3b0 : decide (x6_1 < a1) = true := decide_eq_true c3; clear c3; obtain ⟨y633, hy633⟩ : ∃ y_ : List Int, y_ = (([(wrap64 (97 + (wrap64 (Int.tdiv x6_1 10)))) % 256, (wrap64 (48 + (Int.tmod x6_1 10))) % 256] : List Int)) := ⟨_, rfl⟩
    replace H : ((spec_l1PutS.f k1 x5_1 (strOfNums y633)).bind fun t636 => (spec_l1Cur_many.l0 k1 a1 t636 (wrap64 (x6_1 + 1)) s0_0 s0_1 s0_2)) = some (r1, r2, r3) := by first | (rw [hy633]; with_reducible exact H) | (have H2_ := (Option.bind_some _ _).symm.trans H; rw [hy633]; with_reducible exact H2_) | (have H2_ := (Option.bind_some _ _).symm.trans H; with_reducible exact H2_) | with_reducible exact H | (rw [hy633]; exact H) | exact H
    have Ny633 := am hy633; clear hy633; replace H := Option.bind_eq_some_iff.mp H; obtain ⟨t636, A40, H⟩ := H; (try dsimp -simprocs only at H); have A4 := am A40; clear A40; have H' := am H; clear H
    go_wp2_with (first | ((with_reducible refine gate_dst (N := 21) rfl ?_); refine Kd.R_lit (Kd.int .u8) _ 5 ?hg (N := 21) ?hd (xs := ([(wrap64 (97 + (wrap64 (Int.tdiv x6_1 10)))) % 256, (wrap64 (48 + (Int.tmod x6_1 10))) % 256] : List Int)) (inner := [.int .u8 ((wrap64 (97 + (wrap64 (Int.tdiv x6_1 10)))) % 256), .int .u8 ((wrap64 (48 + (Int.tmod x6_1 10))) % 256)]) (ok := fun _ => True) (okp := fun _ => True) ?hr ?hp (fun _ hk => hk) trivial (Below.refl _ _) (Nat.le_refl _) (by simp) ?_; (case hd => rfl); (case hg => rfl); (case hr => first | (go_simp; done) | (go_simp; rfl)); (case hp => exact (Reps.one (show Kd.M (Kd.int .u8) _ _ _ ((wrap64 (97 + (wrap64 (Int.tdiv x6_1 10)))) % 256) [.int .u8 ((wrap64 (97 + (wrap64 (Int.tdiv x6_1 10)))) % 256)] from rfl) (Reps.one (show Kd.M (Kd.int .u8) _ _ _ ((wrap64 (48 + (Int.tmod x6_1 10))) % 256) [.int .u8 ((wrap64 (48 + (Int.tmod x6_1 10))) % 256)] from rfl) (Reps.none _ _)))); intro v634 w5 ho6 hb hg_ hnew_; clear hg_ hnew_; (first | rw [← Ny633.out] at ho6 | (simp only [Int.reduceToNat] at ho6; rw [← Ny633.out] at ho6)); have n0_ := Rb HO_5 hb; have n1_ := am (Kd.R_lower ho6 (keep_size (w := w) (g := g) (row := none) (by repeat (first | (with_reducible first | exact HK.out | apply KeepBut.set_ | apply keep_drewN | apply keep_drew | apply keep_alloc) | exact HK.out)))); have n2_ := am (IsS75.below (by repeat (first | (with_reducible first | exact HI0.out | apply IsS75.alloc | apply IsS75.drewN | apply IsS75.drew | apply IsS75.set_1 | apply IsS75.set_2) | exact HI0.out)) hb); have n3_ := am (KeepBut.trans (by repeat (first | (with_reducible first | exact HK.out | apply KeepBut.set_ | apply keep_drewN | apply keep_drew | apply keep_alloc) | exact HK.out)) (KeepBut.of_below hb g none) (.inl rfl)); have n4_ := am (below_step (by repeat (first | (with_reducible first | exact HB.out | apply below_alloc | apply pw_below_drewN | apply below_drew1 | refine below_set ?_ (IsS75.ge HI0.out)) | exact HB.out)) hb); clear HO_5 HI0 HK HB; revert n0_ n1_ n2_ n3_ n4_; intro HO_5 HO635 HI0 HK HB; clear hb ho6; have hcv7 := own_string (P := Try.prog) Try.underlying22 Try.underlying5 Try.underlying9 (Kd.own_of_R HO635.out); obtain ⟨Ao8, co8, eo8⟩ := Kd.R_slice HO_5.out; subst eo8) | ((with_reducible refine gate_callee (f := 136) rfl ?_); refine gL (some 23) Try.func136 #[.slice Ao8 x5_1.length co8, .string (strOfNums y633)] ?_; (with_reducible refine (spec_l1PutS.calls k1 (fun k_ => some k_ = (.slice Ao8 x5_1.length co8 : Value).ownBlock) (.slice Ao8 x5_1.length co8) x5_1 (strOfNums y633) t636 w0 _ ?side1 ?side2 A4.out).mono ?_); (case side1 => repeat (first | (with_reducible first | exact HB.out | apply below_alloc | apply pw_below_drewN | apply below_drew1 | refine below_set ?_ (IsS75.ge HI0.out)) | exact HB.out)); (case side2 => exact Kd.R_lower (Kd.R_tight rfl HO_5.out) HL.out); rintro e w9 ⟨v637, rfl, ho0, hb, hkp⟩; refine ⟨_, rfl, ?_⟩; have n0_ := am (IsS75.kept (by repeat (first | (with_reducible first | exact HI0.out | apply IsS75.alloc | apply IsS75.drewN | apply IsS75.drew | apply IsS75.set_1 | apply IsS75.set_2) | exact HI0.out)) hkp (fun hs_ => (fun e_ => (IsS75.own_ne HI0.out HO_5.out (by decide)) e_) hs_)); have n1_ := am (Kd.R_mono (ok' := fun k_ => True) (Kd.R_keptB ((Kd.R_apart' HO635.out (Kd.R_typed HO_5.out) (by decide))) hkp (fun k_ hk_ hs_ => (hk_.2) hs_)) (fun k_ hk_ => trivial)); have n2_ := am (Kd.R_mono (ok' := fun k_ => True) (Kd.R_raise (d := Kd.string) (b := w0.heap.size) (b' := w.heap.size) (fun _ _ _ _ h_ => h_) ho0 (fun k_ e_ => Or.elim (ho0.1 k_ e_) (fun hs_ => (fun e_ => Kd.R_base HO_5.out k_ e_.symm) hs_) (fun hn_ => Nat.le_trans (keep_size (w := w) (g := g) (row := none) (by repeat (first | (with_reducible first | exact HK.out | apply KeepBut.set_ | apply keep_drewN | apply keep_drew | apply keep_alloc) | exact HK.out))) hn_))) (fun k_ hk_ => trivial)); have n3_ := am (Kept.keepG (by repeat (first | (with_reducible first | exact HK.out | apply KeepBut.set_ | apply keep_drewN | apply keep_drew | apply keep_alloc) | exact HK.out)) hkp (fun k_ hs_ => (fun e_ => .inr (Kd.R_base HO_5.out k_ e_.symm)) hs_)); have n4_ := am (hb); clear HI0 HO635 HK HB HO_5; revert n0_ n1_ n2_ n3_ n4_; intro HI0 HO635 HO638 HK HB; (try clear hb); (try clear hkp); (try clear ho0)))
    go_roundg k1
    case measure => have := HK1.out; omega
    case rel => exact ⟨(t636), (wrap64 (x6_1 + 1)), wZ, H', ⟨by have := HK1.out; omega⟩, ⟨Rz HO638.out⟩, ⟨by repeat (first | (with_reducible first | exact HI0.out | apply IsS75.alloc | apply IsS75.drewN | apply IsS75.drew | apply IsS75.set_1 | apply IsS75.set_2) | exact HI0.out)⟩, ⟨by repeat (first | (with_reducible first | exact HK.out | apply KeepBut.set_ | apply keep_drewN | apply keep_drew | apply keep_alloc) | exact HK.out)⟩, ⟨by repeat (first | (with_reducible first | exact HB.out | apply below_alloc | apply pw_below_drewN | apply below_drew1 | refine below_set ?_ (IsS75.ge HI0.out)) | exact HB.out)⟩⟩
   ·rw [if_neg c3] at H
    have c3b0 : decide (x6_1 < a1) = false := decide_eq_false c3; clear c3
    simp only [Option.some.injEq, Prod.mk.injEq] at H
    obtain ⟨rfl, rfl, rfl⟩ := H
    go_wp2
    go_ret
    exact ⟨_, eZ, Rz HO_5.out, by repeat (first | (with_reducible first | exact HI0.out | apply IsS75.alloc | apply IsS75.drewN | apply IsS75.drew | apply IsS75.set_1 | apply IsS75.set_2) | exact HI0.out), by repeat (first | (with_reducible first | exact HB.out | apply below_alloc | apply pw_below_drewN | apply below_drew1 | refine below_set ?_ (IsS75.ge HI0.out)) | exact HB.out), by repeat (first | (with_reducible first | exact HK.out | apply KeepBut.set_ | apply keep_drewN | apply keep_drew | apply keep_alloc) | exact HK.out)⟩

def spec_l1Cur_anyKeys.f (k : Nat) (s0_0 : List Int) (s0_1 : Int) (s0_2 : Int) (a1 : Int) : Option (List ByteArray × Int × Int) := (spec_l1Cur_keys.f k s0_0 s0_1 s0_2 a1).bind fun bt639 => ((spec_l1Cur_pick.f s0_0 bt639.2.1 bt639.2.2 14).bind fun bt644 => (if bt644.1 = 0 then ((spec_l1Cur_text.f k s0_0 bt644.2.1 bt644.2.2).bind fun bt647 => (if bt639.1.length < 8796093022208 then (some ((bt639.1 ++ [bt647.1]), bt647.2.1, bt647.2.2)) else (none))) else (if bt644.1 = 1 then (if (bt639.1.length : Int) > 0 then ((spec_l1Cur_pick.f s0_0 bt644.2.1 bt644.2.2 (bt639.1.length : Int)).bind fun bt653 => (if 0 ≤ bt653.1 then (if bt653.1 < (bt639.1.length : Int) then (if bt639.1.length < 8796093022208 then (some ((bt639.1 ++ [rdOf ByteArray.empty bt639.1 bt653.1]), bt653.2.1, bt653.2.2)) else (none)) else (none)) else (none))) else (some (bt639.1, bt644.2.1, bt644.2.2))) else (if bt644.1 = 2 then ((spec_l1Cur_pick.f s0_0 bt644.2.1 bt644.2.2 2).bind fun bt660 => ((spec_l1Cur_many.f k s0_0 bt660.2.1 bt660.2.2 (wrap64 (40 + bt660.1))).bind fun bt663 => (some (bt663.1, bt663.2.1, bt663.2.2)))) else (some (bt639.1, bt644.2.1, bt644.2.2))))))
theorem spec_l1Cur_anyKeys.calls (k : Nat) (g : Nat) (s0_0 : List Int) (s0_1 : Int) (s0_2 : Int) (a1 : Int) (r1 : List ByteArray) (r2 : Int) (r3 : Int) (w0 w : World) (hI : IsS75 w0 w g s0_0 s0_1 s0_2) (hB : Below w0.heap.size w0 w) (h : spec_l1Cur_anyKeys.f k s0_0 s0_1 s0_2 a1 = some (r1, r2, r3)) :
  Calls Try.prog 118 #[.pointer (some ⟨g, 0, none⟩), .int .i64 a1] w fun e w' => ∃ v0_ : Value, e = .returned (v0_) ∧ Kd.R Kd.string 9 w' w.heap.size (fun _ => True) v0_ r1 ∧ IsS75 w0 w' g s0_0 r2 r3 ∧ Below w0.heap.size w0 w' ∧ KeepBut w w' g none := by
 have HI0 := am hI; have HK := am (KeepBut.refl w g none); have HL := am hB.size; clear hI; have HW0 := am hB.size; have HB := am hB; clear hB; have H : ((spec_l1Cur_keys.f k s0_0 s0_1 s0_2 a1).bind fun bt639 => ((spec_l1Cur_pick.f s0_0 bt639.2.1 bt639.2.2 14).bind fun bt644 => (if bt644.1 = 0 then ((spec_l1Cur_text.f k s0_0 bt644.2.1 bt644.2.2).bind fun bt647 => (if bt639.1.length < 8796093022208 then (some ((bt639.1 ++ [bt647.1]), bt647.2.1, bt647.2.2)) else (none))) else (if bt644.1 = 1 then (if (bt639.1.length : Int) > 0 then ((spec_l1Cur_pick.f s0_0 bt644.2.1 bt644.2.2 (bt639.1.length : Int)).bind fun bt653 => (if 0 ≤ bt653.1 then (if bt653.1 < (bt639.1.length : Int) then (if bt639.1.length < 8796093022208 then (some ((bt639.1 ++ [rdOf ByteArray.empty bt639.1 bt653.1]), bt653.2.1, bt653.2.2)) else (none)) else (none)) else (none))) else (some (bt639.1, bt644.2.1, bt644.2.2))) else (if bt644.1 = 2 then ((spec_l1Cur_pick.f s0_0 bt644.2.1 bt644.2.2 2).bind fun bt660 => ((spec_l1Cur_many.f k s0_0 bt660.2.1 bt660.2.2 (wrap64 (40 + bt660.1))).bind fun bt663 => (some (bt663.1, bt663.2.1, bt663.2.2)))) else (some (bt639.1, bt644.2.1, bt644.2.2))))))) = some (r1, r2, r3) := h; clear h; replace H := Option.bind_eq_some_iff.mp H; obtain ⟨⟨t639, t642, t643⟩, A30, H⟩ := H; (try dsimp -simprocs only at H); have A3 := am A30; clear A30; replace H := Option.bind_eq_some_iff.mp H; obtain ⟨⟨t644, t645, t646⟩, A40, H⟩ := H; (try dsimp -simprocs only at H)
 have A4 := am A40; clear A40
 by_cases c5 : t644 = 0
 ·rw [if_pos c5] at H
  have c5b0 : (t644 == 0) = true := beq_iff_eq.mpr c5; have c5b1 : (t644 != 0) = false := bne_eq_false_iff_eq.mpr c5; clear c5; replace H := Option.bind_eq_some_iff.mp H; obtain ⟨⟨t647, t648, t649⟩, A60, H⟩ := H; (try dsimp -simprocs only at H); have A6 := am A60; clear A60
  by_cases c7 : t639.length < 8796093022208
  ·rw [if_pos c7] at H
   have LMc7 := am c7; clear c7; obtain ⟨y650, hy650⟩ : ∃ y_ : List ByteArray, y_ = (t639 ++ [t647]) := ⟨_, rfl⟩
   replace H : (some (y650, t648, t649)) = some (r1, r2, r3) := by first | (rw [hy650]; with_reducible exact H) | (have H2_ := (Option.bind_some _ _).symm.trans H; rw [hy650]; with_reducible exact H2_) | (have H2_ := (Option.bind_some _ _).symm.trans H; with_reducible exact H2_) | with_reducible exact H | (rw [hy650]; exact H) | exact H
   have Ny650 := am hy650; clear hy650
   simp only [Option.some.injEq, Prod.mk.injEq] at H
   obtain ⟨rfl, rfl, rfl⟩ := H
   go_enter Try.func118, Try.ntmps118
   go_wp2_with (first | ((with_reducible refine gate_callee (f := 135) rfl ?_); refine gL (some 8) Try.func135 #[.pointer (some ⟨g, 0, none⟩), .int .i64 a1] ?_; (with_reducible refine (spec_l1Cur_keys.calls k g s0_0 s0_1 s0_2 a1 t639 t642 t643 w0 _ ?side1 ?side2 A3.out).mono ?_); (case side1 => repeat (first | (with_reducible first | exact HI0.out | apply IsS75.alloc | apply IsS75.drewN | apply IsS75.drew | apply IsS75.set_1 | apply IsS75.set_2) | exact HI0.out)); (case side2 => repeat (first | (with_reducible first | exact HB.out | apply below_alloc | apply pw_below_drewN | apply below_drew1 | refine below_set ?_ (IsS75.ge HI0.out)) | exact HB.out)); rintro e w8 ⟨v640, rfl, ho0, hi, hb, hk⟩; refine ⟨_, rfl, ?_⟩; have n0_ := am (Kd.R_lower ho0 (keep_size (w := w) (g := g) (row := none) (by repeat (first | (with_reducible first | exact HK.out | apply KeepBut.set_ | apply keep_drewN | apply keep_drew | apply keep_alloc) | exact HK.out)))); have n1_ := am (KeepBut.trans (by repeat (first | (with_reducible first | exact HK.out | apply KeepBut.set_ | apply keep_drewN | apply keep_drew | apply keep_alloc) | exact HK.out)) hk (.inl rfl)); have n2_ := am (hb); have n3_ := am (hi); clear HK HB HI0; revert n0_ n1_ n2_ n3_; intro HO641 HK HB HI0; (try clear hb); (try clear hb2); (try clear hk); (try clear hi); (try clear ho0)) | ((with_reducible refine gate_callee (f := 81) rfl ?_); refine gL (some 10) Try.func81 #[.pointer (some ⟨g, 0, none⟩), .int .i64 14] ?_; (with_reducible refine (spec_l1Cur_pick.calls g s0_0 t642 t643 14 t644 t645 t646 w0 _ ?side1 ?side2 A4.out).mono ?_); (case side1 => repeat (first | (with_reducible first | exact HI0.out | apply IsS75.alloc | apply IsS75.drewN | apply IsS75.drew | apply IsS75.set_1 | apply IsS75.set_2) | exact HI0.out)); (case side2 => repeat (first | (with_reducible first | exact HB.out | apply below_alloc | apply pw_below_drewN | apply below_drew1 | refine below_set ?_ (IsS75.ge HI0.out)) | exact HB.out)); rintro e w9 ⟨rfl, hi, hb, hk⟩; refine ⟨_, rfl, ?_⟩; have n0_ := am (Kd.R_mono (Kd.R_keep (IsS75.apart (show IsS75 w0 _ g s0_0 t642 t643 from by repeat (first | (with_reducible first | exact HI0.out | apply IsS75.alloc | apply IsS75.drewN | apply IsS75.drew | apply IsS75.set_1 | apply IsS75.set_2) | exact HI0.out)) (Rz HO641.out) (by decide)) hk (fun _ h => h.2)) (fun _ h => h.1)); have n1_ := am (KeepBut.trans (by repeat (first | (with_reducible first | exact HK.out | apply KeepBut.set_ | apply keep_drewN | apply keep_drew | apply keep_alloc) | exact HK.out)) hk (.inl rfl)); have n2_ := am (hb); have n3_ := am (hi); clear HO641 HK HB HI0; revert n0_ n1_ n2_ n3_; intro HO641 HK HB HI0; (try clear hb); (try clear hb2); (try clear hk); (try clear hi)) | ((with_reducible refine gate_callee (f := 98) rfl ?_); refine gL (some 15) Try.func98 #[.pointer (some ⟨g, 0, none⟩)] ?_; (with_reducible refine (spec_l1Cur_text.calls k g s0_0 t645 t646 t647 t648 t649 w0 _ ?side1 ?side2 A6.out).mono ?_); (case side1 => repeat (first | (with_reducible first | exact HI0.out | apply IsS75.alloc | apply IsS75.drewN | apply IsS75.drew | apply IsS75.set_1 | apply IsS75.set_2) | exact HI0.out)); (case side2 => repeat (first | (with_reducible first | exact HB.out | apply below_alloc | apply pw_below_drewN | apply below_drew1 | refine below_set ?_ (IsS75.ge HI0.out)) | exact HB.out)); rintro e w10 ⟨rfl, hi, hb, hk⟩; refine ⟨_, rfl, ?_⟩; have n0_ := am (Kd.R_mono (Kd.R_keep (IsS75.apart (show IsS75 w0 _ g s0_0 t645 t646 from by repeat (first | (with_reducible first | exact HI0.out | apply IsS75.alloc | apply IsS75.drewN | apply IsS75.drew | apply IsS75.set_1 | apply IsS75.set_2) | exact HI0.out)) (Rz HO641.out) (by decide)) hk (fun _ h => h.2)) (fun _ h => h.1)); have n1_ := am (KeepBut.trans (by repeat (first | (with_reducible first | exact HK.out | apply KeepBut.set_ | apply keep_drewN | apply keep_drew | apply keep_alloc) | exact HK.out)) hk (.inl rfl)); have n2_ := am (hb); have n3_ := am (hi); clear HO641 HK HB HI0; revert n0_ n1_ n2_ n3_; intro HO641 HK HB HI0; (try clear hb); (try clear hb2); (try clear hk); (try clear hi)) | ((with_reducible refine gate_builtin (b := .append) (xs := #[.tmp 13, .tmp 16]) rfl ?_); at_builtin; refine Kd.R_append Kd.string w.heap.size rfl (.tmp 13) (.tmp 16) 24 9 (.string ⟨#[]⟩) 16 rfl Try.underlying24 info9 rfl (by decide) (by omega) v640 t639 t647 [.string t647] (fun _ => True) (fun _ => False) rfl rfl ?aP (fun _ hk => hk.elim) ?aF ?aO (Below.refl _ _) ?aS ?aL ?_; (case aP => exact rfl); (case aF => exact (fun _ _ => trivial)); (case aO => exact (Rz HO641.out)); (case aS => exact (keep_size (w := w) (g := g) (row := none) (by repeat (first | (with_reducible first | exact HK.out | apply KeepBut.set_ | apply keep_drewN | apply keep_drew | apply keep_alloc) | exact HK.out)))); (case aL => have := LMc7.out; omega); intro v651 w11 ho hb hg hat; rw [← Ny650.out] at ho; have n0_ := am (IsS75.grown (by repeat (first | (with_reducible first | exact HI0.out | apply IsS75.alloc | apply IsS75.drewN | apply IsS75.drew | apply IsS75.set_1 | apply IsS75.set_2) | exact HI0.out)) hg (IsS75.own_ne HI0.out HO641.out (by decide))); have n1_ := am (below_weaken (by repeat (first | (with_reducible first | exact HB.out | apply below_alloc | apply pw_below_drewN | apply below_drew1 | refine below_set ?_ (IsS75.ge HI0.out)) | exact HB.out)) HL.out hb); have n2_ := am (KeepBut.trans (by repeat (first | (with_reducible first | exact HK.out | apply KeepBut.set_ | apply keep_drewN | apply keep_drew | apply keep_alloc) | exact HK.out)) (KeepBut.of_grown hg g) (Kd.R_base2 HO641.out)); have n3_ := am (ho); clear HI0 HB HK HO641; revert n0_ n1_ n2_ n3_; intro HI0 HB HK HO652; clear ho hb hg hat))
   go_ret
   exact ⟨_, eZ, Rz HO652.out, by repeat (first | (with_reducible first | exact HI0.out | apply IsS75.alloc | apply IsS75.drewN | apply IsS75.drew | apply IsS75.set_1 | apply IsS75.set_2) | exact HI0.out), by repeat (first | (with_reducible first | exact HB.out | apply below_alloc | apply pw_below_drewN | apply below_drew1 | refine below_set ?_ (IsS75.ge HI0.out)) | exact HB.out), by repeat (first | (with_reducible first | exact HK.out | apply KeepBut.set_ | apply keep_drewN | apply keep_drew | apply keep_alloc) | exact HK.out)⟩
  ·rw [if_neg c7] at H
   exact absurd H (by simp)
 ·rw [if_neg c5] at H
  have c5b0 : (t644 == 0) = false := beq_eq_false_iff_ne.mpr c5; have c5b1 : (t644 != 0) = true := bne_iff_ne.mpr c5
  by_cases c12 : t644 = 1
  ·rw [if_pos c12] at H
   have c12b0 : (t644 == 1) = true := beq_iff_eq.mpr c12; have c12b1 : (t644 != 1) = false := bne_eq_false_iff_eq.mpr c12; clear c12
   by_cases c13 : (t639.length : Int) > 0
   ·rw [if_pos c13] at H
    have c13b0 : decide (0 < (t639.length : Int)) = true := decide_eq_true c13; have c13b1 : decide (0 < t639.length) = true := decide_eq_true (by omega); clear c13; replace H := Option.bind_eq_some_iff.mp H; obtain ⟨⟨t653, t654, t655⟩, A140, H⟩ := H; (try dsimp -simprocs only at H); have A14 := am A140; clear A140
    by_cases c15 : 0 ≤ t653
    ·rw [if_pos c15] at H
     have c15b0 : decide (0 ≤ t653) = true := decide_eq_true c15; clear c15
     by_cases c16 : t653 < (t639.length : Int)
     ·rw [if_pos c16] at H
      have c16b0 : decide (t653 < (t639.length : Int)) = true := decide_eq_true c16; clear c16
      by_cases c17 : t639.length < 8796093022208
      ·rw [if_pos c17] at H
       have LMc17 := am c17; clear c17; obtain ⟨y657, hy657⟩ : ∃ y_ : List ByteArray, y_ = (t639 ++ [rdOf ByteArray.empty t639 t653]) := ⟨_, rfl⟩
       replace H : (some (y657, t654, t655)) = some (r1, r2, r3) := by first | (rw [hy657]; with_reducible exact H) | (have H2_ := (Option.bind_some _ _).symm.trans H; rw [hy657]; with_reducible exact H2_) | (have H2_ := (Option.bind_some _ _).symm.trans H; with_reducible exact H2_) | with_reducible exact H | (rw [hy657]; exact H) | exact H
       have Ny657 := am hy657; clear hy657
       simp only [Option.some.injEq, Prod.mk.injEq] at H
       obtain ⟨rfl, rfl, rfl⟩ := H
       go_enter Try.func118, Try.ntmps118
       go_wp2_with (first | ((with_reducible refine gate_callee (f := 135) rfl ?_); refine gL (some 8) Try.func135 #[.pointer (some ⟨g, 0, none⟩), .int .i64 a1] ?_; (with_reducible refine (spec_l1Cur_keys.calls k g s0_0 s0_1 s0_2 a1 t639 t642 t643 w0 _ ?side1 ?side2 A3.out).mono ?_); (case side1 => repeat (first | (with_reducible first | exact HI0.out | apply IsS75.alloc | apply IsS75.drewN | apply IsS75.drew | apply IsS75.set_1 | apply IsS75.set_2) | exact HI0.out)); (case side2 => repeat (first | (with_reducible first | exact HB.out | apply below_alloc | apply pw_below_drewN | apply below_drew1 | refine below_set ?_ (IsS75.ge HI0.out)) | exact HB.out)); rintro e w18 ⟨v640, rfl, ho0, hi, hb, hk⟩; refine ⟨_, rfl, ?_⟩; have n0_ := am (Kd.R_lower ho0 (keep_size (w := w) (g := g) (row := none) (by repeat (first | (with_reducible first | exact HK.out | apply KeepBut.set_ | apply keep_drewN | apply keep_drew | apply keep_alloc) | exact HK.out)))); have n1_ := am (KeepBut.trans (by repeat (first | (with_reducible first | exact HK.out | apply KeepBut.set_ | apply keep_drewN | apply keep_drew | apply keep_alloc) | exact HK.out)) hk (.inl rfl)); have n2_ := am (hb); have n3_ := am (hi); clear HK HB HI0; revert n0_ n1_ n2_ n3_; intro HO641 HK HB HI0; (try clear hb); (try clear hb2); (try clear hk); (try clear hi); (try clear ho0)) | ((with_reducible refine gate_callee (f := 81) rfl ?_); refine gL (some 10) Try.func81 #[.pointer (some ⟨g, 0, none⟩), .int .i64 14] ?_; (with_reducible refine (spec_l1Cur_pick.calls g s0_0 t642 t643 14 t644 t645 t646 w0 _ ?side1 ?side2 A4.out).mono ?_); (case side1 => repeat (first | (with_reducible first | exact HI0.out | apply IsS75.alloc | apply IsS75.drewN | apply IsS75.drew | apply IsS75.set_1 | apply IsS75.set_2) | exact HI0.out)); (case side2 => repeat (first | (with_reducible first | exact HB.out | apply below_alloc | apply pw_below_drewN | apply below_drew1 | refine below_set ?_ (IsS75.ge HI0.out)) | exact HB.out)); rintro e w19 ⟨rfl, hi, hb, hk⟩; refine ⟨_, rfl, ?_⟩; have n0_ := am (Kd.R_mono (Kd.R_keep (IsS75.apart (show IsS75 w0 _ g s0_0 t642 t643 from by repeat (first | (with_reducible first | exact HI0.out | apply IsS75.alloc | apply IsS75.drewN | apply IsS75.drew | apply IsS75.set_1 | apply IsS75.set_2) | exact HI0.out)) (Rz HO641.out) (by decide)) hk (fun _ h => h.2)) (fun _ h => h.1)); have n1_ := am (KeepBut.trans (by repeat (first | (with_reducible first | exact HK.out | apply KeepBut.set_ | apply keep_drewN | apply keep_drew | apply keep_alloc) | exact HK.out)) hk (.inl rfl)); have n2_ := am (hb); have n3_ := am (hi); clear HO641 HK HB HI0; revert n0_ n1_ n2_ n3_; intro HO641 HK HB HI0; (try clear hb); (try clear hb2); (try clear hk); (try clear hi); obtain ⟨Ao20, co20, eo20⟩ := Kd.R_slice HO641.out; subst eo20) | ((with_reducible refine gate_callee (f := 81) rfl ?_); refine gL (some 28) Try.func81 #[.pointer (some ⟨g, 0, none⟩), .int .i64 (t639.length : Int)] ?_; (with_reducible refine (spec_l1Cur_pick.calls g s0_0 t645 t646 (t639.length : Int) t653 t654 t655 w0 _ ?side1 ?side2 A14.out).mono ?_); (case side1 => repeat (first | (with_reducible first | exact HI0.out | apply IsS75.alloc | apply IsS75.drewN | apply IsS75.drew | apply IsS75.set_1 | apply IsS75.set_2) | exact HI0.out)); (case side2 => repeat (first | (with_reducible first | exact HB.out | apply below_alloc | apply pw_below_drewN | apply below_drew1 | refine below_set ?_ (IsS75.ge HI0.out)) | exact HB.out)); rintro e w21 ⟨rfl, hi, hb, hk⟩; refine ⟨_, rfl, ?_⟩; have n0_ := am (Kd.R_mono (Kd.R_keep (IsS75.apart (show IsS75 w0 _ g s0_0 t645 t646 from by repeat (first | (with_reducible first | exact HI0.out | apply IsS75.alloc | apply IsS75.drewN | apply IsS75.drew | apply IsS75.set_1 | apply IsS75.set_2) | exact HI0.out)) (Rz HO641.out) (by decide)) hk (fun _ h => h.2)) (fun _ h => h.1)); have n1_ := am (KeepBut.trans (by repeat (first | (with_reducible first | exact HK.out | apply KeepBut.set_ | apply keep_drewN | apply keep_drew | apply keep_alloc) | exact HK.out)) hk (.inl rfl)); have n2_ := am (hb); have n3_ := am (hi); clear HO641 HK HB HI0; revert n0_ n1_ n2_ n3_; intro HO641 HK HB HI0; (try clear hb); (try clear hb2); (try clear hk); (try clear hi); obtain ⟨ad656, e656, hx656_0⟩ := Kd.at_string (Kd.R_reads' HO641.out).2.2 t653 dT dT; cases e656; have p656 := eT (0 ≤ (t653 : Int)); have q656 := eT (t653 < (t639.length : Int))) | ((with_reducible refine gate_builtin (b := .append) (xs := #[.tmp 23, .tmp 31]) rfl ?_); at_builtin; refine Kd.R_append Kd.string w.heap.size rfl (.tmp 23) (.tmp 31) 24 9 (.string ⟨#[]⟩) 16 rfl Try.underlying24 info9 rfl (by decide) (by omega) (.slice (some ad656) t639.length co20) t639 (rdOf ByteArray.empty t639 t653) [.string (rdOf ByteArray.empty t639 t653)] (fun _ => True) (fun _ => False) rfl rfl ?aP (fun _ hk => hk.elim) ?aF ?aO (Below.refl _ _) ?aS ?aL ?_; (case aP => exact rfl); (case aF => exact (fun _ _ => trivial)); (case aO => exact (Rz HO641.out)); (case aS => exact (keep_size (w := w) (g := g) (row := none) (by repeat (first | (with_reducible first | exact HK.out | apply KeepBut.set_ | apply keep_drewN | apply keep_drew | apply keep_alloc) | exact HK.out)))); (case aL => have := LMc17.out; omega); intro v658 w22 ho hb hg hat; rw [← Ny657.out] at ho; have n0_ := am (IsS75.grown (by repeat (first | (with_reducible first | exact HI0.out | apply IsS75.alloc | apply IsS75.drewN | apply IsS75.drew | apply IsS75.set_1 | apply IsS75.set_2) | exact HI0.out)) hg (IsS75.own_ne HI0.out HO641.out (by decide))); have n1_ := am (below_weaken (by repeat (first | (with_reducible first | exact HB.out | apply below_alloc | apply pw_below_drewN | apply below_drew1 | refine below_set ?_ (IsS75.ge HI0.out)) | exact HB.out)) HL.out hb); have n2_ := am (KeepBut.trans (by repeat (first | (with_reducible first | exact HK.out | apply KeepBut.set_ | apply keep_drewN | apply keep_drew | apply keep_alloc) | exact HK.out)) (KeepBut.of_grown hg g) (Kd.R_base2 HO641.out)); have n3_ := am (ho); clear HI0 HB HK HO641; revert n0_ n1_ n2_ n3_; intro HI0 HB HK HO659; clear ho hb hg hat))
       go_ret
       exact ⟨_, eZ, Rz HO659.out, by repeat (first | (with_reducible first | exact HI0.out | apply IsS75.alloc | apply IsS75.drewN | apply IsS75.drew | apply IsS75.set_1 | apply IsS75.set_2) | exact HI0.out), by repeat (first | (with_reducible first | exact HB.out | apply below_alloc | apply pw_below_drewN | apply below_drew1 | refine below_set ?_ (IsS75.ge HI0.out)) | exact HB.out), by repeat (first | (with_reducible first | exact HK.out | apply KeepBut.set_ | apply keep_drewN | apply keep_drew | apply keep_alloc) | exact HK.out)⟩
      ·rw [if_neg c17] at H
       exact absurd H (by simp)
     ·rw [if_neg c16] at H
      exact absurd H (by simp)
    ·rw [if_neg c15] at H
     exact absurd H (by simp)
   ·rw [if_neg c13] at H
    have c13b0 : decide (0 < (t639.length : Int)) = false := decide_eq_false c13; have c13b1 : decide (0 < t639.length) = false := decide_eq_false (by omega); clear c13
    simp only [Option.some.injEq, Prod.mk.injEq] at H
    obtain ⟨rfl, rfl, rfl⟩ := H
    go_enter Try.func118, Try.ntmps118
    go_wp2_with (first | ((with_reducible refine gate_callee (f := 135) rfl ?_); refine gL (some 8) Try.func135 #[.pointer (some ⟨g, 0, none⟩), .int .i64 a1] ?_; (with_reducible refine (spec_l1Cur_keys.calls k g s0_0 s0_1 s0_2 a1 t639 t642 t643 w0 _ ?side1 ?side2 A3.out).mono ?_); (case side1 => repeat (first | (with_reducible first | exact HI0.out | apply IsS75.alloc | apply IsS75.drewN | apply IsS75.drew | apply IsS75.set_1 | apply IsS75.set_2) | exact HI0.out)); (case side2 => repeat (first | (with_reducible first | exact HB.out | apply below_alloc | apply pw_below_drewN | apply below_drew1 | refine below_set ?_ (IsS75.ge HI0.out)) | exact HB.out)); rintro e w23 ⟨v640, rfl, ho0, hi, hb, hk⟩; refine ⟨_, rfl, ?_⟩; have n0_ := am (Kd.R_lower ho0 (keep_size (w := w) (g := g) (row := none) (by repeat (first | (with_reducible first | exact HK.out | apply KeepBut.set_ | apply keep_drewN | apply keep_drew | apply keep_alloc) | exact HK.out)))); have n1_ := am (KeepBut.trans (by repeat (first | (with_reducible first | exact HK.out | apply KeepBut.set_ | apply keep_drewN | apply keep_drew | apply keep_alloc) | exact HK.out)) hk (.inl rfl)); have n2_ := am (hb); have n3_ := am (hi); clear HK HB HI0; revert n0_ n1_ n2_ n3_; intro HO641 HK HB HI0; (try clear hb); (try clear hb2); (try clear hk); (try clear hi); (try clear ho0)) | ((with_reducible refine gate_callee (f := 81) rfl ?_); refine gL (some 10) Try.func81 #[.pointer (some ⟨g, 0, none⟩), .int .i64 14] ?_; (with_reducible refine (spec_l1Cur_pick.calls g s0_0 t642 t643 14 t644 t645 t646 w0 _ ?side1 ?side2 A4.out).mono ?_); (case side1 => repeat (first | (with_reducible first | exact HI0.out | apply IsS75.alloc | apply IsS75.drewN | apply IsS75.drew | apply IsS75.set_1 | apply IsS75.set_2) | exact HI0.out)); (case side2 => repeat (first | (with_reducible first | exact HB.out | apply below_alloc | apply pw_below_drewN | apply below_drew1 | refine below_set ?_ (IsS75.ge HI0.out)) | exact HB.out)); rintro e w24 ⟨rfl, hi, hb, hk⟩; refine ⟨_, rfl, ?_⟩; have n0_ := am (Kd.R_mono (Kd.R_keep (IsS75.apart (show IsS75 w0 _ g s0_0 t642 t643 from by repeat (first | (with_reducible first | exact HI0.out | apply IsS75.alloc | apply IsS75.drewN | apply IsS75.drew | apply IsS75.set_1 | apply IsS75.set_2) | exact HI0.out)) (Rz HO641.out) (by decide)) hk (fun _ h => h.2)) (fun _ h => h.1)); have n1_ := am (KeepBut.trans (by repeat (first | (with_reducible first | exact HK.out | apply KeepBut.set_ | apply keep_drewN | apply keep_drew | apply keep_alloc) | exact HK.out)) hk (.inl rfl)); have n2_ := am (hb); have n3_ := am (hi); clear HO641 HK HB HI0; revert n0_ n1_ n2_ n3_; intro HO641 HK HB HI0; (try clear hb); (try clear hb2); (try clear hk); (try clear hi); obtain ⟨Ao25, co25, eo25⟩ := Kd.R_slice HO641.out; subst eo25))
    go_ret
    exact ⟨_, eZ, Rz HO641.out, by repeat (first | (with_reducible first | exact HI0.out | apply IsS75.alloc | apply IsS75.drewN | apply IsS75.drew | apply IsS75.set_1 | apply IsS75.set_2) | exact HI0.out), by repeat (first | (with_reducible first | exact HB.out | apply below_alloc | apply pw_below_drewN | apply below_drew1 | refine below_set ?_ (IsS75.ge HI0.out)) | exact HB.out), by repeat (first | (with_reducible first | exact HK.out | apply KeepBut.set_ | apply keep_drewN | apply keep_drew | apply keep_alloc) | exact HK.out)⟩
  ·rw [if_neg c12] at H
   have c12b0 : (t644 == 1) = false := beq_eq_false_iff_ne.mpr c12; have c12b1 : (t644 != 1) = true := bne_iff_ne.mpr c12
   by_cases c26 : t644 = 2
   ·rw [if_pos c26] at H
    have c26b0 : (t644 == 2) = true := beq_iff_eq.mpr c26; have c26b1 : (t644 != 2) = false := bne_eq_false_iff_eq.mpr c26; clear c26; replace H := Option.bind_eq_some_iff.mp H; obtain ⟨⟨t660, t661, t662⟩, A270, H⟩ := H; (try dsimp -simprocs only at H); have A27 := am A270; clear A270; replace H := Option.bind_eq_some_iff.mp H; obtain ⟨⟨t663, t666, t667⟩, A280, H⟩ := H; (try dsimp -simprocs only at H); have A28 := am A280; clear A280
    simp only [Option.some.injEq, Prod.mk.injEq] at H
    obtain ⟨rfl, rfl, rfl⟩ := H
    go_enter Try.func118, Try.ntmps118
    go_wp2_with (first | ((with_reducible refine gate_callee (f := 135) rfl ?_); refine gL (some 8) Try.func135 #[.pointer (some ⟨g, 0, none⟩), .int .i64 a1] ?_; (with_reducible refine (spec_l1Cur_keys.calls k g s0_0 s0_1 s0_2 a1 t639 t642 t643 w0 _ ?side1 ?side2 A3.out).mono ?_); (case side1 => repeat (first | (with_reducible first | exact HI0.out | apply IsS75.alloc | apply IsS75.drewN | apply IsS75.drew | apply IsS75.set_1 | apply IsS75.set_2) | exact HI0.out)); (case side2 => repeat (first | (with_reducible first | exact HB.out | apply below_alloc | apply pw_below_drewN | apply below_drew1 | refine below_set ?_ (IsS75.ge HI0.out)) | exact HB.out)); rintro e w29 ⟨v640, rfl, ho0, hi, hb, hk⟩; refine ⟨_, rfl, ?_⟩; have n0_ := am (Kd.R_lower ho0 (keep_size (w := w) (g := g) (row := none) (by repeat (first | (with_reducible first | exact HK.out | apply KeepBut.set_ | apply keep_drewN | apply keep_drew | apply keep_alloc) | exact HK.out)))); have n1_ := am (KeepBut.trans (by repeat (first | (with_reducible first | exact HK.out | apply KeepBut.set_ | apply keep_drewN | apply keep_drew | apply keep_alloc) | exact HK.out)) hk (.inl rfl)); have n2_ := am (hb); have n3_ := am (hi); clear HK HB HI0; revert n0_ n1_ n2_ n3_; intro HO641 HK HB HI0; (try clear hb); (try clear hb2); (try clear hk); (try clear hi); (try clear ho0)) | ((with_reducible refine gate_callee (f := 81) rfl ?_); refine gL (some 10) Try.func81 #[.pointer (some ⟨g, 0, none⟩), .int .i64 14] ?_; (with_reducible refine (spec_l1Cur_pick.calls g s0_0 t642 t643 14 t644 t645 t646 w0 _ ?side1 ?side2 A4.out).mono ?_); (case side1 => repeat (first | (with_reducible first | exact HI0.out | apply IsS75.alloc | apply IsS75.drewN | apply IsS75.drew | apply IsS75.set_1 | apply IsS75.set_2) | exact HI0.out)); (case side2 => repeat (first | (with_reducible first | exact HB.out | apply below_alloc | apply pw_below_drewN | apply below_drew1 | refine below_set ?_ (IsS75.ge HI0.out)) | exact HB.out)); rintro e w30 ⟨rfl, hi, hb, hk⟩; refine ⟨_, rfl, ?_⟩; have n0_ := am (Kd.R_mono (Kd.R_keep (IsS75.apart (show IsS75 w0 _ g s0_0 t642 t643 from by repeat (first | (with_reducible first | exact HI0.out | apply IsS75.alloc | apply IsS75.drewN | apply IsS75.drew | apply IsS75.set_1 | apply IsS75.set_2) | exact HI0.out)) (Rz HO641.out) (by decide)) hk (fun _ h => h.2)) (fun _ h => h.1)); have n1_ := am (KeepBut.trans (by repeat (first | (with_reducible first | exact HK.out | apply KeepBut.set_ | apply keep_drewN | apply keep_drew | apply keep_alloc) | exact HK.out)) hk (.inl rfl)); have n2_ := am (hb); have n3_ := am (hi); clear HO641 HK HB HI0; revert n0_ n1_ n2_ n3_; intro HO641 HK HB HI0; (try clear hb); (try clear hb2); (try clear hk); (try clear hi)) | ((with_reducible refine gate_callee (f := 81) rfl ?_); refine gL (some 37) Try.func81 #[.pointer (some ⟨g, 0, none⟩), .int .i64 2] ?_; (with_reducible refine (spec_l1Cur_pick.calls g s0_0 t645 t646 2 t660 t661 t662 w0 _ ?side1 ?side2 A27.out).mono ?_); (case side1 => repeat (first | (with_reducible first | exact HI0.out | apply IsS75.alloc | apply IsS75.drewN | apply IsS75.drew | apply IsS75.set_1 | apply IsS75.set_2) | exact HI0.out)); (case side2 => repeat (first | (with_reducible first | exact HB.out | apply below_alloc | apply pw_below_drewN | apply below_drew1 | refine below_set ?_ (IsS75.ge HI0.out)) | exact HB.out)); rintro e w31 ⟨rfl, hi, hb, hk⟩; refine ⟨_, rfl, ?_⟩; have n0_ := am (Kd.R_mono (Kd.R_keep (IsS75.apart (show IsS75 w0 _ g s0_0 t645 t646 from by repeat (first | (with_reducible first | exact HI0.out | apply IsS75.alloc | apply IsS75.drewN | apply IsS75.drew | apply IsS75.set_1 | apply IsS75.set_2) | exact HI0.out)) (Rz HO641.out) (by decide)) hk (fun _ h => h.2)) (fun _ h => h.1)); have n1_ := am (KeepBut.trans (by repeat (first | (with_reducible first | exact HK.out | apply KeepBut.set_ | apply keep_drewN | apply keep_drew | apply keep_alloc) | exact HK.out)) hk (.inl rfl)); have n2_ := am (hb); have n3_ := am (hi); clear HO641 HK HB HI0; revert n0_ n1_ n2_ n3_; intro HO641 HK HB HI0; (try clear hb); (try clear hb2); (try clear hk); (try clear hi)) | ((with_reducible refine gate_callee (f := 147) rfl ?_); refine gL (some 39) Try.func147 #[.pointer (some ⟨g, 0, none⟩), .int .i64 (wrap64 (40 + t660))] ?_; (with_reducible refine (spec_l1Cur_many.calls k g s0_0 t661 t662 (wrap64 (40 + t660)) t663 t666 t667 w0 _ ?side1 ?side2 A28.out).mono ?_); (case side1 => repeat (first | (with_reducible first | exact HI0.out | apply IsS75.alloc | apply IsS75.drewN | apply IsS75.drew | apply IsS75.set_1 | apply IsS75.set_2) | exact HI0.out)); (case side2 => repeat (first | (with_reducible first | exact HB.out | apply below_alloc | apply pw_below_drewN | apply below_drew1 | refine below_set ?_ (IsS75.ge HI0.out)) | exact HB.out)); rintro e w32 ⟨v664, rfl, ho0, hi, hb, hk⟩; refine ⟨_, rfl, ?_⟩; have n0_ := am (Kd.R_mono (Kd.R_told (Kd.R_oldK (IsS75.apart (show IsS75 w0 _ g s0_0 t661 t662 from by repeat (first | (with_reducible first | exact HI0.out | apply IsS75.alloc | apply IsS75.drewN | apply IsS75.drew | apply IsS75.set_1 | apply IsS75.set_2) | exact HI0.out)) (Rz HO641.out) (by decide)) hk) (Kd.R_base ho0)) (fun _ h_ => h_.1)); have n1_ := am (Kd.R_lower (Kd.R_new' ho0 (Kd.R_lt (Rz HO641.out))) (keep_size (w := w) (g := g) (row := none) (by repeat (first | (with_reducible first | exact HK.out | apply KeepBut.set_ | apply keep_drewN | apply keep_drew | apply keep_alloc) | exact HK.out)))); have n2_ := am (KeepBut.trans (by repeat (first | (with_reducible first | exact HK.out | apply KeepBut.set_ | apply keep_drewN | apply keep_drew | apply keep_alloc) | exact HK.out)) hk (.inl rfl)); have n3_ := am (hb); have n4_ := am (hi); clear HO641 HK HB HI0; revert n0_ n1_ n2_ n3_ n4_; intro HO641 HO665 HK HB HI0; (try clear hb); (try clear hb2); (try clear hk); (try clear hi); (try clear ho0)))
    go_ret
    exact ⟨_, eZ, Rz (Kd.R_mono HO665.out (fun _ hk => trivial)), by repeat (first | (with_reducible first | exact HI0.out | apply IsS75.alloc | apply IsS75.drewN | apply IsS75.drew | apply IsS75.set_1 | apply IsS75.set_2) | exact HI0.out), by repeat (first | (with_reducible first | exact HB.out | apply below_alloc | apply pw_below_drewN | apply below_drew1 | refine below_set ?_ (IsS75.ge HI0.out)) | exact HB.out), by repeat (first | (with_reducible first | exact HK.out | apply KeepBut.set_ | apply keep_drewN | apply keep_drew | apply keep_alloc) | exact HK.out)⟩
   ·rw [if_neg c26] at H
    have c26b0 : (t644 == 2) = false := beq_eq_false_iff_ne.mpr c26; have c26b1 : (t644 != 2) = true := bne_iff_ne.mpr c26
    simp only [Option.some.injEq, Prod.mk.injEq] at H
    obtain ⟨rfl, rfl, rfl⟩ := H
    go_enter Try.func118, Try.ntmps118
    go_wp2_with (first | ((with_reducible refine gate_callee (f := 135) rfl ?_); refine gL (some 8) Try.func135 #[.pointer (some ⟨g, 0, none⟩), .int .i64 a1] ?_; (with_reducible refine (spec_l1Cur_keys.calls k g s0_0 s0_1 s0_2 a1 t639 t642 t643 w0 _ ?side1 ?side2 A3.out).mono ?_); (case side1 => repeat (first | (with_reducible first | exact HI0.out | apply IsS75.alloc | apply IsS75.drewN | apply IsS75.drew | apply IsS75.set_1 | apply IsS75.set_2) | exact HI0.out)); (case side2 => repeat (first | (with_reducible first | exact HB.out | apply below_alloc | apply pw_below_drewN | apply below_drew1 | refine below_set ?_ (IsS75.ge HI0.out)) | exact HB.out)); rintro e w33 ⟨v640, rfl, ho0, hi, hb, hk⟩; refine ⟨_, rfl, ?_⟩; have n0_ := am (Kd.R_lower ho0 (keep_size (w := w) (g := g) (row := none) (by repeat (first | (with_reducible first | exact HK.out | apply KeepBut.set_ | apply keep_drewN | apply keep_drew | apply keep_alloc) | exact HK.out)))); have n1_ := am (KeepBut.trans (by repeat (first | (with_reducible first | exact HK.out | apply KeepBut.set_ | apply keep_drewN | apply keep_drew | apply keep_alloc) | exact HK.out)) hk (.inl rfl)); have n2_ := am (hb); have n3_ := am (hi); clear HK HB HI0; revert n0_ n1_ n2_ n3_; intro HO641 HK HB HI0; (try clear hb); (try clear hb2); (try clear hk); (try clear hi); (try clear ho0)) | ((with_reducible refine gate_callee (f := 81) rfl ?_); refine gL (some 10) Try.func81 #[.pointer (some ⟨g, 0, none⟩), .int .i64 14] ?_; (with_reducible refine (spec_l1Cur_pick.calls g s0_0 t642 t643 14 t644 t645 t646 w0 _ ?side1 ?side2 A4.out).mono ?_); (case side1 => repeat (first | (with_reducible first | exact HI0.out | apply IsS75.alloc | apply IsS75.drewN | apply IsS75.drew | apply IsS75.set_1 | apply IsS75.set_2) | exact HI0.out)); (case side2 => repeat (first | (with_reducible first | exact HB.out | apply below_alloc | apply pw_below_drewN | apply below_drew1 | refine below_set ?_ (IsS75.ge HI0.out)) | exact HB.out)); rintro e w34 ⟨rfl, hi, hb, hk⟩; refine ⟨_, rfl, ?_⟩; have n0_ := am (Kd.R_mono (Kd.R_keep (IsS75.apart (show IsS75 w0 _ g s0_0 t642 t643 from by repeat (first | (with_reducible first | exact HI0.out | apply IsS75.alloc | apply IsS75.drewN | apply IsS75.drew | apply IsS75.set_1 | apply IsS75.set_2) | exact HI0.out)) (Rz HO641.out) (by decide)) hk (fun _ h => h.2)) (fun _ h => h.1)); have n1_ := am (KeepBut.trans (by repeat (first | (with_reducible first | exact HK.out | apply KeepBut.set_ | apply keep_drewN | apply keep_drew | apply keep_alloc) | exact HK.out)) hk (.inl rfl)); have n2_ := am (hb); have n3_ := am (hi); clear HO641 HK HB HI0; revert n0_ n1_ n2_ n3_; intro HO641 HK HB HI0; (try clear hb); (try clear hb2); (try clear hk); (try clear hi)))
    go_ret
    exact ⟨_, eZ, Rz HO641.out, by repeat (first | (with_reducible first | exact HI0.out | apply IsS75.alloc | apply IsS75.drewN | apply IsS75.drew | apply IsS75.set_1 | apply IsS75.set_2) | exact HI0.out), by repeat (first | (with_reducible first | exact HB.out | apply below_alloc | apply pw_below_drewN | apply below_drew1 | refine below_set ?_ (IsS75.ge HI0.out)) | exact HB.out), by repeat (first | (with_reducible first | exact HK.out | apply KeepBut.set_ | apply keep_drewN | apply keep_drew | apply keep_alloc) | exact HK.out)⟩

def spec_l1Cur_cells.f (s0_0 : List Int) (s0_1 : Int) (s0_2 : Int) : Option (Int × Int × Int) := (spec_l1Cur_one.f s0_0 s0_1 s0_2 10).bind fun bt668 => (if bt668.1 = true then ((spec_l1Cur_among.f s0_0 bt668.2.1 bt668.2.2 (([(-1), 0, 64, 65] : List Int))).bind fun bt674 => (some (bt674.1, bt674.2.1, bt674.2.2))) else ((spec_l1Cur_among.f s0_0 bt668.2.1 bt668.2.2 (([4, 8, 16, 64] : List Int))).bind fun bt680 => ((spec_l1Cur_pick.f s0_0 bt680.2.1 bt680.2.2 bt680.1).bind fun bt683 => (some (wrap64 (1 + bt683.1), bt683.2.1, bt683.2.2)))))
theorem spec_l1Cur_cells.calls (g : Nat) (s0_0 : List Int) (s0_1 : Int) (s0_2 : Int) (r1 : Int) (r2 : Int) (r3 : Int) (w0 w : World) (hI : IsS75 w0 w g s0_0 s0_1 s0_2) (hB : Below w0.heap.size w0 w) (h : spec_l1Cur_cells.f s0_0 s0_1 s0_2 = some (r1, r2, r3)) :
  Calls Try.prog 119 #[.pointer (some ⟨g, 0, none⟩)] w fun e w' => e = .returned (.int .i64 r1) ∧ IsS75 w0 w' g s0_0 r2 r3 ∧ Below w0.heap.size w0 w' ∧ KeepBut w w' g none := by
 have HI0 := am hI; have HK := am (KeepBut.refl w g none); have HL := am hB.size; clear hI; have HW0 := am hB.size; have HB := am hB; clear hB; have H : ((spec_l1Cur_one.f s0_0 s0_1 s0_2 10).bind fun bt668 => (if bt668.1 = true then ((spec_l1Cur_among.f s0_0 bt668.2.1 bt668.2.2 (([(-1), 0, 64, 65] : List Int))).bind fun bt674 => (some (bt674.1, bt674.2.1, bt674.2.2))) else ((spec_l1Cur_among.f s0_0 bt668.2.1 bt668.2.2 (([4, 8, 16, 64] : List Int))).bind fun bt680 => ((spec_l1Cur_pick.f s0_0 bt680.2.1 bt680.2.2 bt680.1).bind fun bt683 => (some (wrap64 (1 + bt683.1), bt683.2.1, bt683.2.2)))))) = some (r1, r2, r3) := h; clear h; replace H := Option.bind_eq_some_iff.mp H; obtain ⟨⟨t668, t669, t670⟩, A20, H⟩ := H; (try dsimp -simprocs only at H); have A2 := am A20; clear A20
 by_cases c3 : t668 = true
 ·subst c3
  rw [if_pos rfl] at H; obtain ⟨y671, hy671⟩ : ∃ y_ : List Int, y_ = (([(-1), 0, 64, 65] : List Int)) := ⟨_, rfl⟩
  replace H : ((spec_l1Cur_among.f s0_0 t669 t670 y671).bind fun bt674 => (some (bt674.1, bt674.2.1, bt674.2.2))) = some (r1, r2, r3) := by first | (rw [hy671]; with_reducible exact H) | (have H2_ := (Option.bind_some _ _).symm.trans H; rw [hy671]; with_reducible exact H2_) | (have H2_ := (Option.bind_some _ _).symm.trans H; with_reducible exact H2_) | with_reducible exact H | (rw [hy671]; exact H) | exact H
  have Ny671 := am hy671; clear hy671; replace H := Option.bind_eq_some_iff.mp H; obtain ⟨⟨t674, t675, t676⟩, A40, H⟩ := H; (try dsimp -simprocs only at H); have A4 := am A40; clear A40
  simp only [Option.some.injEq, Prod.mk.injEq] at H
  obtain ⟨rfl, rfl, rfl⟩ := H
  go_enter Try.func119, Try.ntmps119
  go_wp2_with (first | ((with_reducible refine gate_callee (f := 83) rfl ?_); refine gL (some 4) Try.func83 #[.pointer (some ⟨g, 0, none⟩), .int .i64 10] ?_; (with_reducible refine (spec_l1Cur_one.calls g s0_0 s0_1 s0_2 10 true t669 t670 w0 _ ?side1 ?side2 A2.out).mono ?_); (case side1 => repeat (first | (with_reducible first | exact HI0.out | apply IsS75.alloc | apply IsS75.drewN | apply IsS75.drew | apply IsS75.set_1 | apply IsS75.set_2) | exact HI0.out)); (case side2 => repeat (first | (with_reducible first | exact HB.out | apply below_alloc | apply pw_below_drewN | apply below_drew1 | refine below_set ?_ (IsS75.ge HI0.out)) | exact HB.out)); rintro e w5 ⟨rfl, hi, hb, hk⟩; refine ⟨_, rfl, ?_⟩; have n0_ := am (KeepBut.trans (by repeat (first | (with_reducible first | exact HK.out | apply KeepBut.set_ | apply keep_drewN | apply keep_drew | apply keep_alloc) | exact HK.out)) hk (.inl rfl)); have n1_ := am (hb); have n2_ := am (hi); clear HK HB HI0; revert n0_ n1_ n2_; intro HK HB HI0; (try clear hb); (try clear hb2); (try clear hk); (try clear hi)) | ((with_reducible refine gate_dst (N := 6) rfl ?_); refine Kd.R_lit (Kd.int .i64) _ 3 ?hg (N := 6) ?hd (xs := ([(-1), 0, 64, 65] : List Int)) (inner := [.int .i64 (-1), .int .i64 0, .int .i64 64, .int .i64 65]) (ok := fun _ => True) (okp := fun _ => True) ?hr ?hp (fun _ hk => hk) trivial (Below.refl _ _) (Nat.le_refl _) (by simp) ?_; (case hd => rfl); (case hg => rfl); (case hr => first | (go_simp; done) | (go_simp; rfl)); (case hp => exact (Reps.one (show Kd.M (Kd.int .i64) _ _ _ (-1) [.int .i64 (-1)] from rfl) (Reps.one (show Kd.M (Kd.int .i64) _ _ _ 0 [.int .i64 0] from rfl) (Reps.one (show Kd.M (Kd.int .i64) _ _ _ 64 [.int .i64 64] from rfl) (Reps.one (show Kd.M (Kd.int .i64) _ _ _ 65 [.int .i64 65] from rfl) (Reps.none _ _)))))); intro v672 w6 ho7 hb hg_ hnew_; clear hg_ hnew_; (first | rw [← Ny671.out] at ho7 | (simp only [Int.reduceToNat] at ho7; rw [← Ny671.out] at ho7)); have n0_ := am (Kd.R_lower ho7 (keep_size (w := w) (g := g) (row := none) (by repeat (first | (with_reducible first | exact HK.out | apply KeepBut.set_ | apply keep_drewN | apply keep_drew | apply keep_alloc) | exact HK.out)))); have n1_ := am (IsS75.below (by repeat (first | (with_reducible first | exact HI0.out | apply IsS75.alloc | apply IsS75.drewN | apply IsS75.drew | apply IsS75.set_1 | apply IsS75.set_2) | exact HI0.out)) hb); have n2_ := am (KeepBut.trans (by repeat (first | (with_reducible first | exact HK.out | apply KeepBut.set_ | apply keep_drewN | apply keep_drew | apply keep_alloc) | exact HK.out)) (KeepBut.of_below hb g none) (.inl rfl)); have n3_ := am (below_step (by repeat (first | (with_reducible first | exact HB.out | apply below_alloc | apply pw_below_drewN | apply below_drew1 | refine below_set ?_ (IsS75.ge HI0.out)) | exact HB.out)) hb); clear HI0 HK HB; revert n0_ n1_ n2_ n3_; intro HO673 HI0 HK HB; clear hb ho7; obtain ⟨Ao8, co8, eo8⟩ := Kd.R_slice HO673.out; subst eo8) | ((with_reducible refine gate_callee (f := 71) rfl ?_); refine gL (some 7) Try.func71 #[.pointer (some ⟨g, 0, none⟩), .slice Ao8 y671.length co8] ?_; (with_reducible refine (spec_l1Cur_among.calls g s0_0 t669 t670 _ _ y671 t674 t675 t676 w0 _ ?side1 ?side2 ?side3 ?side4 ?side5 A4.out).mono ?_); (case side1 => repeat (first | (with_reducible first | exact HI0.out | apply IsS75.alloc | apply IsS75.drewN | apply IsS75.drew | apply IsS75.set_1 | apply IsS75.set_2) | exact HI0.out)); (case side2 => repeat (first | (with_reducible first | exact HB.out | apply below_alloc | apply pw_below_drewN | apply below_drew1 | refine below_set ?_ (IsS75.ge HI0.out)) | exact HB.out)); (case side3 => exact Cz ((Kd.R_reads' HO673.out).2.2)); (case side4 => exact (Kd.R_reads' HO673.out).2.1); (case side5 => exact far_slice (IsS75.own_ne HI0.out HO673.out (by decide))); rintro e w9 ⟨rfl, hi, hb, hk⟩; refine ⟨_, rfl, ?_⟩; have n0_ := am (Kd.R_mono (Kd.R_keep (IsS75.apart (show IsS75 w0 _ g s0_0 t669 t670 from by repeat (first | (with_reducible first | exact HI0.out | apply IsS75.alloc | apply IsS75.drewN | apply IsS75.drew | apply IsS75.set_1 | apply IsS75.set_2) | exact HI0.out)) (Rz HO673.out) (by decide)) hk (fun _ h => h.2)) (fun _ h => h.1)); have n1_ := am (KeepBut.trans (by repeat (first | (with_reducible first | exact HK.out | apply KeepBut.set_ | apply keep_drewN | apply keep_drew | apply keep_alloc) | exact HK.out)) hk (.inl rfl)); have n2_ := am (hb); have n3_ := am (hi); clear HO673 HK HB HI0; revert n0_ n1_ n2_ n3_; intro HO673 HK HB HI0; (try clear hb); (try clear hb2); (try clear hk); (try clear hi)))
  go_ret
  exact ⟨eZ, by repeat (first | (with_reducible first | exact HI0.out | apply IsS75.alloc | apply IsS75.drewN | apply IsS75.drew | apply IsS75.set_1 | apply IsS75.set_2) | exact HI0.out), by repeat (first | (with_reducible first | exact HB.out | apply below_alloc | apply pw_below_drewN | apply below_drew1 | refine below_set ?_ (IsS75.ge HI0.out)) | exact HB.out), by repeat (first | (with_reducible first | exact HK.out | apply KeepBut.set_ | apply keep_drewN | apply keep_drew | apply keep_alloc) | exact HK.out)⟩
 ·replace c3 := Bool.eq_false_iff.mpr c3
  subst c3
  rw [if_neg (show ¬ (false = true) by decide)] at H; obtain ⟨y677, hy677⟩ : ∃ y_ : List Int, y_ = (([4, 8, 16, 64] : List Int)) := ⟨_, rfl⟩
  replace H : ((spec_l1Cur_among.f s0_0 t669 t670 y677).bind fun bt680 => ((spec_l1Cur_pick.f s0_0 bt680.2.1 bt680.2.2 bt680.1).bind fun bt683 => (some (wrap64 (1 + bt683.1), bt683.2.1, bt683.2.2)))) = some (r1, r2, r3) := by first | (rw [hy677]; with_reducible exact H) | (have H2_ := (Option.bind_some _ _).symm.trans H; rw [hy677]; with_reducible exact H2_) | (have H2_ := (Option.bind_some _ _).symm.trans H; with_reducible exact H2_) | with_reducible exact H | (rw [hy677]; exact H) | exact H
  have Ny677 := am hy677; clear hy677; replace H := Option.bind_eq_some_iff.mp H; obtain ⟨⟨t680, t681, t682⟩, A100, H⟩ := H; (try dsimp -simprocs only at H); have A10 := am A100; clear A100; replace H := Option.bind_eq_some_iff.mp H; obtain ⟨⟨t683, t684, t685⟩, A110, H⟩ := H; (try dsimp -simprocs only at H); have A11 := am A110; clear A110
  simp only [Option.some.injEq, Prod.mk.injEq] at H
  obtain ⟨rfl, rfl, rfl⟩ := H
  go_enter Try.func119, Try.ntmps119
  go_wp2_with (first | ((with_reducible refine gate_callee (f := 83) rfl ?_); refine gL (some 4) Try.func83 #[.pointer (some ⟨g, 0, none⟩), .int .i64 10] ?_; (with_reducible refine (spec_l1Cur_one.calls g s0_0 s0_1 s0_2 10 false t669 t670 w0 _ ?side1 ?side2 A2.out).mono ?_); (case side1 => repeat (first | (with_reducible first | exact HI0.out | apply IsS75.alloc | apply IsS75.drewN | apply IsS75.drew | apply IsS75.set_1 | apply IsS75.set_2) | exact HI0.out)); (case side2 => repeat (first | (with_reducible first | exact HB.out | apply below_alloc | apply pw_below_drewN | apply below_drew1 | refine below_set ?_ (IsS75.ge HI0.out)) | exact HB.out)); rintro e w12 ⟨rfl, hi, hb, hk⟩; refine ⟨_, rfl, ?_⟩; have n0_ := am (KeepBut.trans (by repeat (first | (with_reducible first | exact HK.out | apply KeepBut.set_ | apply keep_drewN | apply keep_drew | apply keep_alloc) | exact HK.out)) hk (.inl rfl)); have n1_ := am (hb); have n2_ := am (hi); clear HK HB HI0; revert n0_ n1_ n2_; intro HK HB HI0; (try clear hb); (try clear hb2); (try clear hk); (try clear hi)) | ((with_reducible refine gate_dst (N := 10) rfl ?_); refine Kd.R_lit (Kd.int .i64) _ 3 ?hg (N := 10) ?hd (xs := ([4, 8, 16, 64] : List Int)) (inner := [.int .i64 4, .int .i64 8, .int .i64 16, .int .i64 64]) (ok := fun _ => True) (okp := fun _ => True) ?hr ?hp (fun _ hk => hk) trivial (Below.refl _ _) (Nat.le_refl _) (by simp) ?_; (case hd => rfl); (case hg => rfl); (case hr => first | (go_simp; done) | (go_simp; rfl)); (case hp => exact (Reps.one (show Kd.M (Kd.int .i64) _ _ _ 4 [.int .i64 4] from rfl) (Reps.one (show Kd.M (Kd.int .i64) _ _ _ 8 [.int .i64 8] from rfl) (Reps.one (show Kd.M (Kd.int .i64) _ _ _ 16 [.int .i64 16] from rfl) (Reps.one (show Kd.M (Kd.int .i64) _ _ _ 64 [.int .i64 64] from rfl) (Reps.none _ _)))))); intro v678 w13 ho14 hb hg_ hnew_; clear hg_ hnew_; (first | rw [← Ny677.out] at ho14 | (simp only [Int.reduceToNat] at ho14; rw [← Ny677.out] at ho14)); have n0_ := am (Kd.R_lower ho14 (keep_size (w := w) (g := g) (row := none) (by repeat (first | (with_reducible first | exact HK.out | apply KeepBut.set_ | apply keep_drewN | apply keep_drew | apply keep_alloc) | exact HK.out)))); have n1_ := am (IsS75.below (by repeat (first | (with_reducible first | exact HI0.out | apply IsS75.alloc | apply IsS75.drewN | apply IsS75.drew | apply IsS75.set_1 | apply IsS75.set_2) | exact HI0.out)) hb); have n2_ := am (KeepBut.trans (by repeat (first | (with_reducible first | exact HK.out | apply KeepBut.set_ | apply keep_drewN | apply keep_drew | apply keep_alloc) | exact HK.out)) (KeepBut.of_below hb g none) (.inl rfl)); have n3_ := am (below_step (by repeat (first | (with_reducible first | exact HB.out | apply below_alloc | apply pw_below_drewN | apply below_drew1 | refine below_set ?_ (IsS75.ge HI0.out)) | exact HB.out)) hb); clear HI0 HK HB; revert n0_ n1_ n2_ n3_; intro HO679 HI0 HK HB; clear hb ho14; obtain ⟨Ao15, co15, eo15⟩ := Kd.R_slice HO679.out; subst eo15) | ((with_reducible refine gate_callee (f := 71) rfl ?_); refine gL (some 11) Try.func71 #[.pointer (some ⟨g, 0, none⟩), .slice Ao15 y677.length co15] ?_; (with_reducible refine (spec_l1Cur_among.calls g s0_0 t669 t670 _ _ y677 t680 t681 t682 w0 _ ?side1 ?side2 ?side3 ?side4 ?side5 A10.out).mono ?_); (case side1 => repeat (first | (with_reducible first | exact HI0.out | apply IsS75.alloc | apply IsS75.drewN | apply IsS75.drew | apply IsS75.set_1 | apply IsS75.set_2) | exact HI0.out)); (case side2 => repeat (first | (with_reducible first | exact HB.out | apply below_alloc | apply pw_below_drewN | apply below_drew1 | refine below_set ?_ (IsS75.ge HI0.out)) | exact HB.out)); (case side3 => exact Cz ((Kd.R_reads' HO679.out).2.2)); (case side4 => exact (Kd.R_reads' HO679.out).2.1); (case side5 => exact far_slice (IsS75.own_ne HI0.out HO679.out (by decide))); rintro e w16 ⟨rfl, hi, hb, hk⟩; refine ⟨_, rfl, ?_⟩; have n0_ := am (Kd.R_mono (Kd.R_keep (IsS75.apart (show IsS75 w0 _ g s0_0 t669 t670 from by repeat (first | (with_reducible first | exact HI0.out | apply IsS75.alloc | apply IsS75.drewN | apply IsS75.drew | apply IsS75.set_1 | apply IsS75.set_2) | exact HI0.out)) (Rz HO679.out) (by decide)) hk (fun _ h => h.2)) (fun _ h => h.1)); have n1_ := am (KeepBut.trans (by repeat (first | (with_reducible first | exact HK.out | apply KeepBut.set_ | apply keep_drewN | apply keep_drew | apply keep_alloc) | exact HK.out)) hk (.inl rfl)); have n2_ := am (hb); have n3_ := am (hi); clear HO679 HK HB HI0; revert n0_ n1_ n2_ n3_; intro HO679 HK HB HI0; (try clear hb); (try clear hb2); (try clear hk); (try clear hi)) | ((with_reducible refine gate_callee (f := 81) rfl ?_); refine gL (some 12) Try.func81 #[.pointer (some ⟨g, 0, none⟩), .int .i64 t680] ?_; (with_reducible refine (spec_l1Cur_pick.calls g s0_0 t681 t682 t680 t683 t684 t685 w0 _ ?side1 ?side2 A11.out).mono ?_); (case side1 => repeat (first | (with_reducible first | exact HI0.out | apply IsS75.alloc | apply IsS75.drewN | apply IsS75.drew | apply IsS75.set_1 | apply IsS75.set_2) | exact HI0.out)); (case side2 => repeat (first | (with_reducible first | exact HB.out | apply below_alloc | apply pw_below_drewN | apply below_drew1 | refine below_set ?_ (IsS75.ge HI0.out)) | exact HB.out)); rintro e w17 ⟨rfl, hi, hb, hk⟩; refine ⟨_, rfl, ?_⟩; have n0_ := am (Kd.R_mono (Kd.R_keep (IsS75.apart (show IsS75 w0 _ g s0_0 t681 t682 from by repeat (first | (with_reducible first | exact HI0.out | apply IsS75.alloc | apply IsS75.drewN | apply IsS75.drew | apply IsS75.set_1 | apply IsS75.set_2) | exact HI0.out)) (Rz HO679.out) (by decide)) hk (fun _ h => h.2)) (fun _ h => h.1)); have n1_ := am (KeepBut.trans (by repeat (first | (with_reducible first | exact HK.out | apply KeepBut.set_ | apply keep_drewN | apply keep_drew | apply keep_alloc) | exact HK.out)) hk (.inl rfl)); have n2_ := am (hb); have n3_ := am (hi); clear HO679 HK HB HI0; revert n0_ n1_ n2_ n3_; intro HO679 HK HB HI0; (try clear hb); (try clear hb2); (try clear hk); (try clear hi)))
  go_ret
  exact ⟨eZ, by repeat (first | (with_reducible first | exact HI0.out | apply IsS75.alloc | apply IsS75.drewN | apply IsS75.drew | apply IsS75.set_1 | apply IsS75.set_2) | exact HI0.out), by repeat (first | (with_reducible first | exact HB.out | apply below_alloc | apply pw_below_drewN | apply below_drew1 | refine below_set ?_ (IsS75.ge HI0.out)) | exact HB.out), by repeat (first | (with_reducible first | exact HK.out | apply KeepBut.set_ | apply keep_drewN | apply keep_drew | apply keep_alloc) | exact HK.out)⟩

def spec_l1Cur_keyed.f (k : Nat) (s0_0 : List Int) (s0_1 : Int) (s0_2 : Int) : Option (Int × List ByteArray × Int × Int × Int) := (spec_l1Cur_seed9.f s0_0 s0_1 s0_2).bind fun bt686 => ((spec_l1Cur_among.f s0_0 bt686.2.1 bt686.2.2 (([3, 5, 8, 12] : List Int))).bind fun bt692 => ((spec_l1Cur_anyKeys.f k s0_0 bt692.2.1 bt692.2.2 bt692.1).bind fun bt695 => ((spec_l1Cur_cells.f s0_0 bt695.2.1 bt695.2.2).bind fun bt700 => ((spec_l1Cur_one.f s0_0 bt700.2.1 bt700.2.2 2).bind fun bt703 => (if bt703.1 = true then ((spec_l1Cur_pick.f s0_0 bt703.2.1 bt703.2.2 4).bind fun bt706 => (some (bt686.1, bt695.1, wrap64 ((bt695.1.length : Int) + bt706.1), bt706.2.1, bt706.2.2))) else (some (bt686.1, bt695.1, bt700.1, bt703.2.1, bt703.2.2)))))))
theorem spec_l1Cur_keyed.calls (k : Nat) (g : Nat) (s0_0 : List Int) (s0_1 : Int) (s0_2 : Int) (r1 : Int) (r2 : List ByteArray) (r3 : Int) (r4 : Int) (r5 : Int) (w0 w : World) (hI : IsS75 w0 w g s0_0 s0_1 s0_2) (hB : Below w0.heap.size w0 w) (h : spec_l1Cur_keyed.f k s0_0 s0_1 s0_2 = some (r1, r2, r3, r4, r5)) :
  Calls Try.prog 59 #[.pointer (some ⟨g, 0, none⟩)] w fun e w' => ∃ v1_ : Value, e = .returned (.tuple #[.int .i64 r1, v1_, .int .i64 r3]) ∧ Kd.R Kd.string 9 w' w.heap.size (fun _ => True) v1_ r2 ∧ IsS75 w0 w' g s0_0 r4 r5 ∧ Below w0.heap.size w0 w' ∧ KeepBut w w' g none := by
 have HI0 := am hI; have HK := am (KeepBut.refl w g none); have HL := am hB.size; clear hI; have HW0 := am hB.size; have HB := am hB; clear hB; have H : ((spec_l1Cur_seed9.f s0_0 s0_1 s0_2).bind fun bt686 => ((spec_l1Cur_among.f s0_0 bt686.2.1 bt686.2.2 (([3, 5, 8, 12] : List Int))).bind fun bt692 => ((spec_l1Cur_anyKeys.f k s0_0 bt692.2.1 bt692.2.2 bt692.1).bind fun bt695 => ((spec_l1Cur_cells.f s0_0 bt695.2.1 bt695.2.2).bind fun bt700 => ((spec_l1Cur_one.f s0_0 bt700.2.1 bt700.2.2 2).bind fun bt703 => (if bt703.1 = true then ((spec_l1Cur_pick.f s0_0 bt703.2.1 bt703.2.2 4).bind fun bt706 => (some (bt686.1, bt695.1, wrap64 ((bt695.1.length : Int) + bt706.1), bt706.2.1, bt706.2.2))) else (some (bt686.1, bt695.1, bt700.1, bt703.2.1, bt703.2.2)))))))) = some (r1, r2, r3, r4, r5) := h; clear h; replace H := Option.bind_eq_some_iff.mp H; obtain ⟨⟨t686, t687, t688⟩, A20, H⟩ := H; (try dsimp -simprocs only at H); have A2 := am A20; clear A20; obtain ⟨y689, hy689⟩ : ∃ y_ : List Int, y_ = (([3, 5, 8, 12] : List Int)) := ⟨_, rfl⟩
 replace H : ((spec_l1Cur_among.f s0_0 t687 t688 y689).bind fun bt692 => ((spec_l1Cur_anyKeys.f k s0_0 bt692.2.1 bt692.2.2 bt692.1).bind fun bt695 => ((spec_l1Cur_cells.f s0_0 bt695.2.1 bt695.2.2).bind fun bt700 => ((spec_l1Cur_one.f s0_0 bt700.2.1 bt700.2.2 2).bind fun bt703 => (if bt703.1 = true then ((spec_l1Cur_pick.f s0_0 bt703.2.1 bt703.2.2 4).bind fun bt706 => (some (t686, bt695.1, wrap64 ((bt695.1.length : Int) + bt706.1), bt706.2.1, bt706.2.2))) else (some (t686, bt695.1, bt700.1, bt703.2.1, bt703.2.2))))))) = some (r1, r2, r3, r4, r5) := by first | (rw [hy689]; with_reducible exact H) | (have H2_ := (Option.bind_some _ _).symm.trans H; rw [hy689]; with_reducible exact H2_) | (have H2_ := (Option.bind_some _ _).symm.trans H; with_reducible exact H2_) | with_reducible exact H | (rw [hy689]; exact H) | exact H
 have Ny689 := am hy689; clear hy689; replace H := Option.bind_eq_some_iff.mp H; obtain ⟨⟨t692, t693, t694⟩, A30, H⟩ := H; (try dsimp -simprocs only at H); have A3 := am A30; clear A30; replace H := Option.bind_eq_some_iff.mp H; obtain ⟨⟨t695, t698, t699⟩, A40, H⟩ := H; (try dsimp -simprocs only at H); have A4 := am A40; clear A40; replace H := Option.bind_eq_some_iff.mp H; obtain ⟨⟨t700, t701, t702⟩, A50, H⟩ := H; (try dsimp -simprocs only at H); have A5 := am A50; clear A50; replace H := Option.bind_eq_some_iff.mp H; obtain ⟨⟨t703, t704, t705⟩, A60, H⟩ := H; (try dsimp -simprocs only at H); have A6 := am A60; clear A60
 by_cases c7 : t703 = true
 ·subst c7
  rw [if_pos rfl] at H; replace H := Option.bind_eq_some_iff.mp H; obtain ⟨⟨t706, t707, t708⟩, A80, H⟩ := H; (try dsimp -simprocs only at H); have A8 := am A80; clear A80
  simp only [Option.some.injEq, Prod.mk.injEq] at H
  obtain ⟨rfl, rfl, rfl, rfl, rfl⟩ := H
  go_enter Try.func59, Try.ntmps59
  go_wp2_with (first | ((with_reducible refine gate_callee (f := 70) rfl ?_); refine gL (some 9) Try.func70 #[.pointer (some ⟨g, 0, none⟩)] ?_; (with_reducible refine (spec_l1Cur_seed9.calls g s0_0 s0_1 s0_2 t686 t687 t688 w0 _ ?side1 ?side2 A2.out).mono ?_); (case side1 => repeat (first | (with_reducible first | exact HI0.out | apply IsS75.alloc | apply IsS75.drewN | apply IsS75.drew | apply IsS75.set_1 | apply IsS75.set_2) | exact HI0.out)); (case side2 => repeat (first | (with_reducible first | exact HB.out | apply below_alloc | apply pw_below_drewN | apply below_drew1 | refine below_set ?_ (IsS75.ge HI0.out)) | exact HB.out)); rintro e w9 ⟨rfl, hi, hb, hk⟩; refine ⟨_, rfl, ?_⟩; have n0_ := am (KeepBut.trans (by repeat (first | (with_reducible first | exact HK.out | apply KeepBut.set_ | apply keep_drewN | apply keep_drew | apply keep_alloc) | exact HK.out)) hk (.inl rfl)); have n1_ := am (hb); have n2_ := am (hi); clear HK HB HI0; revert n0_ n1_ n2_; intro HK HB HI0; (try clear hb); (try clear hb2); (try clear hk); (try clear hi)) | ((with_reducible refine gate_dst (N := 12) rfl ?_); refine Kd.R_lit (Kd.int .i64) _ 3 ?hg (N := 12) ?hd (xs := ([3, 5, 8, 12] : List Int)) (inner := [.int .i64 3, .int .i64 5, .int .i64 8, .int .i64 12]) (ok := fun _ => True) (okp := fun _ => True) ?hr ?hp (fun _ hk => hk) trivial (Below.refl _ _) (Nat.le_refl _) (by simp) ?_; (case hd => rfl); (case hg => rfl); (case hr => first | (go_simp; done) | (go_simp; rfl)); (case hp => exact (Reps.one (show Kd.M (Kd.int .i64) _ _ _ 3 [.int .i64 3] from rfl) (Reps.one (show Kd.M (Kd.int .i64) _ _ _ 5 [.int .i64 5] from rfl) (Reps.one (show Kd.M (Kd.int .i64) _ _ _ 8 [.int .i64 8] from rfl) (Reps.one (show Kd.M (Kd.int .i64) _ _ _ 12 [.int .i64 12] from rfl) (Reps.none _ _)))))); intro v690 w10 ho11 hb hg_ hnew_; clear hg_ hnew_; (first | rw [← Ny689.out] at ho11 | (simp only [Int.reduceToNat] at ho11; rw [← Ny689.out] at ho11)); have n0_ := am (Kd.R_lower ho11 (keep_size (w := w) (g := g) (row := none) (by repeat (first | (with_reducible first | exact HK.out | apply KeepBut.set_ | apply keep_drewN | apply keep_drew | apply keep_alloc) | exact HK.out)))); have n1_ := am (IsS75.below (by repeat (first | (with_reducible first | exact HI0.out | apply IsS75.alloc | apply IsS75.drewN | apply IsS75.drew | apply IsS75.set_1 | apply IsS75.set_2) | exact HI0.out)) hb); have n2_ := am (KeepBut.trans (by repeat (first | (with_reducible first | exact HK.out | apply KeepBut.set_ | apply keep_drewN | apply keep_drew | apply keep_alloc) | exact HK.out)) (KeepBut.of_below hb g none) (.inl rfl)); have n3_ := am (below_step (by repeat (first | (with_reducible first | exact HB.out | apply below_alloc | apply pw_below_drewN | apply below_drew1 | refine below_set ?_ (IsS75.ge HI0.out)) | exact HB.out)) hb); clear HI0 HK HB; revert n0_ n1_ n2_ n3_; intro HO691 HI0 HK HB; clear hb ho11; obtain ⟨Ao12, co12, eo12⟩ := Kd.R_slice HO691.out; subst eo12) | ((with_reducible refine gate_callee (f := 71) rfl ?_); refine gL (some 13) Try.func71 #[.pointer (some ⟨g, 0, none⟩), .slice Ao12 y689.length co12] ?_; (with_reducible refine (spec_l1Cur_among.calls g s0_0 t687 t688 _ _ y689 t692 t693 t694 w0 _ ?side1 ?side2 ?side3 ?side4 ?side5 A3.out).mono ?_); (case side1 => repeat (first | (with_reducible first | exact HI0.out | apply IsS75.alloc | apply IsS75.drewN | apply IsS75.drew | apply IsS75.set_1 | apply IsS75.set_2) | exact HI0.out)); (case side2 => repeat (first | (with_reducible first | exact HB.out | apply below_alloc | apply pw_below_drewN | apply below_drew1 | refine below_set ?_ (IsS75.ge HI0.out)) | exact HB.out)); (case side3 => exact Cz ((Kd.R_reads' HO691.out).2.2)); (case side4 => exact (Kd.R_reads' HO691.out).2.1); (case side5 => exact far_slice (IsS75.own_ne HI0.out HO691.out (by decide))); rintro e w13 ⟨rfl, hi, hb, hk⟩; refine ⟨_, rfl, ?_⟩; have n0_ := am (Kd.R_mono (Kd.R_keep (IsS75.apart (show IsS75 w0 _ g s0_0 t687 t688 from by repeat (first | (with_reducible first | exact HI0.out | apply IsS75.alloc | apply IsS75.drewN | apply IsS75.drew | apply IsS75.set_1 | apply IsS75.set_2) | exact HI0.out)) (Rz HO691.out) (by decide)) hk (fun _ h => h.2)) (fun _ h => h.1)); have n1_ := am (KeepBut.trans (by repeat (first | (with_reducible first | exact HK.out | apply KeepBut.set_ | apply keep_drewN | apply keep_drew | apply keep_alloc) | exact HK.out)) hk (.inl rfl)); have n2_ := am (hb); have n3_ := am (hi); clear HO691 HK HB HI0; revert n0_ n1_ n2_ n3_; intro HO691 HK HB HI0; (try clear hb); (try clear hb2); (try clear hk); (try clear hi)) | ((with_reducible refine gate_callee (f := 118) rfl ?_); refine gL (some 14) Try.func118 #[.pointer (some ⟨g, 0, none⟩), .int .i64 t692] ?_; (with_reducible refine (spec_l1Cur_anyKeys.calls k g s0_0 t693 t694 t692 t695 t698 t699 w0 _ ?side1 ?side2 A4.out).mono ?_); (case side1 => repeat (first | (with_reducible first | exact HI0.out | apply IsS75.alloc | apply IsS75.drewN | apply IsS75.drew | apply IsS75.set_1 | apply IsS75.set_2) | exact HI0.out)); (case side2 => repeat (first | (with_reducible first | exact HB.out | apply below_alloc | apply pw_below_drewN | apply below_drew1 | refine below_set ?_ (IsS75.ge HI0.out)) | exact HB.out)); rintro e w14 ⟨v696, rfl, ho0, hi, hb, hk⟩; refine ⟨_, rfl, ?_⟩; have n0_ := am (Kd.R_mono (Kd.R_keep (IsS75.apart (show IsS75 w0 _ g s0_0 t693 t694 from by repeat (first | (with_reducible first | exact HI0.out | apply IsS75.alloc | apply IsS75.drewN | apply IsS75.drew | apply IsS75.set_1 | apply IsS75.set_2) | exact HI0.out)) (Rz HO691.out) (by decide)) hk (fun _ h => h.2)) (fun _ h => h.1)); have n1_ := am (Kd.R_lower ho0 (keep_size (w := w) (g := g) (row := none) (by repeat (first | (with_reducible first | exact HK.out | apply KeepBut.set_ | apply keep_drewN | apply keep_drew | apply keep_alloc) | exact HK.out)))); have n2_ := am (KeepBut.trans (by repeat (first | (with_reducible first | exact HK.out | apply KeepBut.set_ | apply keep_drewN | apply keep_drew | apply keep_alloc) | exact HK.out)) hk (.inl rfl)); have n3_ := am (hb); have n4_ := am (hi); clear HO691 HK HB HI0; revert n0_ n1_ n2_ n3_ n4_; intro HO691 HO697 HK HB HI0; (try clear hb); (try clear hb2); (try clear hk); (try clear hi); (try clear ho0)) | ((with_reducible refine gate_callee (f := 119) rfl ?_); refine gL (some 16) Try.func119 #[.pointer (some ⟨g, 0, none⟩)] ?_; (with_reducible refine (spec_l1Cur_cells.calls g s0_0 t698 t699 t700 t701 t702 w0 _ ?side1 ?side2 A5.out).mono ?_); (case side1 => repeat (first | (with_reducible first | exact HI0.out | apply IsS75.alloc | apply IsS75.drewN | apply IsS75.drew | apply IsS75.set_1 | apply IsS75.set_2) | exact HI0.out)); (case side2 => repeat (first | (with_reducible first | exact HB.out | apply below_alloc | apply pw_below_drewN | apply below_drew1 | refine below_set ?_ (IsS75.ge HI0.out)) | exact HB.out)); rintro e w15 ⟨rfl, hi, hb, hk⟩; refine ⟨_, rfl, ?_⟩; have n0_ := am (Kd.R_mono (Kd.R_keep (IsS75.apart (show IsS75 w0 _ g s0_0 t698 t699 from by repeat (first | (with_reducible first | exact HI0.out | apply IsS75.alloc | apply IsS75.drewN | apply IsS75.drew | apply IsS75.set_1 | apply IsS75.set_2) | exact HI0.out)) (Rz HO691.out) (by decide)) hk (fun _ h => h.2)) (fun _ h => h.1)); have n1_ := am (Kd.R_mono (Kd.R_keep (IsS75.apart (show IsS75 w0 _ g s0_0 t698 t699 from by repeat (first | (with_reducible first | exact HI0.out | apply IsS75.alloc | apply IsS75.drewN | apply IsS75.drew | apply IsS75.set_1 | apply IsS75.set_2) | exact HI0.out)) (Rz HO697.out) (by decide)) hk (fun _ h => h.2)) (fun _ h => h.1)); have n2_ := am (KeepBut.trans (by repeat (first | (with_reducible first | exact HK.out | apply KeepBut.set_ | apply keep_drewN | apply keep_drew | apply keep_alloc) | exact HK.out)) hk (.inl rfl)); have n3_ := am (hb); have n4_ := am (hi); clear HO691 HO697 HK HB HI0; revert n0_ n1_ n2_ n3_ n4_; intro HO691 HO697 HK HB HI0; (try clear hb); (try clear hb2); (try clear hk); (try clear hi)) | ((with_reducible refine gate_callee (f := 83) rfl ?_); refine gL (some 18) Try.func83 #[.pointer (some ⟨g, 0, none⟩), .int .i64 2] ?_; (with_reducible refine (spec_l1Cur_one.calls g s0_0 t701 t702 2 true t704 t705 w0 _ ?side1 ?side2 A6.out).mono ?_); (case side1 => repeat (first | (with_reducible first | exact HI0.out | apply IsS75.alloc | apply IsS75.drewN | apply IsS75.drew | apply IsS75.set_1 | apply IsS75.set_2) | exact HI0.out)); (case side2 => repeat (first | (with_reducible first | exact HB.out | apply below_alloc | apply pw_below_drewN | apply below_drew1 | refine below_set ?_ (IsS75.ge HI0.out)) | exact HB.out)); rintro e w16 ⟨rfl, hi, hb, hk⟩; refine ⟨_, rfl, ?_⟩; have n0_ := am (Kd.R_mono (Kd.R_keep (IsS75.apart (show IsS75 w0 _ g s0_0 t701 t702 from by repeat (first | (with_reducible first | exact HI0.out | apply IsS75.alloc | apply IsS75.drewN | apply IsS75.drew | apply IsS75.set_1 | apply IsS75.set_2) | exact HI0.out)) (Rz HO691.out) (by decide)) hk (fun _ h => h.2)) (fun _ h => h.1)); have n1_ := am (Kd.R_mono (Kd.R_keep (IsS75.apart (show IsS75 w0 _ g s0_0 t701 t702 from by repeat (first | (with_reducible first | exact HI0.out | apply IsS75.alloc | apply IsS75.drewN | apply IsS75.drew | apply IsS75.set_1 | apply IsS75.set_2) | exact HI0.out)) (Rz HO697.out) (by decide)) hk (fun _ h => h.2)) (fun _ h => h.1)); have n2_ := am (KeepBut.trans (by repeat (first | (with_reducible first | exact HK.out | apply KeepBut.set_ | apply keep_drewN | apply keep_drew | apply keep_alloc) | exact HK.out)) hk (.inl rfl)); have n3_ := am (hb); have n4_ := am (hi); clear HO691 HO697 HK HB HI0; revert n0_ n1_ n2_ n3_ n4_; intro HO691 HO697 HK HB HI0; (try clear hb); (try clear hb2); (try clear hk); (try clear hi); obtain ⟨Ao17, co17, eo17⟩ := Kd.R_slice HO697.out; subst eo17) | ((with_reducible refine gate_callee (f := 81) rfl ?_); refine gL (some 22) Try.func81 #[.pointer (some ⟨g, 0, none⟩), .int .i64 4] ?_; (with_reducible refine (spec_l1Cur_pick.calls g s0_0 t704 t705 4 t706 t707 t708 w0 _ ?side1 ?side2 A8.out).mono ?_); (case side1 => repeat (first | (with_reducible first | exact HI0.out | apply IsS75.alloc | apply IsS75.drewN | apply IsS75.drew | apply IsS75.set_1 | apply IsS75.set_2) | exact HI0.out)); (case side2 => repeat (first | (with_reducible first | exact HB.out | apply below_alloc | apply pw_below_drewN | apply below_drew1 | refine below_set ?_ (IsS75.ge HI0.out)) | exact HB.out)); rintro e w18 ⟨rfl, hi, hb, hk⟩; refine ⟨_, rfl, ?_⟩; have n0_ := am (Kd.R_mono (Kd.R_keep (IsS75.apart (show IsS75 w0 _ g s0_0 t704 t705 from by repeat (first | (with_reducible first | exact HI0.out | apply IsS75.alloc | apply IsS75.drewN | apply IsS75.drew | apply IsS75.set_1 | apply IsS75.set_2) | exact HI0.out)) (Rz HO691.out) (by decide)) hk (fun _ h => h.2)) (fun _ h => h.1)); have n1_ := am (Kd.R_mono (Kd.R_keep (IsS75.apart (show IsS75 w0 _ g s0_0 t704 t705 from by repeat (first | (with_reducible first | exact HI0.out | apply IsS75.alloc | apply IsS75.drewN | apply IsS75.drew | apply IsS75.set_1 | apply IsS75.set_2) | exact HI0.out)) (Rz HO697.out) (by decide)) hk (fun _ h => h.2)) (fun _ h => h.1)); have n2_ := am (KeepBut.trans (by repeat (first | (with_reducible first | exact HK.out | apply KeepBut.set_ | apply keep_drewN | apply keep_drew | apply keep_alloc) | exact HK.out)) hk (.inl rfl)); have n3_ := am (hb); have n4_ := am (hi); clear HO691 HO697 HK HB HI0; revert n0_ n1_ n2_ n3_ n4_; intro HO691 HO697 HK HB HI0; (try clear hb); (try clear hb2); (try clear hk); (try clear hi)))
  go_ret3
  exact ⟨_, eZ, Rz HO697.out, by repeat (first | (with_reducible first | exact HI0.out | apply IsS75.alloc | apply IsS75.drewN | apply IsS75.drew | apply IsS75.set_1 | apply IsS75.set_2) | exact HI0.out), by repeat (first | (with_reducible first | exact HB.out | apply below_alloc | apply pw_below_drewN | apply below_drew1 | refine below_set ?_ (IsS75.ge HI0.out)) | exact HB.out), by repeat (first | (with_reducible first | exact HK.out | apply KeepBut.set_ | apply keep_drewN | apply keep_drew | apply keep_alloc) | exact HK.out)⟩
 ·replace c7 := Bool.eq_false_iff.mpr c7
  subst c7
  rw [if_neg (show ¬ (false = true) by decide)] at H
  simp only [Option.some.injEq, Prod.mk.injEq] at H
  obtain ⟨rfl, rfl, rfl, rfl, rfl⟩ := H
  go_enter Try.func59, Try.ntmps59
  go_wp2_with (first | ((with_reducible refine gate_callee (f := 70) rfl ?_); refine gL (some 9) Try.func70 #[.pointer (some ⟨g, 0, none⟩)] ?_; (with_reducible refine (spec_l1Cur_seed9.calls g s0_0 s0_1 s0_2 t686 t687 t688 w0 _ ?side1 ?side2 A2.out).mono ?_); (case side1 => repeat (first | (with_reducible first | exact HI0.out | apply IsS75.alloc | apply IsS75.drewN | apply IsS75.drew | apply IsS75.set_1 | apply IsS75.set_2) | exact HI0.out)); (case side2 => repeat (first | (with_reducible first | exact HB.out | apply below_alloc | apply pw_below_drewN | apply below_drew1 | refine below_set ?_ (IsS75.ge HI0.out)) | exact HB.out)); rintro e w19 ⟨rfl, hi, hb, hk⟩; refine ⟨_, rfl, ?_⟩; have n0_ := am (KeepBut.trans (by repeat (first | (with_reducible first | exact HK.out | apply KeepBut.set_ | apply keep_drewN | apply keep_drew | apply keep_alloc) | exact HK.out)) hk (.inl rfl)); have n1_ := am (hb); have n2_ := am (hi); clear HK HB HI0; revert n0_ n1_ n2_; intro HK HB HI0; (try clear hb); (try clear hb2); (try clear hk); (try clear hi)) | ((with_reducible refine gate_dst (N := 12) rfl ?_); refine Kd.R_lit (Kd.int .i64) _ 3 ?hg (N := 12) ?hd (xs := ([3, 5, 8, 12] : List Int)) (inner := [.int .i64 3, .int .i64 5, .int .i64 8, .int .i64 12]) (ok := fun _ => True) (okp := fun _ => True) ?hr ?hp (fun _ hk => hk) trivial (Below.refl _ _) (Nat.le_refl _) (by simp) ?_; (case hd => rfl); (case hg => rfl); (case hr => first | (go_simp; done) | (go_simp; rfl)); (case hp => exact (Reps.one (show Kd.M (Kd.int .i64) _ _ _ 3 [.int .i64 3] from rfl) (Reps.one (show Kd.M (Kd.int .i64) _ _ _ 5 [.int .i64 5] from rfl) (Reps.one (show Kd.M (Kd.int .i64) _ _ _ 8 [.int .i64 8] from rfl) (Reps.one (show Kd.M (Kd.int .i64) _ _ _ 12 [.int .i64 12] from rfl) (Reps.none _ _)))))); intro v690 w20 ho21 hb hg_ hnew_; clear hg_ hnew_; (first | rw [← Ny689.out] at ho21 | (simp only [Int.reduceToNat] at ho21; rw [← Ny689.out] at ho21)); have n0_ := am (Kd.R_lower ho21 (keep_size (w := w) (g := g) (row := none) (by repeat (first | (with_reducible first | exact HK.out | apply KeepBut.set_ | apply keep_drewN | apply keep_drew | apply keep_alloc) | exact HK.out)))); have n1_ := am (IsS75.below (by repeat (first | (with_reducible first | exact HI0.out | apply IsS75.alloc | apply IsS75.drewN | apply IsS75.drew | apply IsS75.set_1 | apply IsS75.set_2) | exact HI0.out)) hb); have n2_ := am (KeepBut.trans (by repeat (first | (with_reducible first | exact HK.out | apply KeepBut.set_ | apply keep_drewN | apply keep_drew | apply keep_alloc) | exact HK.out)) (KeepBut.of_below hb g none) (.inl rfl)); have n3_ := am (below_step (by repeat (first | (with_reducible first | exact HB.out | apply below_alloc | apply pw_below_drewN | apply below_drew1 | refine below_set ?_ (IsS75.ge HI0.out)) | exact HB.out)) hb); clear HI0 HK HB; revert n0_ n1_ n2_ n3_; intro HO691 HI0 HK HB; clear hb ho21; obtain ⟨Ao22, co22, eo22⟩ := Kd.R_slice HO691.out; subst eo22) | ((with_reducible refine gate_callee (f := 71) rfl ?_); refine gL (some 13) Try.func71 #[.pointer (some ⟨g, 0, none⟩), .slice Ao22 y689.length co22] ?_; (with_reducible refine (spec_l1Cur_among.calls g s0_0 t687 t688 _ _ y689 t692 t693 t694 w0 _ ?side1 ?side2 ?side3 ?side4 ?side5 A3.out).mono ?_); (case side1 => repeat (first | (with_reducible first | exact HI0.out | apply IsS75.alloc | apply IsS75.drewN | apply IsS75.drew | apply IsS75.set_1 | apply IsS75.set_2) | exact HI0.out)); (case side2 => repeat (first | (with_reducible first | exact HB.out | apply below_alloc | apply pw_below_drewN | apply below_drew1 | refine below_set ?_ (IsS75.ge HI0.out)) | exact HB.out)); (case side3 => exact Cz ((Kd.R_reads' HO691.out).2.2)); (case side4 => exact (Kd.R_reads' HO691.out).2.1); (case side5 => exact far_slice (IsS75.own_ne HI0.out HO691.out (by decide))); rintro e w23 ⟨rfl, hi, hb, hk⟩; refine ⟨_, rfl, ?_⟩; have n0_ := am (Kd.R_mono (Kd.R_keep (IsS75.apart (show IsS75 w0 _ g s0_0 t687 t688 from by repeat (first | (with_reducible first | exact HI0.out | apply IsS75.alloc | apply IsS75.drewN | apply IsS75.drew | apply IsS75.set_1 | apply IsS75.set_2) | exact HI0.out)) (Rz HO691.out) (by decide)) hk (fun _ h => h.2)) (fun _ h => h.1)); have n1_ := am (KeepBut.trans (by repeat (first | (with_reducible first | exact HK.out | apply KeepBut.set_ | apply keep_drewN | apply keep_drew | apply keep_alloc) | exact HK.out)) hk (.inl rfl)); have n2_ := am (hb); have n3_ := am (hi); clear HO691 HK HB HI0; revert n0_ n1_ n2_ n3_; intro HO691 HK HB HI0; (try clear hb); (try clear hb2); (try clear hk); (try clear hi)) | ((with_reducible refine gate_callee (f := 118) rfl ?_); refine gL (some 14) Try.func118 #[.pointer (some ⟨g, 0, none⟩), .int .i64 t692] ?_; (with_reducible refine (spec_l1Cur_anyKeys.calls k g s0_0 t693 t694 t692 t695 t698 t699 w0 _ ?side1 ?side2 A4.out).mono ?_); (case side1 => repeat (first | (with_reducible first | exact HI0.out | apply IsS75.alloc | apply IsS75.drewN | apply IsS75.drew | apply IsS75.set_1 | apply IsS75.set_2) | exact HI0.out)); (case side2 => repeat (first | (with_reducible first | exact HB.out | apply below_alloc | apply pw_below_drewN | apply below_drew1 | refine below_set ?_ (IsS75.ge HI0.out)) | exact HB.out)); rintro e w24 ⟨v696, rfl, ho0, hi, hb, hk⟩; refine ⟨_, rfl, ?_⟩; have n0_ := am (Kd.R_mono (Kd.R_keep (IsS75.apart (show IsS75 w0 _ g s0_0 t693 t694 from by repeat (first | (with_reducible first | exact HI0.out | apply IsS75.alloc | apply IsS75.drewN | apply IsS75.drew | apply IsS75.set_1 | apply IsS75.set_2) | exact HI0.out)) (Rz HO691.out) (by decide)) hk (fun _ h => h.2)) (fun _ h => h.1)); have n1_ := am (Kd.R_lower ho0 (keep_size (w := w) (g := g) (row := none) (by repeat (first | (with_reducible first | exact HK.out | apply KeepBut.set_ | apply keep_drewN | apply keep_drew | apply keep_alloc) | exact HK.out)))); have n2_ := am (KeepBut.trans (by repeat (first | (with_reducible first | exact HK.out | apply KeepBut.set_ | apply keep_drewN | apply keep_drew | apply keep_alloc) | exact HK.out)) hk (.inl rfl)); have n3_ := am (hb); have n4_ := am (hi); clear HO691 HK HB HI0; revert n0_ n1_ n2_ n3_ n4_; intro HO691 HO697 HK HB HI0; (try clear hb); (try clear hb2); (try clear hk); (try clear hi); (try clear ho0)) | ((with_reducible refine gate_callee (f := 119) rfl ?_); refine gL (some 16) Try.func119 #[.pointer (some ⟨g, 0, none⟩)] ?_; (with_reducible refine (spec_l1Cur_cells.calls g s0_0 t698 t699 t700 t701 t702 w0 _ ?side1 ?side2 A5.out).mono ?_); (case side1 => repeat (first | (with_reducible first | exact HI0.out | apply IsS75.alloc | apply IsS75.drewN | apply IsS75.drew | apply IsS75.set_1 | apply IsS75.set_2) | exact HI0.out)); (case side2 => repeat (first | (with_reducible first | exact HB.out | apply below_alloc | apply pw_below_drewN | apply below_drew1 | refine below_set ?_ (IsS75.ge HI0.out)) | exact HB.out)); rintro e w25 ⟨rfl, hi, hb, hk⟩; refine ⟨_, rfl, ?_⟩; have n0_ := am (Kd.R_mono (Kd.R_keep (IsS75.apart (show IsS75 w0 _ g s0_0 t698 t699 from by repeat (first | (with_reducible first | exact HI0.out | apply IsS75.alloc | apply IsS75.drewN | apply IsS75.drew | apply IsS75.set_1 | apply IsS75.set_2) | exact HI0.out)) (Rz HO691.out) (by decide)) hk (fun _ h => h.2)) (fun _ h => h.1)); have n1_ := am (Kd.R_mono (Kd.R_keep (IsS75.apart (show IsS75 w0 _ g s0_0 t698 t699 from by repeat (first | (with_reducible first | exact HI0.out | apply IsS75.alloc | apply IsS75.drewN | apply IsS75.drew | apply IsS75.set_1 | apply IsS75.set_2) | exact HI0.out)) (Rz HO697.out) (by decide)) hk (fun _ h => h.2)) (fun _ h => h.1)); have n2_ := am (KeepBut.trans (by repeat (first | (with_reducible first | exact HK.out | apply KeepBut.set_ | apply keep_drewN | apply keep_drew | apply keep_alloc) | exact HK.out)) hk (.inl rfl)); have n3_ := am (hb); have n4_ := am (hi); clear HO691 HO697 HK HB HI0; revert n0_ n1_ n2_ n3_ n4_; intro HO691 HO697 HK HB HI0; (try clear hb); (try clear hb2); (try clear hk); (try clear hi)) | ((with_reducible refine gate_callee (f := 83) rfl ?_); refine gL (some 18) Try.func83 #[.pointer (some ⟨g, 0, none⟩), .int .i64 2] ?_; (with_reducible refine (spec_l1Cur_one.calls g s0_0 t701 t702 2 false t704 t705 w0 _ ?side1 ?side2 A6.out).mono ?_); (case side1 => repeat (first | (with_reducible first | exact HI0.out | apply IsS75.alloc | apply IsS75.drewN | apply IsS75.drew | apply IsS75.set_1 | apply IsS75.set_2) | exact HI0.out)); (case side2 => repeat (first | (with_reducible first | exact HB.out | apply below_alloc | apply pw_below_drewN | apply below_drew1 | refine below_set ?_ (IsS75.ge HI0.out)) | exact HB.out)); rintro e w26 ⟨rfl, hi, hb, hk⟩; refine ⟨_, rfl, ?_⟩; have n0_ := am (Kd.R_mono (Kd.R_keep (IsS75.apart (show IsS75 w0 _ g s0_0 t701 t702 from by repeat (first | (with_reducible first | exact HI0.out | apply IsS75.alloc | apply IsS75.drewN | apply IsS75.drew | apply IsS75.set_1 | apply IsS75.set_2) | exact HI0.out)) (Rz HO691.out) (by decide)) hk (fun _ h => h.2)) (fun _ h => h.1)); have n1_ := am (Kd.R_mono (Kd.R_keep (IsS75.apart (show IsS75 w0 _ g s0_0 t701 t702 from by repeat (first | (with_reducible first | exact HI0.out | apply IsS75.alloc | apply IsS75.drewN | apply IsS75.drew | apply IsS75.set_1 | apply IsS75.set_2) | exact HI0.out)) (Rz HO697.out) (by decide)) hk (fun _ h => h.2)) (fun _ h => h.1)); have n2_ := am (KeepBut.trans (by repeat (first | (with_reducible first | exact HK.out | apply KeepBut.set_ | apply keep_drewN | apply keep_drew | apply keep_alloc) | exact HK.out)) hk (.inl rfl)); have n3_ := am (hb); have n4_ := am (hi); clear HO691 HO697 HK HB HI0; revert n0_ n1_ n2_ n3_ n4_; intro HO691 HO697 HK HB HI0; (try clear hb); (try clear hb2); (try clear hk); (try clear hi)))
  go_ret3
  exact ⟨_, eZ, Rz HO697.out, by repeat (first | (with_reducible first | exact HI0.out | apply IsS75.alloc | apply IsS75.drewN | apply IsS75.drew | apply IsS75.set_1 | apply IsS75.set_2) | exact HI0.out), by repeat (first | (with_reducible first | exact HB.out | apply below_alloc | apply pw_below_drewN | apply below_drew1 | refine below_set ?_ (IsS75.ge HI0.out)) | exact HB.out), by repeat (first | (with_reducible first | exact HK.out | apply KeepBut.set_ | apply keep_drewN | apply keep_drew | apply keep_alloc) | exact HK.out)⟩

def spec_DrawCuckooOf.f (k : Nat) (l0 : List Int) : Option (Int × List ByteArray × Int × Int) := (spec_l1Cur_keyed.f k l0 0 0).bind fun bt710 => ((spec_l1Cur_among.f l0 bt710.2.2.2.1 bt710.2.2.2.2 (([0, 1, 3, 12, 40, 41, (-1)] : List Int))).bind fun bt720 => (some (bt710.1, bt710.2.1, bt710.2.2.1, bt720.1)))
theorem spec_DrawCuckooOf.calls (k : Nat) (A0 : Option Addr) (c0 : Nat) (l0 : List Int) (r1 : Int) (r2 : List ByteArray) (r3 : Int) (r4 : Int) (w : World) (hr0 : Kd.C (Kd.int .u8) w A0 l0.length l0) (hc0 : l0.length ≤ c0) (h : spec_DrawCuckooOf.f k l0 = some (r1, r2, r3, r4)) :
  Calls Try.prog 53 #[.slice A0 l0.length c0] w fun e w' => ∃ v1_ : Value, e = .returned (.tuple #[.int .i64 r1, v1_, .int .i64 r3, .int .i64 r4]) ∧ Kd.R Kd.string 9 w' w.heap.size (fun _ => True) v1_ r2 ∧ Below w.heap.size w w' := by
 have hu75 := Try.underlying75; have HR0 := am hr0; have HC0 := am hc0; clear hr0 hc0; have HB := am (Below.refl w.heap.size w); have H : ((spec_l1Cur_keyed.f k l0 0 0).bind fun bt710 => ((spec_l1Cur_among.f l0 bt710.2.2.2.1 bt710.2.2.2.2 (([0, 1, 3, 12, 40, 41, (-1)] : List Int))).bind fun bt720 => (some (bt710.1, bt710.2.1, bt710.2.2.1, bt720.1)))) = some (r1, r2, r3, r4) := h; clear h; replace H := Option.bind_eq_some_iff.mp H; obtain ⟨⟨t710, t711, t714, t715, t716⟩, A20, H⟩ := H; (try dsimp -simprocs only at H); have A2 := am A20; clear A20; obtain ⟨y717, hy717⟩ : ∃ y_ : List Int, y_ = (([0, 1, 3, 12, 40, 41, (-1)] : List Int)) := ⟨_, rfl⟩
 replace H : ((spec_l1Cur_among.f l0 t715 t716 y717).bind fun bt720 => (some (t710, t711, t714, bt720.1))) = some (r1, r2, r3, r4) := by first | (rw [hy717]; with_reducible exact H) | (have H2_ := (Option.bind_some _ _).symm.trans H; rw [hy717]; with_reducible exact H2_) | (have H2_ := (Option.bind_some _ _).symm.trans H; with_reducible exact H2_) | with_reducible exact H | (rw [hy717]; exact H) | exact H
 have Ny717 := am hy717; clear hy717; replace H := Option.bind_eq_some_iff.mp H; obtain ⟨⟨t720, t721, t722⟩, A30, H⟩ := H; (try dsimp -simprocs only at H); have A3 := am A30; clear A30
 simp only [Option.some.injEq, Prod.mk.injEq] at H
 obtain ⟨rfl, rfl, rfl, rfl⟩ := H
 go_enter Try.func53, Try.ntmps53
 go_wp2_with (first | ((with_reducible refine gate_dst (N := 12) rfl ?_); refine bE 12 #[.slice A0 l0.length c0, .int .i64 0, .int .u64 0] 75 ?_; intro gb709 hg w4 hbox hb; have n0_ := Bb HB hb; have n1_ := am (hbox); have n2_ := Gl HB hg; have n3_ := Gl HB hg; clear HB; revert n0_ n1_ n2_ n3_; intro HB BK709 GW709 GE709; clear hb hbox hg; have HI709 := am (show IsS75 w _ gb709 l0 0 0 from ⟨A0, c0, BK709.out, GE709.out, HR0.out⟩); clear BK709) | ((with_reducible refine gate_callee (f := 59) rfl ?_); refine gL (some 15) Try.func59 #[.pointer (some ⟨gb709, 0, none⟩)] ?_; (with_reducible refine (spec_l1Cur_keyed.calls k gb709 l0 0 0 t710 t711 t714 t715 t716 w _ ?side1 ?side2 A2.out).mono ?_); (case side1 => repeat (first | (with_reducible first | exact HI709.out | apply IsS75.alloc | apply IsS75.drewN | apply IsS75.drew | apply IsS75.set_1 | apply IsS75.set_2) | exact HI709.out)); (case side2 => repeat (first | (with_reducible first | exact HB.out | apply below_alloc | apply pw_below_drewN | apply below_drew1 | refine below_set ?_ (IsS75.ge HI709.out)) | exact HB.out)); rintro e w5 ⟨v712, rfl, ho0, hi, hb, hk⟩; refine ⟨_, rfl, ?_⟩; have n0_ := am (Kd.R_lower ho0 (below_size (by repeat (first | (with_reducible first | exact HB.out | apply below_alloc | apply pw_below_drewN | apply below_drew1 | refine below_set ?_ (IsS75.ge HI709.out)) | exact HB.out)))); have n1_ := am (hb); have n2_ := am (hi); clear HB HI709; revert n0_ n1_ n2_; intro HO713 HB HI709; (try clear hb); (try clear hb2); (try clear hk); (try clear hi); (try clear ho0)) | ((with_reducible refine gate_dst (N := 23) rfl ?_); refine Kd.R_lit (Kd.int .i64) _ 3 ?hg (N := 23) ?hd (xs := ([0, 1, 3, 12, 40, 41, (-1)] : List Int)) (inner := [.int .i64 0, .int .i64 1, .int .i64 3, .int .i64 12, .int .i64 40, .int .i64 41, .int .i64 (-1)]) (ok := fun _ => True) (okp := fun _ => True) ?hr ?hp (fun _ hk => hk) trivial (Below.refl _ _) (Nat.le_refl _) (by simp) ?_; (case hd => rfl); (case hg => rfl); (case hr => first | (go_simp; done) | (go_simp; rfl)); (case hp => exact (Reps.one (show Kd.M (Kd.int .i64) _ _ _ 0 [.int .i64 0] from rfl) (Reps.one (show Kd.M (Kd.int .i64) _ _ _ 1 [.int .i64 1] from rfl) (Reps.one (show Kd.M (Kd.int .i64) _ _ _ 3 [.int .i64 3] from rfl) (Reps.one (show Kd.M (Kd.int .i64) _ _ _ 12 [.int .i64 12] from rfl) (Reps.one (show Kd.M (Kd.int .i64) _ _ _ 40 [.int .i64 40] from rfl) (Reps.one (show Kd.M (Kd.int .i64) _ _ _ 41 [.int .i64 41] from rfl) (Reps.one (show Kd.M (Kd.int .i64) _ _ _ (-1) [.int .i64 (-1)] from rfl) (Reps.none _ _))))))))); intro v718 w6 ho7 hb hg_ hnew_; clear hg_ hnew_; (first | rw [← Ny717.out] at ho7 | (simp only [Int.reduceToNat] at ho7; rw [← Ny717.out] at ho7)); have n0_ := Rb HO713 hb; have n1_ := am (Kd.R_lower ho7 (below_size (by repeat (first | (with_reducible first | exact HB.out | apply below_alloc | apply pw_below_drewN | apply below_drew1 | refine below_set ?_ (IsS75.ge HI709.out)) | exact HB.out)))); have n2_ := am (IsS75.below (by repeat (first | (with_reducible first | exact HI709.out | apply IsS75.alloc | apply IsS75.drewN | apply IsS75.drew | apply IsS75.set_1 | apply IsS75.set_2) | exact HI709.out)) hb); have n3_ := am (below_step (by repeat (first | (with_reducible first | exact HB.out | apply below_alloc | apply pw_below_drewN | apply below_drew1 | refine below_set ?_ (IsS75.ge HI709.out)) | exact HB.out)) hb); clear HO713 HI709 HB; revert n0_ n1_ n2_ n3_; intro HO713 HO719 HI709 HB; clear hb ho7; obtain ⟨Ao8, co8, eo8⟩ := Kd.R_slice HO719.out; subst eo8) | ((with_reducible refine gate_callee (f := 71) rfl ?_); refine gL (some 24) Try.func71 #[.pointer (some ⟨gb709, 0, none⟩), .slice Ao8 y717.length co8] ?_; (with_reducible refine (spec_l1Cur_among.calls gb709 l0 t715 t716 _ _ y717 t720 t721 t722 w _ ?side1 ?side2 ?side3 ?side4 ?side5 A3.out).mono ?_); (case side1 => repeat (first | (with_reducible first | exact HI709.out | apply IsS75.alloc | apply IsS75.drewN | apply IsS75.drew | apply IsS75.set_1 | apply IsS75.set_2) | exact HI709.out)); (case side2 => repeat (first | (with_reducible first | exact HB.out | apply below_alloc | apply pw_below_drewN | apply below_drew1 | refine below_set ?_ (IsS75.ge HI709.out)) | exact HB.out)); (case side3 => exact Cz ((Kd.R_reads' HO719.out).2.2)); (case side4 => exact (Kd.R_reads' HO719.out).2.1); (case side5 => exact far_slice (IsS75.own_ne HI709.out HO719.out (by decide))); rintro e w9 ⟨rfl, hi, hb, hk⟩; refine ⟨_, rfl, ?_⟩; have n0_ := am (Kd.R_mono (Kd.R_keep (IsS75.apart (show IsS75 w _ gb709 l0 t715 t716 from by repeat (first | (with_reducible first | exact HI709.out | apply IsS75.alloc | apply IsS75.drewN | apply IsS75.drew | apply IsS75.set_1 | apply IsS75.set_2) | exact HI709.out)) (Rz HO713.out) (by decide)) hk (fun _ h => h.2)) (fun _ h => h.1)); have n1_ := am (Kd.R_mono (Kd.R_keep (IsS75.apart (show IsS75 w _ gb709 l0 t715 t716 from by repeat (first | (with_reducible first | exact HI709.out | apply IsS75.alloc | apply IsS75.drewN | apply IsS75.drew | apply IsS75.set_1 | apply IsS75.set_2) | exact HI709.out)) (Rz HO719.out) (by decide)) hk (fun _ h => h.2)) (fun _ h => h.1)); have n2_ := am (hb); have n3_ := am (hi); clear HO713 HO719 HB HI709; revert n0_ n1_ n2_ n3_; intro HO713 HO719 HB HI709; (try clear hb); (try clear hb2); (try clear hk); (try clear hi)))
 refine bodyPost_ret (results_list (rs := [.tmp 2, .tmp 3, .tmp 4, .tmp 5]) rfl (by simp) (.tmp (.tmp (.tmp (.tmp .nil))))) rfl ?_; exact ⟨_, eZ, Rz HO713.out, by repeat (first | (with_reducible first | exact HB.out | apply below_alloc | apply pw_below_drewN | apply below_drew1 | refine below_set ?_ (IsS75.ge HI709.out)) | exact HB.out)⟩

def impl_NewCuckoo.f (a0 : Int) (a1 : Int) : Option (Int × List ByteArray × List ByteArray × Bool) := (impl_isSeed.f a0).bind fun t747 => (if t747 = true then ((impl_cellsOk.f a1).bind fun t748 => (if t748 = true then (if 0 ≤ a1 then (if (a1 : Int).toNat ≤ 17592186044416 then (some (a0, (List.replicate (a1 : Int).toNat (⟨#[]⟩ : ByteArray)), ([] : List ByteArray), true)) else (none)) else (none)) else (some (0, ([] : List ByteArray), ([] : List ByteArray), false)))) else (some (0, ([] : List ByteArray), ([] : List ByteArray), false)))
theorem impl_NewCuckoo.calls (a0 : Int) (a1 : Int) (r1 : Int) (r2 : List ByteArray) (r3 : List ByteArray) (r4 : Bool) (w : World) (h : impl_NewCuckoo.f a0 a1 = some (r1, r2, r3, r4)) :
  Calls Try.prog 111 #[.int .i64 a0, .int .i64 a1] w fun e w' => ∃ v1_ v2_ : Value, e = .returned (.tuple #[.agg #[.int .i64 r1, v1_, v2_], .bool r4]) ∧ Kd.R Kd.string 9 w' w.heap.size (fun k_ => some k_ ≠ (v2_ : Value).ownBlock) v1_ r2 ∧ Kd.R Kd.string 9 w' w.heap.size (fun k_ => some k_ ≠ (v1_ : Value).ownBlock) v2_ r3 ∧ Below w.heap.size w w' := by
 have hu51 := Try.underlying51; have HB := am (Below.refl w.heap.size w); have H : ((impl_isSeed.f a0).bind fun t747 => (if t747 = true then ((impl_cellsOk.f a1).bind fun t748 => (if t748 = true then (if 0 ≤ a1 then (if (a1 : Int).toNat ≤ 17592186044416 then (some (a0, (List.replicate (a1 : Int).toNat (⟨#[]⟩ : ByteArray)), ([] : List ByteArray), true)) else (none)) else (none)) else (some (0, ([] : List ByteArray), ([] : List ByteArray), false)))) else (some (0, ([] : List ByteArray), ([] : List ByteArray), false)))) = some (r1, r2, r3, r4) := h; clear h; replace H := Option.bind_eq_some_iff.mp H; obtain ⟨t747, A30, H⟩ := H; (try dsimp -simprocs only at H); have A3 := am A30; clear A30
 by_cases c4 : t747 = true
 ·subst c4
  rw [if_pos rfl] at H; replace H := Option.bind_eq_some_iff.mp H; obtain ⟨t748, A50, H⟩ := H; (try dsimp -simprocs only at H); have A5 := am A50; clear A50
  by_cases c6 : t748 = true
  ·subst c6
   rw [if_pos rfl] at H
   by_cases c7 : 0 ≤ a1
   ·rw [if_pos c7] at H
    have c7b0 := eq_true c7; have c7b1 : decide (0 ≤ a1) = true := decide_eq_true c7; clear c7
    by_cases c8 : (a1 : Int).toNat ≤ 17592186044416
    ·rw [if_pos c8] at H
     have c8b0 := eq_true c8; have c8b1 : decide ((a1 : Int).toNat ≤ 17592186044416) = true := decide_eq_true c8; clear c8; obtain ⟨y749, hy749⟩ : ∃ y_ : List ByteArray, y_ = (List.replicate (a1 : Int).toNat (⟨#[]⟩ : ByteArray)) := ⟨_, rfl⟩
     replace H : (some (a0, y749, ([] : List ByteArray), true)) = some (r1, r2, r3, r4) := by first | (rw [hy749]; with_reducible exact H) | (have H2_ := (Option.bind_some _ _).symm.trans H; rw [hy749]; with_reducible exact H2_) | (have H2_ := (Option.bind_some _ _).symm.trans H; with_reducible exact H2_) | with_reducible exact H | (rw [hy749]; exact H) | exact H
     have Ny749 := am hy749; clear hy749
     simp only [Option.some.injEq, Prod.mk.injEq] at H
     obtain ⟨rfl, rfl, rfl, rfl⟩ := H
     go_enter Try.func111, Try.ntmps111
     go_wp2_with (first | ((with_reducible refine gate_dst (N := 4) rfl ?_); refine bE 4 #[.int .i64 0, .slice none 0 0, .slice none 0 0] 51 ?_; intro gb746 hg w9 hbox hb; have n0_ := Bb HB hb; have n1_ := am (hbox); have n2_ := Gl HB hg; have n3_ := Gl HB hg; clear HB; revert n0_ n1_ n2_ n3_; intro HB BK746 GW746 GE746; clear hb hbox hg) | ((with_reducible refine gate_callee (f := 65) rfl ?_); refine gL (some 7) Try.func65 #[.int .i64 a0] ?_; (with_reducible refine (impl_isSeed.calls a0 true _ A3.out).mono ?_); rintro e w' ⟨rfl, ⟨nd, rfl⟩⟩; refine ⟨_, rfl, ?_⟩; (try (rw [drewN_self w9]; generalize hq_ : World.drewN w9 _ = w9; have n0_ : Aside0 (w9.heap[gb746]? = some (.cells #[.int .i64 0, .slice none 0 0, .slice none 0 0] 51 (0, 0))) := ⟨by rw [← hq_]; exact (Kz BK746.out)⟩; have n1_ : Aside0 (Below w.heap.size w w9) := ⟨by rw [← hq_]; exact (Bq)⟩; clear BK746 HB hq_; revert n0_ n1_; intro BK746 HB))) | (go_at_call 67; (with_reducible refine (impl_cellsOk.calls a1 true _ A5.out).mono ?_); rintro e w' ⟨rfl, ⟨nd, rfl⟩⟩; (try (rw [drewN_self w9]; generalize hq_ : World.drewN w9 _ = w9; have n0_ : Aside0 (w9.heap[gb746]? = some (.cells #[.int .i64 0, .slice none 0 0, .slice none 0 0] 51 (0, 0))) := ⟨by rw [← hq_]; exact (Kz BK746.out)⟩; have n1_ : Aside0 (Below w.heap.size w w9) := ⟨by rw [← hq_]; exact (Bq)⟩; clear BK746 HB hq_; revert n0_ n1_; intro BK746 HB))) | ((with_reducible refine gate_dst (N := 17) rfl ?_); refine Kd.R_make Kd.string _ 9 rfl (N := 17) rfl 24 _ _ rfl a1 rfl rfl Try.underlying24 (.string ⟨#[]⟩) 16 info9 rfl (by decide) (by omega) (⟨#[]⟩ : ByteArray) (ok := fun _ => True) (okp := fun _ => True) rfl (fun _ hk => hk) trivial (dT) (Nat.le_trans (Nat.mul_le_mul_right _ (dT : a1.toNat ≤ 17592186044416)) (by omega)) (Below.refl _ _) (Nat.le_refl _) ?_; intro v750 w10 ho11 hb hg_ hnew_; clear hg_ hnew_; (first | rw [← Ny749.out] at ho11 | (simp only [Int.reduceToNat] at ho11; rw [← Ny749.out] at ho11)); have n0_ := Rm ho11 HB; have n1_ := Kb BK746 hb; have n2_ := Bc HB hb; clear BK746 HB; revert n0_ n1_ n2_; intro HO751 BK746 HB; clear hb ho11; obtain ⟨Ao12, co12, eo12⟩ := Kd.R_slice HO751.out; subst eo12; obtain ⟨hcz13_0, hcz13_1, hcz13_2, hfz13_0, hfz13_1, hfz13_2⟩ := cf3 (w := w10) BK746))
     refine bodyPost_ret (results_ct rfl _ _ gb746 51 #[.int .i64 a0, .slice Ao12 y749.length co12, .slice none 0 0] (0, 0) _ rfl (by (with_reducible repeat (first | refine blk_drewN ?_ _ | refine blk_drew ?_ | refine blk_alloc ?_ _)); refine blk_put (cs := #[.int .i64 a0, .slice Ao12 y749.length co12, .slice none 0 0]) ?_ 2 _ rfl; (with_reducible repeat (first | refine blk_drewN ?_ _ | refine blk_drew ?_ | refine blk_alloc ?_ _)); refine blk_put (cs := #[.int .i64 a0, .slice none 0 0, .slice none 0 0]) ?_ 1 _ rfl; (with_reducible repeat (first | refine blk_drewN ?_ _ | refine blk_drew ?_ | refine blk_alloc ?_ _)); refine blk_put (cs := #[.int .i64 0, .slice none 0 0, .slice none 0 0]) ?_ 0 _ rfl; exact Kz BK746.out) Try.underlying51 rfl (by kernel_rfl)) rfl ?_; exact ⟨_, _, eZ, Rz (Kd.R_mono (Kd.R_far (p := ⟨gb746, 2, none⟩) (Kd.R_far (p := ⟨gb746, 1, none⟩) (Kd.R_far (p := ⟨gb746, 0, none⟩) (Kd.R_types HO751.out BK746.out (by decide)) (fun _ hk => hk.2) (.int .i64 a0)) (fun _ hk => hk.2) (.slice Ao12 y749.length co12)) (fun _ hk => hk.2) (.slice none 0 0)) (fun _ hk => (by simp [Value.ownBlock]))), nZ, Bq⟩
    ·rw [if_neg c8] at H
     exact absurd H (by simp)
   ·rw [if_neg c7] at H
    exact absurd H (by simp)
  ·replace c6 := Bool.eq_false_iff.mpr c6
   subst c6
   rw [if_neg (show ¬ (false = true) by decide)] at H
   simp only [Option.some.injEq, Prod.mk.injEq] at H
   obtain ⟨rfl, rfl, rfl, rfl⟩ := H
   go_enter Try.func111, Try.ntmps111
   go_wp2_with (first | ((with_reducible refine gate_dst (N := 4) rfl ?_); refine bE 4 #[.int .i64 0, .slice none 0 0, .slice none 0 0] 51 ?_; intro gb746 hg w14 hbox hb; have n0_ := Bb HB hb; have n1_ := am (hbox); have n2_ := Gl HB hg; have n3_ := Gl HB hg; clear HB; revert n0_ n1_ n2_ n3_; intro HB BK746 GW746 GE746; clear hb hbox hg) | ((with_reducible refine gate_callee (f := 65) rfl ?_); refine gL (some 7) Try.func65 #[.int .i64 a0] ?_; (with_reducible refine (impl_isSeed.calls a0 true _ A3.out).mono ?_); rintro e w' ⟨rfl, ⟨nd, rfl⟩⟩; refine ⟨_, rfl, ?_⟩; (try (rw [drewN_self w14]; generalize hq_ : World.drewN w14 _ = w14; have n0_ : Aside0 (w14.heap[gb746]? = some (.cells #[.int .i64 0, .slice none 0 0, .slice none 0 0] 51 (0, 0))) := ⟨by rw [← hq_]; exact (Kz BK746.out)⟩; have n1_ : Aside0 (Below w.heap.size w w14) := ⟨by rw [← hq_]; exact (Bq)⟩; clear BK746 HB hq_; revert n0_ n1_; intro BK746 HB))) | (go_at_call 67; (with_reducible refine (impl_cellsOk.calls a1 false _ A5.out).mono ?_); rintro e w' ⟨rfl, ⟨nd, rfl⟩⟩; (try (rw [drewN_self w14]; generalize hq_ : World.drewN w14 _ = w14; have n0_ : Aside0 (w14.heap[gb746]? = some (.cells #[.int .i64 0, .slice none 0 0, .slice none 0 0] 51 (0, 0))) := ⟨by rw [← hq_]; exact (Kz BK746.out)⟩; have n1_ : Aside0 (Below w.heap.size w w14) := ⟨by rw [← hq_]; exact (Bq)⟩; clear BK746 HB hq_; revert n0_ n1_; intro BK746 HB)); obtain ⟨hcz15_0, hcz15_1, hcz15_2, hfz15_0, hfz15_1, hfz15_2⟩ := cf3 (w := w14) BK746))
   refine bodyPost_ret (results_ct rfl _ _ gb746 51 #[.int .i64 0, .slice none 0 0, .slice none 0 0] (0, 0) _ rfl (by (with_reducible repeat (first | refine blk_drewN ?_ _ | refine blk_drew ?_ | refine blk_alloc ?_ _)); refine blk_put (cs := #[.int .i64 0, .slice none 0 0, .slice none 0 0]) ?_ 2 _ rfl; (with_reducible repeat (first | refine blk_drewN ?_ _ | refine blk_drew ?_ | refine blk_alloc ?_ _)); refine blk_put (cs := #[.int .i64 0, .slice none 0 0, .slice none 0 0]) ?_ 1 _ rfl; (with_reducible repeat (first | refine blk_drewN ?_ _ | refine blk_drew ?_ | refine blk_alloc ?_ _)); refine blk_put (cs := #[.int .i64 0, .slice none 0 0, .slice none 0 0]) ?_ 0 _ rfl; exact Kz BK746.out) Try.underlying51 rfl (by kernel_rfl)) rfl ?_; exact ⟨_, _, eZ, nZ, nZ, Bq⟩
 ·replace c4 := Bool.eq_false_iff.mpr c4
  subst c4
  rw [if_neg (show ¬ (false = true) by decide)] at H
  simp only [Option.some.injEq, Prod.mk.injEq] at H
  obtain ⟨rfl, rfl, rfl, rfl⟩ := H
  go_enter Try.func111, Try.ntmps111
  go_wp2_with (first | ((with_reducible refine gate_dst (N := 4) rfl ?_); refine bE 4 #[.int .i64 0, .slice none 0 0, .slice none 0 0] 51 ?_; intro gb746 hg w16 hbox hb; have n0_ := Bb HB hb; have n1_ := am (hbox); have n2_ := Gl HB hg; have n3_ := Gl HB hg; clear HB; revert n0_ n1_ n2_ n3_; intro HB BK746 GW746 GE746; clear hb hbox hg) | ((with_reducible refine gate_callee (f := 65) rfl ?_); refine gL (some 7) Try.func65 #[.int .i64 a0] ?_; (with_reducible refine (impl_isSeed.calls a0 false _ A3.out).mono ?_); rintro e w' ⟨rfl, ⟨nd, rfl⟩⟩; refine ⟨_, rfl, ?_⟩; (try (rw [drewN_self w16]; generalize hq_ : World.drewN w16 _ = w16; have n0_ : Aside0 (w16.heap[gb746]? = some (.cells #[.int .i64 0, .slice none 0 0, .slice none 0 0] 51 (0, 0))) := ⟨by rw [← hq_]; exact (Kz BK746.out)⟩; have n1_ : Aside0 (Below w.heap.size w w16) := ⟨by rw [← hq_]; exact (Bq)⟩; clear BK746 HB hq_; revert n0_ n1_; intro BK746 HB)); obtain ⟨hcz17_0, hcz17_1, hcz17_2, hfz17_0, hfz17_1, hfz17_2⟩ := cf3 (w := w16) BK746))
  refine bodyPost_ret (results_ct rfl _ _ gb746 51 #[.int .i64 0, .slice none 0 0, .slice none 0 0] (0, 0) _ rfl (by (with_reducible repeat (first | refine blk_drewN ?_ _ | refine blk_drew ?_ | refine blk_alloc ?_ _)); refine blk_put (cs := #[.int .i64 0, .slice none 0 0, .slice none 0 0]) ?_ 2 _ rfl; (with_reducible repeat (first | refine blk_drewN ?_ _ | refine blk_drew ?_ | refine blk_alloc ?_ _)); refine blk_put (cs := #[.int .i64 0, .slice none 0 0, .slice none 0 0]) ?_ 1 _ rfl; (with_reducible repeat (first | refine blk_drewN ?_ _ | refine blk_drew ?_ | refine blk_alloc ?_ _)); refine blk_put (cs := #[.int .i64 0, .slice none 0 0, .slice none 0 0]) ?_ 0 _ rfl; exact Kz BK746.out) Try.underlying51 rfl (by kernel_rfl)) rfl ?_; exact ⟨_, _, eZ, nZ, nZ, Bq⟩

mutual
def impl_CuckooOf.j0 : Nat → List ByteArray → Int → Bool → Int → List ByteArray → List ByteArray → Option (Int × List ByteArray × List ByteArray × Bool)
 | 0, _, _, _, _, _, _ => none
 | k + 1, x1, x3, x31, x762000, x762001, x762002 => if x31 = true then (some (0, ([] : List ByteArray), ([] : List ByteArray), false)) else (impl_CuckooOf.l0 k x3 x1 (x1.length : Int) 0 x762000 x762001 x762002)
def impl_CuckooOf.l0 : Nat → Int → List ByteArray → Int → Int → Int → List ByteArray → List ByteArray → Option (Int × List ByteArray × List ByteArray × Bool)
 | 0, _, _, _, _, _, _, _ => none
 | k + 1, x3, x33, x34, x35, x762000, x762001, x762002 => if x35 < x34 then (if 0 ≤ x35 then (if x35 < (x33.length : Int) then ((impl_CuckooInsert.f k x762000 x762001 x762002 (rdOf ByteArray.empty x33 x35) x3).bind fun bt765 => (if bt765.2.2.2.2 = true then (impl_CuckooOf.l0 k x3 x33 x34 (wrap64 (x35 + 1)) bt765.1 bt765.2.1 bt765.2.2.1) else (some (0, ([] : List ByteArray), ([] : List ByteArray), false)))) else (none)) else (none)) else (some (x762000, x762001, x762002, true))
end
def impl_CuckooOf.f (k : Nat) (a0 : Int) (l1 : List ByteArray) (a2 : Int) (a3 : Int) : Option (Int × List ByteArray × List ByteArray × Bool) := (impl_NewCuckoo.f a0 a2).bind fun bt753 => (if bt753.2.2.2 = true then ((impl_AreKeys.f k l1).bind fun t762 => (if t762 = true then ((impl_in.f a3 0 40).bind fun t763 => (impl_CuckooOf.j0 k l1 a3 (!t763) bt753.1 bt753.2.1 bt753.2.2.1)) else (impl_CuckooOf.j0 k l1 a3 true bt753.1 bt753.2.1 bt753.2.2.1))) else (impl_CuckooOf.j0 k l1 a3 true bt753.1 bt753.2.1 bt753.2.2.1))
theorem impl_CuckooOf.calls (k : Nat) (a0 : Int) (A1 : Option Addr) (c1 : Nat) (l1 : List ByteArray) (a2 : Int) (a3 : Int) (r1 : Int) (r2 : List ByteArray) (r3 : List ByteArray) (r4 : Bool) (w : World) (hr1 : Kd.C Kd.string w A1 l1.length l1) (hc1 : l1.length ≤ c1) (h : impl_CuckooOf.f k a0 l1 a2 a3 = some (r1, r2, r3, r4)) :
  Calls Try.prog 54 #[.int .i64 a0, .slice A1 l1.length c1, .int .i64 a2, .int .i64 a3] w fun e w' => ∃ v1_ v2_ : Value, e = .returned (.tuple #[.agg #[.int .i64 r1, v1_, v2_], .bool r4]) ∧ Kd.R Kd.string 9 w' w.heap.size (fun k_ => some k_ ≠ (v2_ : Value).ownBlock) v1_ r2 ∧ Kd.R Kd.string 9 w' w.heap.size (fun k_ => some k_ ≠ (v1_ : Value).ownBlock) v2_ r3 ∧ Below w.heap.size w w' := by
 have hu51 := Try.underlying51; have HR1 := am hr1; have HC1 := am hc1; clear hr1 hc1; have HB := am (Below.refl w.heap.size w); have H : ((impl_NewCuckoo.f a0 a2).bind fun bt753 => (if bt753.2.2.2 = true then ((impl_AreKeys.f k l1).bind fun t762 => (if t762 = true then ((impl_in.f a3 0 40).bind fun t763 => (impl_CuckooOf.j0 k l1 a3 (!t763) bt753.1 bt753.2.1 bt753.2.2.1)) else (impl_CuckooOf.j0 k l1 a3 true bt753.1 bt753.2.1 bt753.2.2.1))) else (impl_CuckooOf.j0 k l1 a3 true bt753.1 bt753.2.1 bt753.2.2.1))) = some (r1, r2, r3, r4) := h; clear h; replace H := Option.bind_eq_some_iff.mp H; obtain ⟨⟨t753, t754, t757, t760⟩, A50, H⟩ := H; (try dsimp -simprocs only at H); have A5 := am A50; clear A50; have HC6 := am H; clear H
 go_enter Try.func54, Try.ntmps54
 go_upto_region 2 with (first | ((with_reducible refine gate_dst (N := 8) rfl ?_); refine bE 8 #[.int .i64 0, .slice none 0 0, .slice none 0 0] 51 ?_; intro gb752 hg w7 hbox hb; have n0_ := Bb HB hb; have n1_ := am (hbox); have n2_ := Gl HB hg; have n3_ := Gl HB hg; clear HB; revert n0_ n1_ n2_ n3_; intro HB BK752 GW752 GE752; clear hb hbox hg) | ((with_reducible refine gate_callee (f := 111) rfl ?_); refine gL (some 17) Try.func111 #[.int .i64 a0, .int .i64 a2] ?_; (with_reducible refine (impl_NewCuckoo.calls a0 a2 t753 t754 t757 t760 _ A5.out).mono ?_); rintro e w8 ⟨v755, v758, rfl, ho0, ho1, hb⟩; refine ⟨_, rfl, ?_⟩; have n0_ := Rm ho0 HB; have n1_ := Rm ho1 HB; have n2_ := Kb BK752 hb; have n3_ := Bc HB hb; clear BK752 HB; revert n0_ n1_ n2_ n3_; intro HO756 HO759 BK752 HB; (try clear hb); (try clear hb2); (try clear hk); (try clear hi); (try clear ho0); (try clear ho1)) | ((with_reducible refine gate_dst (N := 10) rfl ?_); refine bE 10 #[.int .i64 0, .slice none 0 0, .slice none 0 0] 51 ?_; intro gb761 hg w9 hbox hb; have n0_ := Rb HO756 hb; have n1_ := Rb HO759 hb; have n2_ := Kb BK752 hb; have n3_ := Bc HB hb; have n4_ := am (hbox); have n5_ := Gm HB hg; have n6_ := Gm HB hg; have n7_ := Nl BK752 hg; have n8_ := Ng BK752 hg; clear HO756 HO759 BK752 HB; revert n0_ n1_ n2_ n3_ n4_ n5_ n6_ n7_ n8_; intro HO756 HO759 BK752 HB BK761 GW761 GE761 NB752_761 NB761_752; clear hb hbox hg; have hnb10 := NB761_752.out; have hnc10 := NB752_761.out; obtain ⟨hcz11_0, hcz11_1, hcz11_2, hfz11_0, hfz11_1, hfz11_2⟩ := cf3 (w := w9) BK761; obtain ⟨Ao12, co12, eo12⟩ := Kd.R_slice HO756.out; subst eo12; obtain ⟨Ao13, co13, eo13⟩ := Kd.R_slice HO759.out; subst eo13))
 (try simp only [aP])
 go_cut [31] (fun v31 wc => ∃ (kq : Nat) (x31_5 : Bool), v31 = .bool x31_5 ∧ Aside0 (impl_CuckooOf.j0 kq l1 a3 x31_5 t753 t754 t757 = some (r1, r2, r3, r4)) ∧ Aside0 (kq ≤ k) ∧ Aside0 (Kd.R Kd.string 9 wc w.heap.size (fun k_ => some k_ ≠ ((.slice Ao13 t757.length co13) : Value).ownBlock) (.slice Ao12 t754.length co12) t754) ∧ Aside0 (Kd.R Kd.string 9 wc w.heap.size (fun k_ => some k_ ≠ ((.slice Ao12 t754.length co12) : Value).ownBlock) (.slice Ao13 t757.length co13) t757) ∧ Aside0 (wc.heap[gb752]? = some (.cells #[.int .i64 0, (.slice none 0 0), (.slice none 0 0)] 51 (0, 0))) ∧ Aside0 (wc.heap[gb761]? = some (.cells #[.int .i64 t753, (.slice Ao12 t754.length co12), (.slice Ao13 t757.length co13)] 51 (0, 0))) ∧ Aside0 (Below w.heap.size w wc))
 case first =>
  have H := HC6.out; clear HC6
  by_cases c14 : t760 = true
  ·subst c14
   rw [if_pos rfl] at H; replace H := Option.bind_eq_some_iff.mp H; obtain ⟨t762, A150, H⟩ := H; (try dsimp -simprocs only at H); have A15 := am A150; clear A150
   by_cases c16 : t762 = true
   ·subst c16
    rw [if_pos rfl] at H; replace H := Option.bind_eq_some_iff.mp H; obtain ⟨t763, A170, H⟩ := H; (try dsimp -simprocs only at H); have A17 := am A170; clear A170; have H' := am H; clear H
    go_wp2_with (first | (go_at_call 72; (with_reducible refine (impl_AreKeys.calls k _ _ l1 true _ ?side1 ?side2 A15.out).mono ?_); (case side1 => exact Kd.C_below HR1.out (Bq)); (case side2 => exact HC1.out); rintro e w' ⟨rfl, ⟨nd, rfl⟩⟩) | (go_at_call 112; (with_reducible refine (impl_in.calls a3 0 40 t763 _ A17.out).mono ?_); rintro e w' ⟨rfl, ⟨nd, rfl⟩⟩))
    go_meet
    case rel => exact ⟨_, (!t763), wZ, H', ⟨by first | omega | exact Nat.le_refl _⟩, ⟨Rz (Kd.R_mono (Kd.R_far (p := ⟨gb761, 2, none⟩) (Kd.R_far (p := ⟨gb761, 1, none⟩) (Kd.R_far (p := ⟨gb761, 0, none⟩) (Kd.R_types HO756.out BK761.out (by decide)) (fun _ hk => hk.2) (.int .i64 t753)) (fun _ hk => hk.2) (.slice Ao12 t754.length co12)) (fun _ hk => hk.2) (.slice Ao13 t757.length co13)) (fun _ hk => hk.1))⟩, ⟨Rz (Kd.R_mono (Kd.R_far (p := ⟨gb761, 2, none⟩) (Kd.R_far (p := ⟨gb761, 1, none⟩) (Kd.R_far (p := ⟨gb761, 0, none⟩) (Kd.R_types HO759.out BK761.out (by decide)) (fun _ hk => hk.2) (.int .i64 t753)) (fun _ hk => hk.2) (.slice Ao12 t754.length co12)) (fun _ hk => hk.2) (.slice Ao13 t757.length co13)) (fun _ hk => hk.1))⟩, ⟨by (with_reducible repeat (first | refine blk_drewN ?_ _ | refine blk_drew ?_ | refine blk_alloc ?_ _)); refine blk_far ?_ NB752_761.out _; (with_reducible repeat (first | refine blk_drewN ?_ _ | refine blk_drew ?_ | refine blk_alloc ?_ _)); refine blk_far ?_ NB752_761.out _; (with_reducible repeat (first | refine blk_drewN ?_ _ | refine blk_drew ?_ | refine blk_alloc ?_ _)); refine blk_far ?_ NB752_761.out _; (with_reducible repeat (first | refine blk_drewN ?_ _ | refine blk_drew ?_ | refine blk_alloc ?_ _)); exact BK752.out⟩, ⟨by (with_reducible repeat (first | refine blk_drewN ?_ _ | refine blk_drew ?_ | refine blk_alloc ?_ _)); refine blk_put (cs := #[.int .i64 t753, .slice Ao12 t754.length co12, .slice none 0 0]) ?_ 2 _ rfl; (with_reducible repeat (first | refine blk_drewN ?_ _ | refine blk_drew ?_ | refine blk_alloc ?_ _)); refine blk_put (cs := #[.int .i64 t753, .slice none 0 0, .slice none 0 0]) ?_ 1 _ rfl; (with_reducible repeat (first | refine blk_drewN ?_ _ | refine blk_drew ?_ | refine blk_alloc ?_ _)); refine blk_put (cs := #[.int .i64 0, .slice none 0 0, .slice none 0 0]) ?_ 0 _ rfl; (with_reducible repeat (first | refine blk_drewN ?_ _ | refine blk_drew ?_ | refine blk_alloc ?_ _)); exact BK761.out⟩, ⟨Bq⟩⟩
   ·replace c16 := Bool.eq_false_iff.mpr c16
    subst c16
    rw [if_neg (show ¬ (false = true) by decide)] at H; have H' := am H; clear H
    go_wp2_with (first | (go_at_call 72; (with_reducible refine (impl_AreKeys.calls k _ _ l1 false _ ?side1 ?side2 A15.out).mono ?_); (case side1 => exact Kd.C_below HR1.out (Bq)); (case side2 => exact HC1.out); rintro e w' ⟨rfl, ⟨nd, rfl⟩⟩))
    go_meet
    case rel => exact ⟨_, (true), wZ, H', ⟨by first | omega | exact Nat.le_refl _⟩, ⟨Rz (Kd.R_mono (Kd.R_far (p := ⟨gb761, 2, none⟩) (Kd.R_far (p := ⟨gb761, 1, none⟩) (Kd.R_far (p := ⟨gb761, 0, none⟩) (Kd.R_types HO756.out BK761.out (by decide)) (fun _ hk => hk.2) (.int .i64 t753)) (fun _ hk => hk.2) (.slice Ao12 t754.length co12)) (fun _ hk => hk.2) (.slice Ao13 t757.length co13)) (fun _ hk => hk.1))⟩, ⟨Rz (Kd.R_mono (Kd.R_far (p := ⟨gb761, 2, none⟩) (Kd.R_far (p := ⟨gb761, 1, none⟩) (Kd.R_far (p := ⟨gb761, 0, none⟩) (Kd.R_types HO759.out BK761.out (by decide)) (fun _ hk => hk.2) (.int .i64 t753)) (fun _ hk => hk.2) (.slice Ao12 t754.length co12)) (fun _ hk => hk.2) (.slice Ao13 t757.length co13)) (fun _ hk => hk.1))⟩, ⟨by (with_reducible repeat (first | refine blk_drewN ?_ _ | refine blk_drew ?_ | refine blk_alloc ?_ _)); refine blk_far ?_ NB752_761.out _; (with_reducible repeat (first | refine blk_drewN ?_ _ | refine blk_drew ?_ | refine blk_alloc ?_ _)); refine blk_far ?_ NB752_761.out _; (with_reducible repeat (first | refine blk_drewN ?_ _ | refine blk_drew ?_ | refine blk_alloc ?_ _)); refine blk_far ?_ NB752_761.out _; (with_reducible repeat (first | refine blk_drewN ?_ _ | refine blk_drew ?_ | refine blk_alloc ?_ _)); exact BK752.out⟩, ⟨by (with_reducible repeat (first | refine blk_drewN ?_ _ | refine blk_drew ?_ | refine blk_alloc ?_ _)); refine blk_put (cs := #[.int .i64 t753, .slice Ao12 t754.length co12, .slice none 0 0]) ?_ 2 _ rfl; (with_reducible repeat (first | refine blk_drewN ?_ _ | refine blk_drew ?_ | refine blk_alloc ?_ _)); refine blk_put (cs := #[.int .i64 t753, .slice none 0 0, .slice none 0 0]) ?_ 1 _ rfl; (with_reducible repeat (first | refine blk_drewN ?_ _ | refine blk_drew ?_ | refine blk_alloc ?_ _)); refine blk_put (cs := #[.int .i64 0, .slice none 0 0, .slice none 0 0]) ?_ 0 _ rfl; (with_reducible repeat (first | refine blk_drewN ?_ _ | refine blk_drew ?_ | refine blk_alloc ?_ _)); exact BK761.out⟩, ⟨Bq⟩⟩
  ·replace c14 := Bool.eq_false_iff.mpr c14
   subst c14
   rw [if_neg (show ¬ (false = true) by decide)] at H; have H' := am H; clear H
   go_wp2
   go_meet
   case rel => exact ⟨_, (true), wZ, H', ⟨by first | omega | exact Nat.le_refl _⟩, ⟨Rz (Kd.R_mono (Kd.R_far (p := ⟨gb761, 2, none⟩) (Kd.R_far (p := ⟨gb761, 1, none⟩) (Kd.R_far (p := ⟨gb761, 0, none⟩) (Kd.R_types HO756.out BK761.out (by decide)) (fun _ hk => hk.2) (.int .i64 t753)) (fun _ hk => hk.2) (.slice Ao12 t754.length co12)) (fun _ hk => hk.2) (.slice Ao13 t757.length co13)) (fun _ hk => hk.1))⟩, ⟨Rz (Kd.R_mono (Kd.R_far (p := ⟨gb761, 2, none⟩) (Kd.R_far (p := ⟨gb761, 1, none⟩) (Kd.R_far (p := ⟨gb761, 0, none⟩) (Kd.R_types HO759.out BK761.out (by decide)) (fun _ hk => hk.2) (.int .i64 t753)) (fun _ hk => hk.2) (.slice Ao12 t754.length co12)) (fun _ hk => hk.2) (.slice Ao13 t757.length co13)) (fun _ hk => hk.1))⟩, ⟨by (with_reducible repeat (first | refine blk_drewN ?_ _ | refine blk_drew ?_ | refine blk_alloc ?_ _)); refine blk_far ?_ NB752_761.out _; (with_reducible repeat (first | refine blk_drewN ?_ _ | refine blk_drew ?_ | refine blk_alloc ?_ _)); refine blk_far ?_ NB752_761.out _; (with_reducible repeat (first | refine blk_drewN ?_ _ | refine blk_drew ?_ | refine blk_alloc ?_ _)); refine blk_far ?_ NB752_761.out _; (with_reducible repeat (first | refine blk_drewN ?_ _ | refine blk_drew ?_ | refine blk_alloc ?_ _)); exact BK752.out⟩, ⟨by (with_reducible repeat (first | refine blk_drewN ?_ _ | refine blk_drew ?_ | refine blk_alloc ?_ _)); refine blk_put (cs := #[.int .i64 t753, .slice Ao12 t754.length co12, .slice none 0 0]) ?_ 2 _ rfl; (with_reducible repeat (first | refine blk_drewN ?_ _ | refine blk_drew ?_ | refine blk_alloc ?_ _)); refine blk_put (cs := #[.int .i64 t753, .slice none 0 0, .slice none 0 0]) ?_ 1 _ rfl; (with_reducible repeat (first | refine blk_drewN ?_ _ | refine blk_drew ?_ | refine blk_alloc ?_ _)); refine blk_put (cs := #[.int .i64 0, .slice none 0 0, .slice none 0 0]) ?_ 0 _ rfl; (with_reducible repeat (first | refine blk_drewN ?_ _ | refine blk_drew ?_ | refine blk_alloc ?_ _)); exact BK761.out⟩, ⟨Bq⟩⟩
 case rest =>
  clear HC6
  try clear c1
  try clear p2
  try clear c5
  try clear c10
  try clear c11
  try clear c14
  try clear c16
  try clear hcz11_0
  try clear hcz11_1
  try clear hcz11_2
  try clear hfz11_0
  try clear hfz11_1
  try clear hfz11_2
  obtain ⟨kq, x31_5, rfl, HA, HJ5, HO_762001, HO_762002, BK752, BK761, HB⟩ := hcut; cases kq with
  | zero => exact absurd HA.out (by simp [impl_CuckooOf.j0])
  | succ kj5 =>
   have H := HA.out; clear HA
   simp only [impl_CuckooOf.j0] at H
   by_cases c18 : x31_5 = true
   ·subst c18
    rw [if_pos rfl] at H
    simp only [Option.some.injEq, Prod.mk.injEq] at H
    obtain ⟨rfl, rfl, rfl, rfl⟩ := H; have hnb19 := NB752_761.out; have hnc19 := NB761_752.out; obtain ⟨hcz20_0, hcz20_1, hcz20_2, hfz20_0, hfz20_1, hfz20_2⟩ := cf3 (w := wc) BK752
    go_wp2
    refine bodyPost_ret (results_ct rfl _ _ gb752 51 #[.int .i64 0, .slice none 0 0, .slice none 0 0] (0, 0) _ rfl (by (with_reducible repeat (first | refine blk_drewN ?_ _ | refine blk_drew ?_ | refine blk_alloc ?_ _)); refine blk_put (cs := #[.int .i64 0, .slice none 0 0, .slice none 0 0]) ?_ 2 _ rfl; (with_reducible repeat (first | refine blk_drewN ?_ _ | refine blk_drew ?_ | refine blk_alloc ?_ _)); refine blk_put (cs := #[.int .i64 0, .slice none 0 0, .slice none 0 0]) ?_ 1 _ rfl; (with_reducible repeat (first | refine blk_drewN ?_ _ | refine blk_drew ?_ | refine blk_alloc ?_ _)); refine blk_put (cs := #[.int .i64 0, .slice none 0 0, .slice none 0 0]) ?_ 0 _ rfl; exact Kz BK752.out) Try.underlying51 rfl (by kernel_rfl)) rfl ?_; exact ⟨_, _, eZ, nZ, nZ, Bq⟩
   ·replace c18 := Bool.eq_false_iff.mpr c18
    subst c18
    rw [if_neg (show ¬ (false = true) by decide)] at H; have H' := am H; clear H
    go_wp2
    go_loopg [35] kj5 (fun kq v35 w' => ∃ (x35_2 : Int) (x753000_2 : Int) (x762000_2 : Int) (x762001_2 : List ByteArray) (x762002_2 : List ByteArray) (u762001 : Value) (u762002 : Value), v35 = .int .i64 x35_2 ∧ Aside0 (impl_CuckooOf.l0 kq a3 l1 (l1.length : Int) x35_2 x762000_2 x762001_2 x762002_2 = some (r1, r2, r3, r4)) ∧ Aside0 (kq ≤ kj5) ∧ Aside0 (Kd.R Kd.string 9 w' w.heap.size (fun k_ => some k_ ≠ (u762002 : Value).ownBlock) u762001 x762001_2) ∧ Aside0 (Kd.R Kd.string 9 w' w.heap.size (fun k_ => some k_ ≠ (u762001 : Value).ownBlock) u762002 x762002_2) ∧ Aside0 (w'.heap[gb752]? = some (.cells #[.int .i64 x753000_2, (.slice none 0 0), (.slice none 0 0)] 51 (0, 0))) ∧ Aside0 (w'.heap[gb761]? = some (.cells #[.int .i64 x762000_2, u762001, u762002] 51 (0, 0))) ∧ Aside0 (Below w.heap.size w w'))
    case atStart => exact ⟨(0), (0), (t753), (t754), (t757), (.slice Ao12 t754.length co12), (.slice Ao13 t757.length co13), wZ, H', ⟨Nat.le_refl _⟩, ⟨Rz HO_762001.out⟩, ⟨Rz HO_762002.out⟩, ⟨Kz BK752.out⟩, ⟨Kz BK761.out⟩, ⟨Bq⟩⟩
    case round =>
     clear H'
     try clear c1
     try clear p2
     try clear c5
     try clear c10
     try clear c11
     try clear c14
     try clear c16
     try clear c18
     try clear c19
     try clear hcz11_0
     try clear hcz11_1
     try clear hcz11_2
     try clear hcz20_0
     try clear hcz20_1
     try clear hcz20_2
     try clear hfz11_0
     try clear hfz11_1
     try clear hfz11_2
     try clear hfz20_0
     try clear hfz20_1
     try clear hfz20_2
     try clear p2
     obtain ⟨x35_2, x753000_2, x762000_2, x762001_2, x762002_2, u762001, u762002, rfl, HA, HK2, HO_762001, HO_762002, BK752, BK761, HB⟩ := hrel; cases gk with
     | zero => exact absurd HA.out (by simp [impl_CuckooOf.l0])
     | succ k2 =>
      have H := HA.out; clear HA
      simp only [impl_CuckooOf.l0] at H
      by_cases c21 : x35_2 < (l1.length : Int)
      ·rw [if_pos c21] at H
       have c21b0 : decide (x35_2 < (l1.length : Int)) = true := decide_eq_true c21; clear c21
       by_cases c22 : 0 ≤ x35_2
       ·rw [if_pos c22] at H
        have c22b0 : decide (0 ≤ x35_2) = true := decide_eq_true c22; clear c22
        by_cases c23 : x35_2 < (l1.length : Int)
        ·rw [if_pos c23] at H
         have c23b0 : decide (x35_2 < (l1.length : Int)) = true := decide_eq_true c23; clear c23; replace H := Option.bind_eq_some_iff.mp H; obtain ⟨⟨t765, t766, t769, t772, t773⟩, A240, H⟩ := H; (try dsimp -simprocs only at H); have A24 := am A240; clear A240
         by_cases c25 : t773 = true
         ·subst c25
          rw [if_pos rfl] at H; have H' := am H; clear H; have p764 : 0 ≤ (x35_2 : Int) := dT; have q764 : x35_2 < (l1.length : Int) := dT; obtain ⟨ad764, e764, hx764_0⟩ := Kd.at_string HR1.out x35_2 p764 q764; cases e764; replace hx764_0 := (HB.out.cell (World.block_lt_of_cell? w _ hx764_0)).trans hx764_0; replace p764 := eq_true p764; replace q764 := eq_true q764; have hnb26 := NB761_752.out; have hnc26 := NB752_761.out; obtain ⟨hcz27_0, hcz27_1, hcz27_2, hfz27_0, hfz27_1, hfz27_2⟩ := cf3 (w := wr) BK761; obtain ⟨Ao28, co28, eo28⟩ := Kd.R_slice HO_762001.out; subst eo28; obtain ⟨Ao29, co29, eo29⟩ := Kd.R_slice HO_762002.out; subst eo29
          go_wp2_with (first | ((with_reducible refine gate_callee (f := 57) rfl ?_); refine gL (some 43) Try.func57 #[.agg #[.int .i64 x762000_2, .slice Ao28 x762001_2.length co28, .slice Ao29 x762002_2.length co29], .string (rdOf ByteArray.empty l1 x35_2), .int .i64 a3] ?_; (with_reducible refine (impl_CuckooInsert.calls k2 x762000_2 _ _ x762001_2 _ _ x762002_2 (rdOf ByteArray.empty l1 x35_2) a3 t765 t766 t769 t772 true _ ?side1 ?side2 ?side3 ?side4 A24.out).mono ?_); (case side1 => exact Cz ((Kd.R_reads' HO_762001.out).2.2)); (case side2 => exact (Kd.R_reads' HO_762001.out).2.1); (case side3 => exact Cz ((Kd.R_reads' HO_762002.out).2.2)); (case side4 => exact (Kd.R_reads' HO_762002.out).2.1); rintro e w30 ⟨v767, v770, rfl, ho0, ho1, hb⟩; refine ⟨_, rfl, ?_⟩; have n0_ := am (Kd.R_mono (Kd.R_told (Kd.R_told (Kd.R_old (Rz HO_762001.out) hb) (Kd.R_base ho0)) (Kd.R_base ho1)) (fun _ h_ => h_.1)); have n1_ := am (Kd.R_mono (Kd.R_told (Kd.R_told (Kd.R_old (Rz HO_762002.out) hb) (Kd.R_base ho0)) (Kd.R_base ho1)) (fun _ h_ => h_.1)); have n2_ := Rm (Kd.R_new' (Kd.R_new' ho0 (Kd.R_lt (Rz HO_762001.out))) (Kd.R_lt (Rz HO_762002.out))) HB; have n3_ := Rm (Kd.R_new' (Kd.R_new' ho1 (Kd.R_lt (Rz HO_762001.out))) (Kd.R_lt (Rz HO_762002.out))) HB; have n4_ := Kb BK752 hb; have n5_ := Kb BK761 hb; have n6_ := Bc HB hb; clear HO_762001 HO_762002 BK752 BK761 HB; revert n0_ n1_ n2_ n3_ n4_ n5_ n6_; intro HO_762001 HO_762002 HO768 HO771 BK752 BK761 HB; (try clear hb); (try clear hb2); (try clear hk); (try clear hi); (try clear ho0); (try clear ho1); obtain ⟨hcz31_0, hcz31_1, hcz31_2, hfz31_0, hfz31_1, hfz31_2⟩ := cf3 (w := w30) BK761; obtain ⟨Ao32, co32, eo32⟩ := Kd.R_slice HO768.out; subst eo32; obtain ⟨Ao33, co33, eo33⟩ := Kd.R_slice HO771.out; subst eo33))
          go_roundg k2
          case measure => have := HJ5.out; have := HK2.out; omega
          case rel => exact ⟨(wrap64 (x35_2 + 1)), (x753000_2), (t765), (t766), (t769), (.slice Ao32 t766.length co32), (.slice Ao33 t769.length co33), wZ, H', ⟨by have := HJ5.out; have := HK2.out; omega⟩, ⟨Rz (Kd.R_mono (Kd.R_far (p := ⟨gb761, 2, none⟩) (Kd.R_far (p := ⟨gb761, 1, none⟩) (Kd.R_far (p := ⟨gb761, 0, none⟩) (Kd.R_types HO768.out BK761.out (by decide)) (fun _ hk => hk.2) (.int .i64 t765)) (fun _ hk => hk.2) (.slice Ao32 t766.length co32)) (fun _ hk => hk.2) (.slice Ao33 t769.length co33)) (fun _ hk => hk.1.1.1))⟩, ⟨Rz (Kd.R_mono (Kd.R_far (p := ⟨gb761, 2, none⟩) (Kd.R_far (p := ⟨gb761, 1, none⟩) (Kd.R_far (p := ⟨gb761, 0, none⟩) (Kd.R_types HO771.out BK761.out (by decide)) (fun _ hk => hk.2) (.int .i64 t765)) (fun _ hk => hk.2) (.slice Ao32 t766.length co32)) (fun _ hk => hk.2) (.slice Ao33 t769.length co33)) (fun _ hk => hk.1.1.1))⟩, ⟨by (with_reducible repeat (first | refine blk_drewN ?_ _ | refine blk_drew ?_ | refine blk_alloc ?_ _)); refine blk_far ?_ NB752_761.out _; (with_reducible repeat (first | refine blk_drewN ?_ _ | refine blk_drew ?_ | refine blk_alloc ?_ _)); refine blk_far ?_ NB752_761.out _; (with_reducible repeat (first | refine blk_drewN ?_ _ | refine blk_drew ?_ | refine blk_alloc ?_ _)); refine blk_far ?_ NB752_761.out _; (with_reducible repeat (first | refine blk_drewN ?_ _ | refine blk_drew ?_ | refine blk_alloc ?_ _)); exact BK752.out⟩, ⟨by (with_reducible repeat (first | refine blk_drewN ?_ _ | refine blk_drew ?_ | refine blk_alloc ?_ _)); refine blk_put (cs := #[.int .i64 t765, .slice Ao32 t766.length co32, .slice Ao29 x762002_2.length co29]) ?_ 2 _ rfl; (with_reducible repeat (first | refine blk_drewN ?_ _ | refine blk_drew ?_ | refine blk_alloc ?_ _)); refine blk_put (cs := #[.int .i64 t765, .slice Ao28 x762001_2.length co28, .slice Ao29 x762002_2.length co29]) ?_ 1 _ rfl; (with_reducible repeat (first | refine blk_drewN ?_ _ | refine blk_drew ?_ | refine blk_alloc ?_ _)); refine blk_put (cs := #[.int .i64 x762000_2, .slice Ao28 x762001_2.length co28, .slice Ao29 x762002_2.length co29]) ?_ 0 _ rfl; (with_reducible repeat (first | refine blk_drewN ?_ _ | refine blk_drew ?_ | refine blk_alloc ?_ _)); exact BK761.out⟩, ⟨Bq⟩⟩
         ·replace c25 := Bool.eq_false_iff.mpr c25
          subst c25
          rw [if_neg (show ¬ (false = true) by decide)] at H
          simp only [Option.some.injEq, Prod.mk.injEq] at H
          obtain ⟨rfl, rfl, rfl, rfl⟩ := H; have p764 : 0 ≤ (x35_2 : Int) := dT; have q764 : x35_2 < (l1.length : Int) := dT; obtain ⟨ad764, e764, hx764_0⟩ := Kd.at_string HR1.out x35_2 p764 q764; cases e764; replace hx764_0 := (HB.out.cell (World.block_lt_of_cell? w _ hx764_0)).trans hx764_0; replace p764 := eq_true p764; replace q764 := eq_true q764; have hnb34 := NB761_752.out; have hnc34 := NB752_761.out; obtain ⟨hcz35_0, hcz35_1, hcz35_2, hfz35_0, hfz35_1, hfz35_2⟩ := cf3 (w := wr) BK761; obtain ⟨Ao36, co36, eo36⟩ := Kd.R_slice HO_762001.out; subst eo36; obtain ⟨Ao37, co37, eo37⟩ := Kd.R_slice HO_762002.out; subst eo37
          go_wp2_with (first | ((with_reducible refine gate_callee (f := 57) rfl ?_); refine gL (some 43) Try.func57 #[.agg #[.int .i64 x762000_2, .slice Ao36 x762001_2.length co36, .slice Ao37 x762002_2.length co37], .string (rdOf ByteArray.empty l1 x35_2), .int .i64 a3] ?_; (with_reducible refine (impl_CuckooInsert.calls k2 x762000_2 _ _ x762001_2 _ _ x762002_2 (rdOf ByteArray.empty l1 x35_2) a3 t765 t766 t769 t772 false _ ?side1 ?side2 ?side3 ?side4 A24.out).mono ?_); (case side1 => exact Cz ((Kd.R_reads' HO_762001.out).2.2)); (case side2 => exact (Kd.R_reads' HO_762001.out).2.1); (case side3 => exact Cz ((Kd.R_reads' HO_762002.out).2.2)); (case side4 => exact (Kd.R_reads' HO_762002.out).2.1); rintro e w38 ⟨v767, v770, rfl, ho0, ho1, hb⟩; refine ⟨_, rfl, ?_⟩; have n0_ := am (Kd.R_mono (Kd.R_told (Kd.R_told (Kd.R_old (Rz HO_762001.out) hb) (Kd.R_base ho0)) (Kd.R_base ho1)) (fun _ h_ => h_.1)); have n1_ := am (Kd.R_mono (Kd.R_told (Kd.R_told (Kd.R_old (Rz HO_762002.out) hb) (Kd.R_base ho0)) (Kd.R_base ho1)) (fun _ h_ => h_.1)); have n2_ := Rm (Kd.R_new' (Kd.R_new' ho0 (Kd.R_lt (Rz HO_762001.out))) (Kd.R_lt (Rz HO_762002.out))) HB; have n3_ := Rm (Kd.R_new' (Kd.R_new' ho1 (Kd.R_lt (Rz HO_762001.out))) (Kd.R_lt (Rz HO_762002.out))) HB; have n4_ := Kb BK752 hb; have n5_ := Kb BK761 hb; have n6_ := Bc HB hb; clear HO_762001 HO_762002 BK752 BK761 HB; revert n0_ n1_ n2_ n3_ n4_ n5_ n6_; intro HO_762001 HO_762002 HO768 HO771 BK752 BK761 HB; (try clear hb); (try clear hb2); (try clear hk); (try clear hi); (try clear ho0); (try clear ho1); obtain ⟨hcz39_0, hcz39_1, hcz39_2, hfz39_0, hfz39_1, hfz39_2⟩ := cf3 (w := w38) BK761; obtain ⟨Ao40, co40, eo40⟩ := Kd.R_slice HO768.out; subst eo40; obtain ⟨Ao41, co41, eo41⟩ := Kd.R_slice HO771.out; subst eo41; obtain ⟨hcz42_0, hcz42_1, hcz42_2, hfz42_0, hfz42_1, hfz42_2⟩ := cf3 (w := w38) BK752))
          refine bodyPost_ret (results_ct rfl _ _ gb752 51 #[.int .i64 0, .slice none 0 0, .slice none 0 0] (0, 0) _ rfl (by (with_reducible repeat (first | refine blk_drewN ?_ _ | refine blk_drew ?_ | refine blk_alloc ?_ _)); refine blk_put (cs := #[.int .i64 0, .slice none 0 0, .slice none 0 0]) ?_ 2 _ rfl; (with_reducible repeat (first | refine blk_drewN ?_ _ | refine blk_drew ?_ | refine blk_alloc ?_ _)); refine blk_put (cs := #[.int .i64 0, .slice none 0 0, .slice none 0 0]) ?_ 1 _ rfl; (with_reducible repeat (first | refine blk_drewN ?_ _ | refine blk_drew ?_ | refine blk_alloc ?_ _)); refine blk_put (cs := #[.int .i64 x753000_2, .slice none 0 0, .slice none 0 0]) ?_ 0 _ rfl; (with_reducible repeat (first | refine blk_drewN ?_ _ | refine blk_drew ?_ | refine blk_alloc ?_ _)); refine blk_far ?_ NB752_761.out _; (with_reducible repeat (first | refine blk_drewN ?_ _ | refine blk_drew ?_ | refine blk_alloc ?_ _)); refine blk_far ?_ NB752_761.out _; (with_reducible repeat (first | refine blk_drewN ?_ _ | refine blk_drew ?_ | refine blk_alloc ?_ _)); refine blk_far ?_ NB752_761.out _; exact Kz BK752.out) Try.underlying51 rfl (by kernel_rfl)) rfl ?_; exact ⟨_, _, eZ, nZ, nZ, Bq⟩
        ·rw [if_neg c23] at H
         exact absurd H (by simp)
       ·rw [if_neg c22] at H
        exact absurd H (by simp)
      ·rw [if_neg c21] at H
       have c21b0 : decide (x35_2 < (l1.length : Int)) = false := decide_eq_false c21; clear c21
       simp only [Option.some.injEq, Prod.mk.injEq] at H
       obtain ⟨rfl, rfl, rfl, rfl⟩ := H; have hnb43 := NB761_752.out; have hnc43 := NB752_761.out; obtain ⟨hcz44_0, hcz44_1, hcz44_2, hfz44_0, hfz44_1, hfz44_2⟩ := cf3 (w := wr) BK761; obtain ⟨hcz45_0, hcz45_1, hcz45_2, hfz45_0, hfz45_1, hfz45_2⟩ := cf3 (w := wr) BK752; obtain ⟨Ao46, co46, eo46⟩ := Kd.R_slice HO_762001.out; subst eo46; obtain ⟨Ao47, co47, eo47⟩ := Kd.R_slice HO_762002.out; subst eo47
       go_wp2
       refine bodyPost_ret (results_ct rfl _ _ gb752 51 #[.int .i64 x762000_2, .slice Ao46 x762001_2.length co46, .slice Ao47 x762002_2.length co47] (0, 0) _ rfl (by (with_reducible repeat (first | refine blk_drewN ?_ _ | refine blk_drew ?_ | refine blk_alloc ?_ _)); refine blk_put (cs := #[.int .i64 x762000_2, .slice Ao46 x762001_2.length co46, .slice none 0 0]) ?_ 2 _ rfl; (with_reducible repeat (first | refine blk_drewN ?_ _ | refine blk_drew ?_ | refine blk_alloc ?_ _)); refine blk_put (cs := #[.int .i64 x762000_2, .slice none 0 0, .slice none 0 0]) ?_ 1 _ rfl; (with_reducible repeat (first | refine blk_drewN ?_ _ | refine blk_drew ?_ | refine blk_alloc ?_ _)); refine blk_put (cs := #[.int .i64 x753000_2, .slice none 0 0, .slice none 0 0]) ?_ 0 _ rfl; exact Kz BK752.out) Try.underlying51 rfl (by kernel_rfl)) rfl ?_; exact ⟨_, _, eZ, Rz (Kd.R_mono (Kd.R_far (p := ⟨gb752, 2, none⟩) (Kd.R_far (p := ⟨gb752, 1, none⟩) (Kd.R_far (p := ⟨gb752, 0, none⟩) (Kd.R_types HO_762001.out BK752.out (by decide)) (fun _ hk => hk.2) (.int .i64 x762000_2)) (fun _ hk => hk.2) (.slice Ao46 x762001_2.length co46)) (fun _ hk => hk.2) (.slice Ao47 x762002_2.length co47)) (fun _ hk => hk.1)), Rz (Kd.R_mono (Kd.R_far (p := ⟨gb752, 2, none⟩) (Kd.R_far (p := ⟨gb752, 1, none⟩) (Kd.R_far (p := ⟨gb752, 0, none⟩) (Kd.R_types HO_762002.out BK752.out (by decide)) (fun _ hk => hk.2) (.int .i64 x762000_2)) (fun _ hk => hk.2) (.slice Ao46 x762001_2.length co46)) (fun _ hk => hk.2) (.slice Ao47 x762002_2.length co47)) (fun _ hk => hk.1)), Bq⟩

def spec_cuKeyed.f (k : Nat) (a0 : Int) (l1 : List ByteArray) (a2 : Int) : Option (Bool) := (spec_cuSize.f a0 a2).bind fun t774 => (if t774 = true then ((spec_biKeys.f k l1).bind fun t775 => (some t775)) else (some false))
theorem spec_cuKeyed.calls (k : Nat) (a0 : Int) (A1 : Option Addr) (c1 : Nat) (l1 : List ByteArray) (a2 : Int) (r : Bool) (w : World) (hr1 : Kd.C Kd.string w A1 l1.length l1) (hc1 : l1.length ≤ c1) (h : spec_cuKeyed.f k a0 l1 a2 = some r) :
  Calls Try.prog 62 #[.int .i64 a0, .slice A1 l1.length c1, .int .i64 a2] w fun e w' => e = .returned (.bool r) ∧ Drawn0 w w' := by
 have HR1 := am hr1; have HC1 := am hc1; clear hr1 hc1; have H : ((spec_cuSize.f a0 a2).bind fun t774 => (if t774 = true then ((spec_biKeys.f k l1).bind fun t775 => (some t775)) else (some false))) = some r := h; clear h; replace H := Option.bind_eq_some_iff.mp H; obtain ⟨t774, A40, H⟩ := H; (try dsimp -simprocs only at H); have A4 := am A40; clear A40
 by_cases c5 : t774 = true
 ·subst c5
  rw [if_pos rfl] at H; replace H := Option.bind_eq_some_iff.mp H; obtain ⟨t775, A60, H⟩ := H; (try dsimp -simprocs only at H); have A6 := am A60; clear A60; obtain rfl := Option.some.inj H
  go_enter Try.func62, Try.ntmps62
  go_wp2_with (first | ((with_reducible refine gate_callee (f := 122) rfl ?_); refine gL (some 9) Try.func122 #[.int .i64 a0, .int .i64 a2] ?_; (with_reducible refine (spec_cuSize.calls a0 a2 true _ A4.out).mono ?_); rintro e w' ⟨rfl, ⟨nd, rfl⟩⟩; refine ⟨_, rfl, ?_⟩) | (go_at_call 123; (with_reducible refine (spec_biKeys.calls k _ _ l1 t775 _ ?side1 ?side2 A6.out).mono ?_); (case side1 => exact Cz HR1.out); (case side2 => exact HC1.out); rintro e w' ⟨rfl, ⟨nd, rfl⟩⟩))
  go_ret
  exact ⟨by first | rfl | (simp; done) | (simp [*]; done), by repeat (first | exact Drawn0.refl _ | apply Drawn0.step)⟩
 ·replace c5 := Bool.eq_false_iff.mpr c5
  subst c5
  rw [if_neg (show ¬ (false = true) by decide)] at H; obtain rfl := Option.some.inj H
  go_enter Try.func62, Try.ntmps62
  go_wp2_with (first | ((with_reducible refine gate_callee (f := 122) rfl ?_); refine gL (some 9) Try.func122 #[.int .i64 a0, .int .i64 a2] ?_; (with_reducible refine (spec_cuSize.calls a0 a2 false _ A4.out).mono ?_); rintro e w' ⟨rfl, ⟨nd, rfl⟩⟩; refine ⟨_, rfl, ?_⟩))
  go_ret
  exact ⟨by first | rfl | (simp; done) | (simp [*]; done), by repeat (first | exact Drawn0.refl _ | apply Drawn0.step)⟩

def spec_CuckooOf.f (k : Nat) (a0 : Int) (l1 : List ByteArray) (a2 : Int) (a3 : Int) : Option (Int × List ByteArray × List ByteArray × Bool) := (spec_cuKeyed.f k a0 l1 a2).bind fun t778 => (if t778 = true then ((spec_cuMoves.f a3).bind fun t779 => (if t779 = true then ((spec_cuOf.f k a0 l1 a2 a3).bind fun bt780 => (some (bt780.1, bt780.2.1, bt780.2.2.1, bt780.2.2.2))) else (some (0, ([] : List ByteArray), ([] : List ByteArray), false)))) else (some (0, ([] : List ByteArray), ([] : List ByteArray), false)))
theorem spec_CuckooOf.calls (k : Nat) (a0 : Int) (A1 : Option Addr) (c1 : Nat) (l1 : List ByteArray) (a2 : Int) (a3 : Int) (r1 : Int) (r2 : List ByteArray) (r3 : List ByteArray) (r4 : Bool) (w : World) (hr1 : Kd.C Kd.string w A1 l1.length l1) (hc1 : l1.length ≤ c1) (h : spec_CuckooOf.f k a0 l1 a2 a3 = some (r1, r2, r3, r4)) :
  Calls Try.prog 55 #[.int .i64 a0, .slice A1 l1.length c1, .int .i64 a2, .int .i64 a3] w fun e w' => ∃ v1_ v2_ : Value, e = .returned (.tuple #[.agg #[.int .i64 r1, v1_, v2_], .bool r4]) ∧ Kd.R Kd.string 9 w' w.heap.size (fun k_ => some k_ ≠ (v2_ : Value).ownBlock) v1_ r2 ∧ Kd.R Kd.string 9 w' w.heap.size (fun k_ => some k_ ≠ (v1_ : Value).ownBlock) v2_ r3 ∧ Below w.heap.size w w' := by
 have hu51 := Try.underlying51; have HR1 := am hr1; have HC1 := am hc1; clear hr1 hc1; have HB := am (Below.refl w.heap.size w); have H : ((spec_cuKeyed.f k a0 l1 a2).bind fun t778 => (if t778 = true then ((spec_cuMoves.f a3).bind fun t779 => (if t779 = true then ((spec_cuOf.f k a0 l1 a2 a3).bind fun bt780 => (some (bt780.1, bt780.2.1, bt780.2.2.1, bt780.2.2.2))) else (some (0, ([] : List ByteArray), ([] : List ByteArray), false)))) else (some (0, ([] : List ByteArray), ([] : List ByteArray), false)))) = some (r1, r2, r3, r4) := h; clear h; replace H := Option.bind_eq_some_iff.mp H; obtain ⟨t778, A50, H⟩ := H; (try dsimp -simprocs only at H); have A5 := am A50; clear A50
 by_cases c6 : t778 = true
 ·subst c6
  rw [if_pos rfl] at H; replace H := Option.bind_eq_some_iff.mp H; obtain ⟨t779, A70, H⟩ := H; (try dsimp -simprocs only at H); have A7 := am A70; clear A70
  by_cases c8 : t779 = true
  ·subst c8
   rw [if_pos rfl] at H; replace H := Option.bind_eq_some_iff.mp H; obtain ⟨⟨t780, t781, t784, t787⟩, A90, H⟩ := H; (try dsimp -simprocs only at H); have A9 := am A90; clear A90
   simp only [Option.some.injEq, Prod.mk.injEq] at H
   obtain ⟨rfl, rfl, rfl, rfl⟩ := H
   go_enter Try.func55, Try.ntmps55
   go_wp2_with (first | ((with_reducible refine gate_dst (N := 8) rfl ?_); refine bE 8 #[.int .i64 0, .slice none 0 0, .slice none 0 0] 51 ?_; intro gb777 hg w10 hbox hb; have n0_ := Bb HB hb; have n1_ := am (hbox); have n2_ := Gl HB hg; have n3_ := Gl HB hg; clear HB; revert n0_ n1_ n2_ n3_; intro HB BK777 GW777 GE777; clear hb hbox hg) | ((with_reducible refine gate_callee (f := 62) rfl ?_); refine gL (some 13) Try.func62 #[.int .i64 a0, .slice A1 l1.length c1, .int .i64 a2] ?_; (with_reducible refine (spec_cuKeyed.calls k a0 _ _ l1 a2 true _ ?side1 ?side2 A5.out).mono ?_); (case side1 => exact Cz (Kd.C_below HR1.out HB.out)); (case side2 => exact HC1.out); rintro e w' ⟨rfl, ⟨nd, rfl⟩⟩; refine ⟨_, rfl, ?_⟩; (try (rw [drewN_self w10]; generalize hq_ : World.drewN w10 _ = w10; have n0_ : Aside0 (w10.heap[gb777]? = some (.cells #[.int .i64 0, .slice none 0 0, .slice none 0 0] 51 (0, 0))) := ⟨by rw [← hq_]; exact (Kz BK777.out)⟩; have n1_ : Aside0 (Below w.heap.size w w10) := ⟨by rw [← hq_]; exact (Bq)⟩; clear BK777 HB hq_; revert n0_ n1_; intro BK777 HB))) | (go_at_call 113; (with_reducible refine (spec_cuMoves.calls a3 true _ A7.out).mono ?_); rintro e w' ⟨rfl, ⟨nd, rfl⟩⟩; (try (rw [drewN_self w10]; generalize hq_ : World.drewN w10 _ = w10; have n0_ : Aside0 (w10.heap[gb777]? = some (.cells #[.int .i64 0, .slice none 0 0, .slice none 0 0] 51 (0, 0))) := ⟨by rw [← hq_]; exact (Kz BK777.out)⟩; have n1_ : Aside0 (Below w.heap.size w w10) := ⟨by rw [← hq_]; exact (Bq)⟩; clear BK777 HB hq_; revert n0_ n1_; intro BK777 HB))) | ((with_reducible refine gate_callee (f := 114) rfl ?_); refine gL (some 25) Try.func114 #[.int .i64 a0, .slice A1 l1.length c1, .int .i64 a2, .int .i64 a3] ?_; (with_reducible refine (spec_cuOf.calls k a0 _ _ l1 a2 a3 t780 t781 t784 t787 _ ?side1 ?side2 A9.out).mono ?_); (case side1 => exact Cz (Kd.C_below HR1.out HB.out)); (case side2 => exact HC1.out); rintro e w11 ⟨v782, v785, rfl, ho0, ho1, hb⟩; refine ⟨_, rfl, ?_⟩; have n0_ := Rm ho0 HB; have n1_ := Rm ho1 HB; have n2_ := Kb BK777 hb; have n3_ := Bc HB hb; clear BK777 HB; revert n0_ n1_ n2_ n3_; intro HO783 HO786 BK777 HB; (try clear hb); (try clear hb2); (try clear hk); (try clear hi); (try clear ho0); (try clear ho1); obtain ⟨hcz12_0, hcz12_1, hcz12_2, hfz12_0, hfz12_1, hfz12_2⟩ := cf3 (w := w11) BK777; obtain ⟨Ao13, co13, eo13⟩ := Kd.R_slice HO783.out; subst eo13; obtain ⟨Ao14, co14, eo14⟩ := Kd.R_slice HO786.out; subst eo14))
   refine bodyPost_ret (results_ct rfl _ _ gb777 51 #[.int .i64 t780, .slice Ao13 t781.length co13, .slice Ao14 t784.length co14] (0, 0) _ rfl (by (with_reducible repeat (first | refine blk_drewN ?_ _ | refine blk_drew ?_ | refine blk_alloc ?_ _)); refine blk_put (cs := #[.int .i64 t780, .slice Ao13 t781.length co13, .slice none 0 0]) ?_ 2 _ rfl; (with_reducible repeat (first | refine blk_drewN ?_ _ | refine blk_drew ?_ | refine blk_alloc ?_ _)); refine blk_put (cs := #[.int .i64 t780, .slice none 0 0, .slice none 0 0]) ?_ 1 _ rfl; (with_reducible repeat (first | refine blk_drewN ?_ _ | refine blk_drew ?_ | refine blk_alloc ?_ _)); refine blk_put (cs := #[.int .i64 0, .slice none 0 0, .slice none 0 0]) ?_ 0 _ rfl; exact Kz BK777.out) Try.underlying51 rfl (by kernel_rfl)) rfl ?_; exact ⟨_, _, eZ, Rz (Kd.R_mono (Kd.R_far (p := ⟨gb777, 2, none⟩) (Kd.R_far (p := ⟨gb777, 1, none⟩) (Kd.R_far (p := ⟨gb777, 0, none⟩) (Kd.R_types HO783.out BK777.out (by decide)) (fun _ hk => hk.2) (.int .i64 t780)) (fun _ hk => hk.2) (.slice Ao13 t781.length co13)) (fun _ hk => hk.2) (.slice Ao14 t784.length co14)) (fun _ hk => hk.1)), Rz (Kd.R_mono (Kd.R_far (p := ⟨gb777, 2, none⟩) (Kd.R_far (p := ⟨gb777, 1, none⟩) (Kd.R_far (p := ⟨gb777, 0, none⟩) (Kd.R_types HO786.out BK777.out (by decide)) (fun _ hk => hk.2) (.int .i64 t780)) (fun _ hk => hk.2) (.slice Ao13 t781.length co13)) (fun _ hk => hk.2) (.slice Ao14 t784.length co14)) (fun _ hk => hk.1)), Bq⟩
  ·replace c8 := Bool.eq_false_iff.mpr c8
   subst c8
   rw [if_neg (show ¬ (false = true) by decide)] at H
   simp only [Option.some.injEq, Prod.mk.injEq] at H
   obtain ⟨rfl, rfl, rfl, rfl⟩ := H
   go_enter Try.func55, Try.ntmps55
   go_wp2_with (first | ((with_reducible refine gate_dst (N := 8) rfl ?_); refine bE 8 #[.int .i64 0, .slice none 0 0, .slice none 0 0] 51 ?_; intro gb777 hg w15 hbox hb; have n0_ := Bb HB hb; have n1_ := am (hbox); have n2_ := Gl HB hg; have n3_ := Gl HB hg; clear HB; revert n0_ n1_ n2_ n3_; intro HB BK777 GW777 GE777; clear hb hbox hg) | ((with_reducible refine gate_callee (f := 62) rfl ?_); refine gL (some 13) Try.func62 #[.int .i64 a0, .slice A1 l1.length c1, .int .i64 a2] ?_; (with_reducible refine (spec_cuKeyed.calls k a0 _ _ l1 a2 true _ ?side1 ?side2 A5.out).mono ?_); (case side1 => exact Cz (Kd.C_below HR1.out HB.out)); (case side2 => exact HC1.out); rintro e w' ⟨rfl, ⟨nd, rfl⟩⟩; refine ⟨_, rfl, ?_⟩; (try (rw [drewN_self w15]; generalize hq_ : World.drewN w15 _ = w15; have n0_ : Aside0 (w15.heap[gb777]? = some (.cells #[.int .i64 0, .slice none 0 0, .slice none 0 0] 51 (0, 0))) := ⟨by rw [← hq_]; exact (Kz BK777.out)⟩; have n1_ : Aside0 (Below w.heap.size w w15) := ⟨by rw [← hq_]; exact (Bq)⟩; clear BK777 HB hq_; revert n0_ n1_; intro BK777 HB))) | (go_at_call 113; (with_reducible refine (spec_cuMoves.calls a3 false _ A7.out).mono ?_); rintro e w' ⟨rfl, ⟨nd, rfl⟩⟩; (try (rw [drewN_self w15]; generalize hq_ : World.drewN w15 _ = w15; have n0_ : Aside0 (w15.heap[gb777]? = some (.cells #[.int .i64 0, .slice none 0 0, .slice none 0 0] 51 (0, 0))) := ⟨by rw [← hq_]; exact (Kz BK777.out)⟩; have n1_ : Aside0 (Below w.heap.size w w15) := ⟨by rw [← hq_]; exact (Bq)⟩; clear BK777 HB hq_; revert n0_ n1_; intro BK777 HB)); obtain ⟨hcz16_0, hcz16_1, hcz16_2, hfz16_0, hfz16_1, hfz16_2⟩ := cf3 (w := w15) BK777))
   refine bodyPost_ret (results_ct rfl _ _ gb777 51 #[.int .i64 0, .slice none 0 0, .slice none 0 0] (0, 0) _ rfl (by (with_reducible repeat (first | refine blk_drewN ?_ _ | refine blk_drew ?_ | refine blk_alloc ?_ _)); refine blk_put (cs := #[.int .i64 0, .slice none 0 0, .slice none 0 0]) ?_ 2 _ rfl; (with_reducible repeat (first | refine blk_drewN ?_ _ | refine blk_drew ?_ | refine blk_alloc ?_ _)); refine blk_put (cs := #[.int .i64 0, .slice none 0 0, .slice none 0 0]) ?_ 1 _ rfl; (with_reducible repeat (first | refine blk_drewN ?_ _ | refine blk_drew ?_ | refine blk_alloc ?_ _)); refine blk_put (cs := #[.int .i64 0, .slice none 0 0, .slice none 0 0]) ?_ 0 _ rfl; exact Kz BK777.out) Try.underlying51 rfl (by kernel_rfl)) rfl ?_; exact ⟨_, _, eZ, nZ, nZ, Bq⟩
 ·replace c6 := Bool.eq_false_iff.mpr c6
  subst c6
  rw [if_neg (show ¬ (false = true) by decide)] at H
  simp only [Option.some.injEq, Prod.mk.injEq] at H
  obtain ⟨rfl, rfl, rfl, rfl⟩ := H
  go_enter Try.func55, Try.ntmps55
  go_wp2_with (first | ((with_reducible refine gate_dst (N := 8) rfl ?_); refine bE 8 #[.int .i64 0, .slice none 0 0, .slice none 0 0] 51 ?_; intro gb777 hg w17 hbox hb; have n0_ := Bb HB hb; have n1_ := am (hbox); have n2_ := Gl HB hg; have n3_ := Gl HB hg; clear HB; revert n0_ n1_ n2_ n3_; intro HB BK777 GW777 GE777; clear hb hbox hg) | ((with_reducible refine gate_callee (f := 62) rfl ?_); refine gL (some 13) Try.func62 #[.int .i64 a0, .slice A1 l1.length c1, .int .i64 a2] ?_; (with_reducible refine (spec_cuKeyed.calls k a0 _ _ l1 a2 false _ ?side1 ?side2 A5.out).mono ?_); (case side1 => exact Cz (Kd.C_below HR1.out HB.out)); (case side2 => exact HC1.out); rintro e w' ⟨rfl, ⟨nd, rfl⟩⟩; refine ⟨_, rfl, ?_⟩; (try (rw [drewN_self w17]; generalize hq_ : World.drewN w17 _ = w17; have n0_ : Aside0 (w17.heap[gb777]? = some (.cells #[.int .i64 0, .slice none 0 0, .slice none 0 0] 51 (0, 0))) := ⟨by rw [← hq_]; exact (Kz BK777.out)⟩; have n1_ : Aside0 (Below w.heap.size w w17) := ⟨by rw [← hq_]; exact (Bq)⟩; clear BK777 HB hq_; revert n0_ n1_; intro BK777 HB)); obtain ⟨hcz18_0, hcz18_1, hcz18_2, hfz18_0, hfz18_1, hfz18_2⟩ := cf3 (w := w17) BK777))
  refine bodyPost_ret (results_ct rfl _ _ gb777 51 #[.int .i64 0, .slice none 0 0, .slice none 0 0] (0, 0) _ rfl (by (with_reducible repeat (first | refine blk_drewN ?_ _ | refine blk_drew ?_ | refine blk_alloc ?_ _)); refine blk_put (cs := #[.int .i64 0, .slice none 0 0, .slice none 0 0]) ?_ 2 _ rfl; (with_reducible repeat (first | refine blk_drewN ?_ _ | refine blk_drew ?_ | refine blk_alloc ?_ _)); refine blk_put (cs := #[.int .i64 0, .slice none 0 0, .slice none 0 0]) ?_ 1 _ rfl; (with_reducible repeat (first | refine blk_drewN ?_ _ | refine blk_drew ?_ | refine blk_alloc ?_ _)); refine blk_put (cs := #[.int .i64 0, .slice none 0 0, .slice none 0 0]) ?_ 0 _ rfl; exact Kz BK777.out) Try.underlying51 rfl (by kernel_rfl)) rfl ?_; exact ⟨_, _, eZ, nZ, nZ, Bq⟩

mutual
def laws_FnCuckooBuilt.j0 : Nat → Int → List ByteArray → Int → Bool → Bool → Int → List ByteArray → List ByteArray → Option (Bool)
 | 0, _, _, _, _, _, _, _, _ => none
 | k + 1, x5, x6, x7, x10, x56, x804000, x804001, x804002 => if x56 = true then (some false) else (if x10 = true then ((impl_CuckooKeys.f k x804000 x804001 x804002).bind fun bt814 => (if bt814.2 = true then ((laws_pSameTexts.f k bt814.1 x6).bind fun t818 => (if t818 = true then ((impl_IsCuckoo.f k x804000 x804001 x804002).bind fun t819 => (laws_FnCuckooBuilt.j1 k x5 x6 x7 (!t819) x804000 x804001 x804002)) else (laws_FnCuckooBuilt.j1 k x5 x6 x7 true x804000 x804001 x804002))) else (laws_FnCuckooBuilt.j1 k x5 x6 x7 true x804000 x804001 x804002))) else (some true))
def laws_FnCuckooBuilt.j1 : Nat → Int → List ByteArray → Int → Bool → Int → List ByteArray → List ByteArray → Option (Bool)
 | 0, _, _, _, _, _, _, _ => none
 | k + 1, x5, x6, x7, x76, x804000, x804001, x804002 => if x76 = true then (some false) else (if (x804002.length : Int) > 0 then (some true) else (laws_FnCuckooBuilt.l0 k x5 x6 x7 ([] : List Int) x6 (x6.length : Int) 0 x804000 x804001 x804002))
def laws_FnCuckooBuilt.l0 : Nat → Int → List ByteArray → Int → List Int → List ByteArray → Int → Int → Int → List ByteArray → List ByteArray → Option (Bool)
 | 0, _, _, _, _, _, _, _, _, _, _ => none
 | k + 1, x5, x6, x7, x15, x81, x82, x83, x804000, x804001, x804002 => if x83 < x82 then (if 0 ≤ x83 then (if x83 < (x81.length : Int) then ((impl_CuckooFind.f k x804000 x804001 x804002 (rdOf ByteArray.empty x81 x83)).bind fun bt821 => (if bt821.2 = true then (if x15.length < 17592186044416 then (laws_FnCuckooBuilt.l0 k x5 x6 x7 (x15 ++ [bt821.1]) x81 x82 (wrap64 (x83 + 1)) x804000 x804001 x804002) else (none)) else (some false))) else (none)) else (none)) else ((impl_IsPlacement.f k x5 x6 x7 x15).bind fun bt826 => (if bt826.2 = true then (some bt826.1) else (some false)))
end
def laws_FnCuckooBuilt.f (k : Nat) (l0 : List Int) (l1 : List Int) : Option (Bool) := (laws_big.f l0 l1).bind fun t788 => (if t788 = true then (some true) else ((spec_DrawCuckooOf.f k l0).bind fun bt789 => ((impl_CuckooOf.f k bt789.1 bt789.2.1 bt789.2.2.1 bt789.2.2.2).bind fun bt795 => ((spec_CuckooOf.f k bt789.1 bt789.2.1 bt789.2.2.1 bt789.2.2.2).bind fun bt804 => (if (bt795.2.2.2 != bt804.2.2.2) = true then (laws_FnCuckooBuilt.j0 k bt789.1 bt789.2.1 bt789.2.2.1 bt795.2.2.2 true bt795.1 bt795.2.1 bt795.2.2.1) else ((laws_rSameCuckoo.f k bt795.1 bt795.2.1 bt795.2.2.1 bt804.1 bt804.2.1 bt804.2.2.1).bind fun t813 => (laws_FnCuckooBuilt.j0 k bt789.1 bt789.2.1 bt789.2.2.1 bt795.2.2.2 (!t813) bt795.1 bt795.2.1 bt795.2.2.1)))))))
theorem laws_FnCuckooBuilt.j0.dead (k : Nat) (y0 : Int) (y1 : List ByteArray) (y2 : Int) (y3 : Bool) (y5 : Int) (y6 : List ByteArray) (y7 : List ByteArray) : laws_FnCuckooBuilt.j0 k y0 y1 y2 y3 true y5 y6 y7 ≠ some true := by cases k <;> simp [laws_FnCuckooBuilt.j0]
theorem laws_FnCuckooBuilt.j1.dead (k : Nat) (y0 : Int) (y1 : List ByteArray) (y2 : Int) (y4 : Int) (y5 : List ByteArray) (y6 : List ByteArray) : laws_FnCuckooBuilt.j1 k y0 y1 y2 true y4 y5 y6 ≠ some true := by cases k <;> simp [laws_FnCuckooBuilt.j1]
theorem laws_FnCuckooBuilt.calls (k : Nat) (A0 : Option Addr) (c0 : Nat) (l0 : List Int) (A1 : Option Addr) (c1 : Nat) (l1 : List Int) (r : Bool) (w : World) (hr0 : Kd.C (Kd.int .u8) w A0 l0.length l0) (hc0 : l0.length ≤ c0) (hr1 : Kd.C (Kd.int .u8) w A1 l1.length l1) (hc1 : l1.length ≤ c1) (h : laws_FnCuckooBuilt.f k l0 l1 = some r) (hT_ : r = true) :
  Calls Try.prog 9 #[.slice A0 l0.length c0, .slice A1 l1.length c1] w fun e w' => e = .returned (.bool r) ∧ Below w.heap.size w w' := by
 have hu51 := Try.underlying51; have HR0 := am hr0; have HC0 := am hc0; clear hr0 hc0; have HR1 := am hr1; have HC1 := am hc1; clear hr1 hc1; have HB := am (Below.refl w.heap.size w); have H : ((laws_big.f l0 l1).bind fun t788 => (if t788 = true then (some true) else ((spec_DrawCuckooOf.f k l0).bind fun bt789 => ((impl_CuckooOf.f k bt789.1 bt789.2.1 bt789.2.2.1 bt789.2.2.2).bind fun bt795 => ((spec_CuckooOf.f k bt789.1 bt789.2.1 bt789.2.2.1 bt789.2.2.2).bind fun bt804 => (if (bt795.2.2.2 != bt804.2.2.2) = true then (laws_FnCuckooBuilt.j0 k bt789.1 bt789.2.1 bt789.2.2.1 bt795.2.2.2 true bt795.1 bt795.2.1 bt795.2.2.1) else ((laws_rSameCuckoo.f k bt795.1 bt795.2.1 bt795.2.2.1 bt804.1 bt804.2.1 bt804.2.2.1).bind fun t813 => (laws_FnCuckooBuilt.j0 k bt789.1 bt789.2.1 bt789.2.2.1 bt795.2.2.2 (!t813) bt795.1 bt795.2.1 bt795.2.2.1)))))))) = some r := h; clear h; have HQT_ := am hT_; clear hT_; replace H := Option.bind_eq_some_iff.mp H; obtain ⟨t788, A30, H⟩ := H; (try dsimp -simprocs only at H); have A3 := am A30; clear A30
 by_cases c4 : t788 = true
 ·subst c4
  rw [if_pos rfl] at H; obtain rfl := Option.some.inj H
  go_enter Try.func9, Try.ntmps9
  go_wp2_with (first | ((with_reducible refine gate_callee (f := 11) rfl ?_); refine gL (some 24) Try.func11 #[.slice A0 l0.length c0, .slice A1 l1.length c1] ?_; (with_reducible refine (laws_big.calls _ _ l0 _ _ l1 true _ ?side1 ?side2 ?side3 ?side4 A3.out).mono ?_); (case side1 => exact Cz HR0.out); (case side2 => exact HC0.out); (case side3 => exact Cz HR1.out); (case side4 => exact HC1.out); rintro e w' ⟨rfl, ⟨nd, rfl⟩⟩; refine ⟨_, rfl, ?_⟩))
  go_ret
  exact ⟨eZ, Bz HB.out⟩
 ·replace c4 := Bool.eq_false_iff.mpr c4
  subst c4
  rw [if_neg (show ¬ (false = true) by decide)] at H; replace H := Option.bind_eq_some_iff.mp H; obtain ⟨⟨t789, t790, t791, t792⟩, A50, H⟩ := H; (try dsimp -simprocs only at H); have A5 := am A50; clear A50; replace H := Option.bind_eq_some_iff.mp H; obtain ⟨⟨t795, t796, t799, t802⟩, A60, H⟩ := H; (try dsimp -simprocs only at H); have A6 := am A60; clear A60; replace H := Option.bind_eq_some_iff.mp H; obtain ⟨⟨t804, t805, t808, t811⟩, A70, H⟩ := H; (try dsimp -simprocs only at H); have A7 := am A70; clear A70; have HC8 := am H; clear H
  go_enter Try.func9, Try.ntmps9
  go_upto_region 6 with (first | ((with_reducible refine gate_callee (f := 11) rfl ?_); refine gL (some 24) Try.func11 #[.slice A0 l0.length c0, .slice A1 l1.length c1] ?_; (with_reducible refine (laws_big.calls _ _ l0 _ _ l1 false _ ?side1 ?side2 ?side3 ?side4 A3.out).mono ?_); (case side1 => exact Cz HR0.out); (case side2 => exact HC0.out); (case side3 => exact Cz HR1.out); (case side4 => exact HC1.out); rintro e w' ⟨rfl, ⟨nd, rfl⟩⟩; refine ⟨_, rfl, ?_⟩) | ((with_reducible refine gate_callee (f := 53) rfl ?_); refine gL (some 27) Try.func53 #[.slice A0 l0.length c0] ?_; (with_reducible refine (spec_DrawCuckooOf.calls k _ _ l0 t789 t790 t791 t792 _ ?side1 ?side2 A5.out).mono ?_); (case side1 => exact Cz HR0.out); (case side2 => exact HC0.out); rintro e w9 ⟨v793, rfl, ho0, hb⟩; refine ⟨_, rfl, ?_⟩; have n0_ := Rl ho0 HB; have n1_ := Bb HB hb; clear HB; revert n0_ n1_; intro HO794 HB; (try clear hb); (try clear hb2); (try clear hk); (try clear hi); (try clear ho0); obtain ⟨Ao10, co10, eo10⟩ := Kd.R_slice HO794.out; subst eo10) | ((with_reducible refine gate_callee (f := 54) rfl ?_); refine gL (some 37) Try.func54 #[.int .i64 t789, .slice Ao10 t790.length co10, .int .i64 t791, .int .i64 t792] ?_; (with_reducible refine (impl_CuckooOf.calls k t789 _ _ t790 t791 t792 t795 t796 t799 t802 _ ?side1 ?side2 A6.out).mono ?_); (case side1 => exact Cz ((Kd.R_reads' HO794.out).2.2)); (case side2 => exact (Kd.R_reads' HO794.out).2.1); rintro e w11 ⟨v797, v800, rfl, ho0, ho1, hb⟩; refine ⟨_, rfl, ?_⟩; have n0_ := am (Kd.R_mono (Kd.R_told (Kd.R_told (Kd.R_old (Rz HO794.out) hb) (Kd.R_base ho0)) (Kd.R_base ho1)) (fun _ h_ => h_.1)); have n1_ := Rl (Kd.R_new' ho0 (Kd.R_lt (Rz HO794.out))) HB; have n2_ := Rl (Kd.R_new' ho1 (Kd.R_lt (Rz HO794.out))) HB; have n3_ := Bb HB hb; clear HO794 HB; revert n0_ n1_ n2_ n3_; intro HO794 HO798 HO801 HB; (try clear hb); (try clear hb2); (try clear hk); (try clear hi); (try clear ho0); (try clear ho1)) | ((with_reducible refine gate_dst (N := 9) rfl ?_); refine bE 9 #[.int .i64 0, .slice none 0 0, .slice none 0 0] 51 ?_; intro gb803 hg w12 hbox hb; have n0_ := Rb HO794 hb; have n1_ := Rb HO798 hb; have n2_ := Rb HO801 hb; have n3_ := Bb HB hb; have n4_ := am (hbox); have n5_ := Gl HB hg; have n6_ := Gl HB hg; clear HO794 HO798 HO801 HB; revert n0_ n1_ n2_ n3_ n4_ n5_ n6_; intro HO794 HO798 HO801 HB BK803 GW803 GE803; clear hb hbox hg; obtain ⟨hcz13_0, hcz13_1, hcz13_2, hfz13_0, hfz13_1, hfz13_2⟩ := cf3 (w := w12) BK803; obtain ⟨Ao14, co14, eo14⟩ := Kd.R_slice HO798.out; subst eo14; obtain ⟨Ao15, co15, eo15⟩ := Kd.R_slice HO801.out; subst eo15) | ((with_reducible refine gate_callee (f := 55) rfl ?_); refine gL (some 45) Try.func55 #[.int .i64 t789, .slice Ao10 t790.length co10, .int .i64 t791, .int .i64 t792] ?_; (with_reducible refine (spec_CuckooOf.calls k t789 _ _ t790 t791 t792 t804 t805 t808 t811 _ ?side1 ?side2 A7.out).mono ?_); (case side1 => refine (Kd.R_reads' (e := 9) (base := w.heap.size) (ok := fun k_ => ((True ∧ some k_ ≠ (.slice Ao14 t796.length co14 : Value).ownBlock) ∧ some k_ ≠ (.slice Ao15 t799.length co15 : Value).ownBlock)) (n := t790.length) (c := co10) ?_).2.2; exact (Rz (Kd.R_mono (Kd.R_far (p := ⟨gb803, 2, none⟩) (Kd.R_far (p := ⟨gb803, 1, none⟩) (Kd.R_far (p := ⟨gb803, 0, none⟩) (Kd.R_types HO794.out BK803.out (by decide)) (fun _ hk => hk.2) (.int .i64 t795)) (fun _ hk => hk.2) (.slice Ao14 t796.length co14)) (fun _ hk => hk.2) (.slice Ao15 t799.length co15)) (fun _ h_ => h_.1)))); (case side2 => exact (Kd.R_reads' HO794.out).2.1); rintro e w16 ⟨v806, v809, rfl, ho0, ho1, hb⟩; refine ⟨_, rfl, ?_⟩; have n0_ := am (Kd.R_mono (Kd.R_told (Kd.R_told (Kd.R_old (Rz (Kd.R_mono (Kd.R_far (p := ⟨gb803, 2, none⟩) (Kd.R_far (p := ⟨gb803, 1, none⟩) (Kd.R_far (p := ⟨gb803, 0, none⟩) (Kd.R_types HO794.out BK803.out (by decide)) (fun _ hk => hk.2) (.int .i64 t795)) (fun _ hk => hk.2) (.slice Ao14 t796.length co14)) (fun _ hk => hk.2) (.slice Ao15 t799.length co15)) (fun _ h_ => h_.1))) hb) (Kd.R_base ho0)) (Kd.R_base ho1)) (fun _ h_ => h_.1)); have n1_ := am (Kd.R_mono (Kd.R_told (Kd.R_told (Kd.R_old (Rz (Kd.R_mono (Kd.R_far (p := ⟨gb803, 2, none⟩) (Kd.R_far (p := ⟨gb803, 1, none⟩) (Kd.R_far (p := ⟨gb803, 0, none⟩) (Kd.R_types HO798.out BK803.out (by decide)) (fun _ hk => hk.2) (.int .i64 t795)) (fun _ hk => hk.2) (.slice Ao14 t796.length co14)) (fun _ hk => hk.2) (.slice Ao15 t799.length co15)) (fun _ h_ => h_.1))) hb) (Kd.R_base ho0)) (Kd.R_base ho1)) (fun _ h_ => h_.1)); have n2_ := am (Kd.R_mono (Kd.R_told (Kd.R_told (Kd.R_old (Rz (Kd.R_mono (Kd.R_far (p := ⟨gb803, 2, none⟩) (Kd.R_far (p := ⟨gb803, 1, none⟩) (Kd.R_far (p := ⟨gb803, 0, none⟩) (Kd.R_types HO801.out BK803.out (by decide)) (fun _ hk => hk.2) (.int .i64 t795)) (fun _ hk => hk.2) (.slice Ao14 t796.length co14)) (fun _ hk => hk.2) (.slice Ao15 t799.length co15)) (fun _ h_ => h_.1))) hb) (Kd.R_base ho0)) (Kd.R_base ho1)) (fun _ h_ => h_.1)); have n3_ := am (Kd.R_lower (Kd.R_new' (Kd.R_new' (Kd.R_new' ho0 (Kd.R_lt (Rz (Kd.R_mono (Kd.R_far (p := ⟨gb803, 2, none⟩) (Kd.R_far (p := ⟨gb803, 1, none⟩) (Kd.R_far (p := ⟨gb803, 0, none⟩) (Kd.R_types HO794.out BK803.out (by decide)) (fun _ hk => hk.2) (.int .i64 t795)) (fun _ hk => hk.2) (.slice Ao14 t796.length co14)) (fun _ hk => hk.2) (.slice Ao15 t799.length co15)) (fun _ h_ => h_.1))))) (Kd.R_lt (Rz (Kd.R_mono (Kd.R_far (p := ⟨gb803, 2, none⟩) (Kd.R_far (p := ⟨gb803, 1, none⟩) (Kd.R_far (p := ⟨gb803, 0, none⟩) (Kd.R_types HO798.out BK803.out (by decide)) (fun _ hk => hk.2) (.int .i64 t795)) (fun _ hk => hk.2) (.slice Ao14 t796.length co14)) (fun _ hk => hk.2) (.slice Ao15 t799.length co15)) (fun _ h_ => h_.1))))) (Kd.R_lt (Rz (Kd.R_mono (Kd.R_far (p := ⟨gb803, 2, none⟩) (Kd.R_far (p := ⟨gb803, 1, none⟩) (Kd.R_far (p := ⟨gb803, 0, none⟩) (Kd.R_types HO801.out BK803.out (by decide)) (fun _ hk => hk.2) (.int .i64 t795)) (fun _ hk => hk.2) (.slice Ao14 t796.length co14)) (fun _ hk => hk.2) (.slice Ao15 t799.length co15)) (fun _ h_ => h_.1))))) (below_size (w := w) (Bq))); have n4_ := am (Kd.R_lower (Kd.R_new' (Kd.R_new' (Kd.R_new' ho1 (Kd.R_lt (Rz (Kd.R_mono (Kd.R_far (p := ⟨gb803, 2, none⟩) (Kd.R_far (p := ⟨gb803, 1, none⟩) (Kd.R_far (p := ⟨gb803, 0, none⟩) (Kd.R_types HO794.out BK803.out (by decide)) (fun _ hk => hk.2) (.int .i64 t795)) (fun _ hk => hk.2) (.slice Ao14 t796.length co14)) (fun _ hk => hk.2) (.slice Ao15 t799.length co15)) (fun _ h_ => h_.1))))) (Kd.R_lt (Rz (Kd.R_mono (Kd.R_far (p := ⟨gb803, 2, none⟩) (Kd.R_far (p := ⟨gb803, 1, none⟩) (Kd.R_far (p := ⟨gb803, 0, none⟩) (Kd.R_types HO798.out BK803.out (by decide)) (fun _ hk => hk.2) (.int .i64 t795)) (fun _ hk => hk.2) (.slice Ao14 t796.length co14)) (fun _ hk => hk.2) (.slice Ao15 t799.length co15)) (fun _ h_ => h_.1))))) (Kd.R_lt (Rz (Kd.R_mono (Kd.R_far (p := ⟨gb803, 2, none⟩) (Kd.R_far (p := ⟨gb803, 1, none⟩) (Kd.R_far (p := ⟨gb803, 0, none⟩) (Kd.R_types HO801.out BK803.out (by decide)) (fun _ hk => hk.2) (.int .i64 t795)) (fun _ hk => hk.2) (.slice Ao14 t796.length co14)) (fun _ hk => hk.2) (.slice Ao15 t799.length co15)) (fun _ h_ => h_.1))))) (below_size (w := w) (Bq))); have n5_ := am (blk_below (g := gb803) (o := .cells #[.int .i64 t795, .slice Ao14 t796.length co14, .slice Ao15 t799.length co15] 51 (0, 0)) (by (with_reducible repeat (first | refine blk_drewN ?_ _ | refine blk_drew ?_ | refine blk_alloc ?_ _)); refine blk_put (cs := #[.int .i64 t795, .slice Ao14 t796.length co14, .slice none 0 0]) ?_ 2 _ rfl; (with_reducible repeat (first | refine blk_drewN ?_ _ | refine blk_drew ?_ | refine blk_alloc ?_ _)); refine blk_put (cs := #[.int .i64 t795, .slice none 0 0, .slice none 0 0]) ?_ 1 _ rfl; (with_reducible repeat (first | refine blk_drewN ?_ _ | refine blk_drew ?_ | refine blk_alloc ?_ _)); refine blk_put (cs := #[.int .i64 0, .slice none 0 0, .slice none 0 0]) ?_ 0 _ rfl; exact Kz BK803.out) hb); have n6_ := Bc HB hb; clear HO794 HO798 HO801 BK803 HB; revert n0_ n1_ n2_ n3_ n4_ n5_ n6_; intro HO794 HO798 HO801 HO807 HO810 BK803 HB; (try clear hb); (try clear hb2); (try clear hk); (try clear hi); (try clear ho0); (try clear ho1)) | ((with_reducible refine gate_dst (N := 11) rfl ?_); refine bE 11 #[.int .i64 0, .slice none 0 0, .slice none 0 0] 51 ?_; intro gb812 hg w17 hbox hb; have n0_ := Rb HO794 hb; have n1_ := Rb HO798 hb; have n2_ := Rb HO801 hb; have n3_ := Rb HO807 hb; have n4_ := Rb HO810 hb; have n5_ := Kb BK803 hb; have n6_ := Bc HB hb; have n7_ := am (hbox); have n8_ := Gm HB hg; have n9_ := Gm HB hg; have n10_ := Nl BK803 hg; have n11_ := Ng BK803 hg; clear HO794 HO798 HO801 HO807 HO810 BK803 HB; revert n0_ n1_ n2_ n3_ n4_ n5_ n6_ n7_ n8_ n9_ n10_ n11_; intro HO794 HO798 HO801 HO807 HO810 BK803 HB BK812 GW812 GE812 NB803_812 NB812_803; clear hb hbox hg; have hnb18 := NB812_803.out; have hnc18 := NB803_812.out; obtain ⟨hcz19_0, hcz19_1, hcz19_2, hfz19_0, hfz19_1, hfz19_2⟩ := cf3 (w := w17) BK812; obtain ⟨Ao20, co20, eo20⟩ := Kd.R_slice HO807.out; subst eo20; obtain ⟨Ao21, co21, eo21⟩ := Kd.R_slice HO810.out; subst eo21))
  (try simp only [aP])
  go_cut [56] (fun v56 wc => ∃ (kq : Nat) (x56_7 : Bool), v56 = .bool x56_7 ∧ Aside0 (laws_FnCuckooBuilt.j0 kq t789 t790 t791 t802 x56_7 t795 t796 t799 = some r) ∧ Aside0 (kq ≤ k) ∧ Aside0 (Kd.R Kd.string 9 wc w.heap.size (fun k_ => some k_ ≠ ((.slice Ao14 t796.length co14) : Value).ownBlock ∧ some k_ ≠ ((.slice Ao15 t799.length co15) : Value).ownBlock ∧ some k_ ≠ ((.slice Ao20 t805.length co20) : Value).ownBlock ∧ some k_ ≠ ((.slice Ao21 t808.length co21) : Value).ownBlock) (.slice Ao10 t790.length co10) t790) ∧ Aside0 (Kd.R Kd.string 9 wc w.heap.size (fun k_ => some k_ ≠ ((.slice Ao10 t790.length co10) : Value).ownBlock ∧ some k_ ≠ ((.slice Ao15 t799.length co15) : Value).ownBlock ∧ some k_ ≠ ((.slice Ao20 t805.length co20) : Value).ownBlock ∧ some k_ ≠ ((.slice Ao21 t808.length co21) : Value).ownBlock) (.slice Ao14 t796.length co14) t796) ∧ Aside0 (Kd.R Kd.string 9 wc w.heap.size (fun k_ => some k_ ≠ ((.slice Ao10 t790.length co10) : Value).ownBlock ∧ some k_ ≠ ((.slice Ao14 t796.length co14) : Value).ownBlock ∧ some k_ ≠ ((.slice Ao20 t805.length co20) : Value).ownBlock ∧ some k_ ≠ ((.slice Ao21 t808.length co21) : Value).ownBlock) (.slice Ao15 t799.length co15) t799) ∧ Aside0 (Kd.R Kd.string 9 wc w.heap.size (fun k_ => some k_ ≠ ((.slice Ao10 t790.length co10) : Value).ownBlock ∧ some k_ ≠ ((.slice Ao14 t796.length co14) : Value).ownBlock ∧ some k_ ≠ ((.slice Ao15 t799.length co15) : Value).ownBlock ∧ some k_ ≠ ((.slice Ao21 t808.length co21) : Value).ownBlock) (.slice Ao20 t805.length co20) t805) ∧ Aside0 (Kd.R Kd.string 9 wc w.heap.size (fun k_ => some k_ ≠ ((.slice Ao10 t790.length co10) : Value).ownBlock ∧ some k_ ≠ ((.slice Ao14 t796.length co14) : Value).ownBlock ∧ some k_ ≠ ((.slice Ao15 t799.length co15) : Value).ownBlock ∧ some k_ ≠ ((.slice Ao20 t805.length co20) : Value).ownBlock) (.slice Ao21 t808.length co21) t808) ∧ Aside0 (wc.heap[gb803]? = some (.cells #[.int .i64 t795, (.slice Ao14 t796.length co14), (.slice Ao15 t799.length co15)] 51 (0, 0))) ∧ Aside0 (wc.heap[gb812]? = some (.cells #[.int .i64 t804, (.slice Ao20 t805.length co20), (.slice Ao21 t808.length co21)] 51 (0, 0))) ∧ Aside0 (Below w.heap.size w wc))
  case first =>
   have H := HC8.out; clear HC8
   by_cases c22 : (t802 != t811) = true
   ·rw [if_pos c22] at H
    have c22b0 : (t802 != t811) = true := c22
    (try (have c22b1 : decide (t802 = t811) = false := by simpa using c22))
    (try (have c22b2 : (t802 == t811) = false := by simpa using c22))
    (try (have c22b3 : ¬ (t802 = t811) := by simpa using c22))
    (try (have c22b4 : (!(t802 == t811)) = true := c22b0))
    clear c22
    (first | rw [c22b0] | (simp only [i64_w, i32_w]; rw [c22b0]) | skip)
    exact absurd (H.trans (congrArg some HQT_.out)) (laws_FnCuckooBuilt.j0.dead _ _ _ _ _ _ _ _)
   ·rw [if_neg c22] at H
    have c22b0 : (t802 != t811) = false := by simpa using c22
    (try (have c22b1 : decide (t802 = t811) = true := by simpa using c22))
    (try (have c22b2 : (t802 == t811) = true := by simpa using c22))
    (try (have c22b3 : (!(t802 == t811)) = false := c22b0))
    clear c22
    (first | rw [c22b0] | (simp only [i64_w, i32_w]; rw [c22b0]) | skip)
    replace H := Option.bind_eq_some_iff.mp H; obtain ⟨t813, A230, H⟩ := H; (try dsimp -simprocs only at H); have A23 := am A230; clear A230; have H' := am H; clear H; have hnb24 := NB803_812.out; have hnc24 := NB812_803.out; obtain ⟨hcz25_0, hcz25_1, hcz25_2, hfz25_0, hfz25_1, hfz25_2⟩ := cf3 (w := w17) BK803; obtain ⟨hcz26_0, hcz26_1, hcz26_2, hfz26_0, hfz26_1, hfz26_2⟩ := cf3 (w := w17) BK812
    go_wp2_with (first | (go_at_call 45; (with_reducible refine (laws_rSameCuckoo.calls k t795 _ _ t796 _ _ t799 t804 _ _ t805 _ _ t808 t813 _ ?side1 ?side2 ?side3 ?side4 ?side5 ?side6 ?side7 ?side8 A23.out).mono ?_); (case side1 => refine (Kd.R_reads' (e := 9) (base := w.heap.size) (ok := fun k_ => (((some k_ ≠ (.slice Ao15 t799.length co15 : Value).ownBlock ∧ some k_ ≠ (.slice Ao10 t790.length co10 : Value).ownBlock) ∧ some k_ ≠ (.slice Ao20 t805.length co20 : Value).ownBlock) ∧ some k_ ≠ (.slice Ao21 t808.length co21 : Value).ownBlock)) (n := t796.length) (c := co14) ?_).2.2; exact (Rz (Kd.R_mono (Kd.R_far (p := ⟨gb812, 2, none⟩) (Kd.R_far (p := ⟨gb812, 1, none⟩) (Kd.R_far (p := ⟨gb812, 0, none⟩) (Kd.R_types HO798.out BK812.out (by decide)) (fun _ hk => hk.2) (.int .i64 t804)) (fun _ hk => hk.2) (.slice Ao20 t805.length co20)) (fun _ hk => hk.2) (.slice Ao21 t808.length co21)) (fun _ h_ => h_.1)))); (case side2 => exact (Kd.R_reads' HO798.out).2.1); (case side3 => refine (Kd.R_reads' (e := 9) (base := w.heap.size) (ok := fun k_ => (((some k_ ≠ (.slice Ao14 t796.length co14 : Value).ownBlock ∧ some k_ ≠ (.slice Ao10 t790.length co10 : Value).ownBlock) ∧ some k_ ≠ (.slice Ao20 t805.length co20 : Value).ownBlock) ∧ some k_ ≠ (.slice Ao21 t808.length co21 : Value).ownBlock)) (n := t799.length) (c := co15) ?_).2.2; exact (Rz (Kd.R_mono (Kd.R_far (p := ⟨gb812, 2, none⟩) (Kd.R_far (p := ⟨gb812, 1, none⟩) (Kd.R_far (p := ⟨gb812, 0, none⟩) (Kd.R_types HO801.out BK812.out (by decide)) (fun _ hk => hk.2) (.int .i64 t804)) (fun _ hk => hk.2) (.slice Ao20 t805.length co20)) (fun _ hk => hk.2) (.slice Ao21 t808.length co21)) (fun _ h_ => h_.1)))); (case side4 => exact (Kd.R_reads' HO801.out).2.1); (case side5 => refine (Kd.R_reads' (e := 9) (base := w.heap.size) (ok := fun k_ => (((some k_ ≠ (.slice Ao21 t808.length co21 : Value).ownBlock ∧ some k_ ≠ (.slice Ao10 t790.length co10 : Value).ownBlock) ∧ some k_ ≠ (.slice Ao14 t796.length co14 : Value).ownBlock) ∧ some k_ ≠ (.slice Ao15 t799.length co15 : Value).ownBlock)) (n := t805.length) (c := co20) ?_).2.2; exact (Rz (Kd.R_mono (Kd.R_far (p := ⟨gb812, 2, none⟩) (Kd.R_far (p := ⟨gb812, 1, none⟩) (Kd.R_far (p := ⟨gb812, 0, none⟩) (Kd.R_types HO807.out BK812.out (by decide)) (fun _ hk => hk.2) (.int .i64 t804)) (fun _ hk => hk.2) (.slice Ao20 t805.length co20)) (fun _ hk => hk.2) (.slice Ao21 t808.length co21)) (fun _ h_ => h_.1)))); (case side6 => exact (Kd.R_reads' HO807.out).2.1); (case side7 => refine (Kd.R_reads' (e := 9) (base := w.heap.size) (ok := fun k_ => (((some k_ ≠ (.slice Ao20 t805.length co20 : Value).ownBlock ∧ some k_ ≠ (.slice Ao10 t790.length co10 : Value).ownBlock) ∧ some k_ ≠ (.slice Ao14 t796.length co14 : Value).ownBlock) ∧ some k_ ≠ (.slice Ao15 t799.length co15 : Value).ownBlock)) (n := t808.length) (c := co21) ?_).2.2; exact (Rz (Kd.R_mono (Kd.R_far (p := ⟨gb812, 2, none⟩) (Kd.R_far (p := ⟨gb812, 1, none⟩) (Kd.R_far (p := ⟨gb812, 0, none⟩) (Kd.R_types HO810.out BK812.out (by decide)) (fun _ hk => hk.2) (.int .i64 t804)) (fun _ hk => hk.2) (.slice Ao20 t805.length co20)) (fun _ hk => hk.2) (.slice Ao21 t808.length co21)) (fun _ h_ => h_.1)))); (case side8 => exact (Kd.R_reads' HO810.out).2.1); rintro e w27 ⟨rfl, hb⟩; have n0_ := am (Kd.R_below (Rz (Kd.R_mono (Kd.R_far (p := ⟨gb812, 2, none⟩) (Kd.R_far (p := ⟨gb812, 1, none⟩) (Kd.R_far (p := ⟨gb812, 0, none⟩) (Kd.R_types HO794.out BK812.out (by decide)) (fun _ hk => hk.2) (.int .i64 t804)) (fun _ hk => hk.2) (.slice Ao20 t805.length co20)) (fun _ hk => hk.2) (.slice Ao21 t808.length co21)) (fun _ h_ => h_.1))) hb); have n1_ := am (Kd.R_below (Rz (Kd.R_mono (Kd.R_far (p := ⟨gb812, 2, none⟩) (Kd.R_far (p := ⟨gb812, 1, none⟩) (Kd.R_far (p := ⟨gb812, 0, none⟩) (Kd.R_types HO798.out BK812.out (by decide)) (fun _ hk => hk.2) (.int .i64 t804)) (fun _ hk => hk.2) (.slice Ao20 t805.length co20)) (fun _ hk => hk.2) (.slice Ao21 t808.length co21)) (fun _ h_ => h_.1))) hb); have n2_ := am (Kd.R_below (Rz (Kd.R_mono (Kd.R_far (p := ⟨gb812, 2, none⟩) (Kd.R_far (p := ⟨gb812, 1, none⟩) (Kd.R_far (p := ⟨gb812, 0, none⟩) (Kd.R_types HO801.out BK812.out (by decide)) (fun _ hk => hk.2) (.int .i64 t804)) (fun _ hk => hk.2) (.slice Ao20 t805.length co20)) (fun _ hk => hk.2) (.slice Ao21 t808.length co21)) (fun _ h_ => h_.1))) hb); have n3_ := am (Kd.R_below (Rz (Kd.R_mono (Kd.R_far (p := ⟨gb812, 2, none⟩) (Kd.R_far (p := ⟨gb812, 1, none⟩) (Kd.R_far (p := ⟨gb812, 0, none⟩) (Kd.R_types HO807.out BK812.out (by decide)) (fun _ hk => hk.2) (.int .i64 t804)) (fun _ hk => hk.2) (.slice Ao20 t805.length co20)) (fun _ hk => hk.2) (.slice Ao21 t808.length co21)) (fun _ h_ => h_.1))) hb); have n4_ := am (Kd.R_below (Rz (Kd.R_mono (Kd.R_far (p := ⟨gb812, 2, none⟩) (Kd.R_far (p := ⟨gb812, 1, none⟩) (Kd.R_far (p := ⟨gb812, 0, none⟩) (Kd.R_types HO810.out BK812.out (by decide)) (fun _ hk => hk.2) (.int .i64 t804)) (fun _ hk => hk.2) (.slice Ao20 t805.length co20)) (fun _ hk => hk.2) (.slice Ao21 t808.length co21)) (fun _ h_ => h_.1))) hb); have n5_ := am (blk_below (g := gb803) (o := .cells #[.int .i64 t795, .slice Ao14 t796.length co14, .slice Ao15 t799.length co15] 51 (0, 0)) (by (with_reducible repeat (first | refine blk_drewN ?_ _ | refine blk_drew ?_ | refine blk_alloc ?_ _)); refine blk_far ?_ NB803_812.out _; (with_reducible repeat (first | refine blk_drewN ?_ _ | refine blk_drew ?_ | refine blk_alloc ?_ _)); refine blk_far ?_ NB803_812.out _; (with_reducible repeat (first | refine blk_drewN ?_ _ | refine blk_drew ?_ | refine blk_alloc ?_ _)); refine blk_far ?_ NB803_812.out _; exact Kz BK803.out) hb); have n6_ := am (blk_below (g := gb812) (o := .cells #[.int .i64 t804, .slice Ao20 t805.length co20, .slice Ao21 t808.length co21] 51 (0, 0)) (by (with_reducible repeat (first | refine blk_drewN ?_ _ | refine blk_drew ?_ | refine blk_alloc ?_ _)); refine blk_put (cs := #[.int .i64 t804, .slice Ao20 t805.length co20, .slice none 0 0]) ?_ 2 _ rfl; (with_reducible repeat (first | refine blk_drewN ?_ _ | refine blk_drew ?_ | refine blk_alloc ?_ _)); refine blk_put (cs := #[.int .i64 t804, .slice none 0 0, .slice none 0 0]) ?_ 1 _ rfl; (with_reducible repeat (first | refine blk_drewN ?_ _ | refine blk_drew ?_ | refine blk_alloc ?_ _)); refine blk_put (cs := #[.int .i64 0, .slice none 0 0, .slice none 0 0]) ?_ 0 _ rfl; exact Kz BK812.out) hb); have n7_ := Bc HB hb; clear HO794 HO798 HO801 HO807 HO810 BK803 BK812 HB; revert n0_ n1_ n2_ n3_ n4_ n5_ n6_ n7_; intro HO794 HO798 HO801 HO807 HO810 BK803 BK812 HB; (try clear hb); (try clear hb2); (try clear hk); (try clear hi)))
    go_meet
    case rel => exact ⟨_, (!t813), wZ, H', ⟨by first | omega | exact Nat.le_refl _⟩, ⟨Rz (Kd.R_mono HO794.out (fun _ hk => ⟨hk.1.1.1.2, ⟨hk.1.1.2, ⟨hk.1.2, hk.2⟩⟩⟩))⟩, ⟨Rz (Kd.R_mono HO798.out (fun _ hk => ⟨hk.1.1.2, ⟨hk.1.1.1, ⟨hk.1.2, hk.2⟩⟩⟩))⟩, ⟨Rz (Kd.R_mono HO801.out (fun _ hk => ⟨hk.1.1.2, ⟨hk.1.1.1, ⟨hk.1.2, hk.2⟩⟩⟩))⟩, ⟨Rz (Kd.R_mono HO807.out (fun _ hk => ⟨hk.1.1.2, ⟨hk.1.2, ⟨hk.2, hk.1.1.1⟩⟩⟩))⟩, ⟨Rz (Kd.R_mono HO810.out (fun _ hk => ⟨hk.1.1.2, ⟨hk.1.2, ⟨hk.2, hk.1.1.1⟩⟩⟩))⟩, ⟨Kz BK803.out⟩, ⟨Kz BK812.out⟩, ⟨Bq⟩⟩
  case rest =>
   clear HC8
   try clear c1
   try clear c2
   try clear p2
   try clear c4
   try clear c5
   try clear c9
   try clear c11
   try clear c18
   try clear c22
   try clear c22b0
   try clear c22b1
   try clear c22b2
   try clear c24
   try clear hcz13_0
   try clear hcz13_1
   try clear hcz13_2
   try clear hcz19_0
   try clear hcz19_1
   try clear hcz19_2
   try clear hcz25_0
   try clear hcz25_1
   try clear hcz25_2
   try clear hcz26_0
   try clear hcz26_1
   try clear hcz26_2
   try clear hfz13_0
   try clear hfz13_1
   try clear hfz13_2
   try clear hfz19_0
   try clear hfz19_1
   try clear hfz19_2
   try clear hfz25_0
   try clear hfz25_1
   try clear hfz25_2
   try clear hfz26_0
   try clear hfz26_1
   try clear hfz26_2
   obtain ⟨kq, x56_7, rfl, HA, HJ7, HO_6, HO_804001, HO_804002, HO_813001, HO_813002, BK803, BK812, HB⟩ := hcut; cases kq with
   | zero => exact absurd HA.out (by simp [laws_FnCuckooBuilt.j0])
   | succ kj7 =>
    have H := HA.out; clear HA
    simp only [laws_FnCuckooBuilt.j0] at H
    by_cases c28 : x56_7 = true
    ·subst c28
     rw [if_pos rfl] at H; exact absurd (Option.some.inj H) (by rw [HQT_.out]; decide)
    ·replace c28 := Bool.eq_false_iff.mpr c28
     subst c28
     rw [if_neg (show ¬ (false = true) by decide)] at H
     by_cases c29 : t802 = true
     ·subst c29
      rw [if_pos rfl] at H; replace H := Option.bind_eq_some_iff.mp H; obtain ⟨⟨t814, t817⟩, A300, H⟩ := H; (try dsimp -simprocs only at H); have A30 := am A300; clear A300; have HC31 := am H; clear H; have hnb32 := NB803_812.out; have hnc32 := NB812_803.out; obtain ⟨hcz33_0, hcz33_1, hcz33_2, hfz33_0, hfz33_1, hfz33_2⟩ := cf3 (w := wc) BK803
      go_upto_region 11 with (first | ((with_reducible refine gate_callee (f := 46) rfl ?_); refine gL (some 61) Try.func46 #[.agg #[.int .i64 t795, .slice Ao14 t796.length co14, .slice Ao15 t799.length co15]] ?_; (with_reducible refine (impl_CuckooKeys.calls kj7 t795 _ _ t796 _ _ t799 t814 t817 _ ?side1 ?side2 ?side3 ?side4 A30.out).mono ?_); (case side1 => exact Cz ((Kd.R_reads' HO_804001.out).2.2)); (case side2 => exact (Kd.R_reads' HO_804001.out).2.1); (case side3 => exact Cz ((Kd.R_reads' HO_804002.out).2.2)); (case side4 => exact (Kd.R_reads' HO_804002.out).2.1); rintro e w34 ⟨v815, rfl, ho0, hb⟩; refine ⟨_, rfl, ?_⟩; have n0_ := Re HO_6 (Kd.R_base ho0) hb; have n1_ := Re HO_804001 (Kd.R_base ho0) hb; have n2_ := Re HO_804002 (Kd.R_base ho0) hb; have n3_ := Re HO_813001 (Kd.R_base ho0) hb; have n4_ := Re HO_813002 (Kd.R_base ho0) hb; have n5_ := am (Kd.R_lower (Kd.R_new' (Kd.R_new' (Kd.R_new' (Kd.R_new' (Kd.R_new' ho0 (Kd.R_lt (Rz HO_6.out))) (Kd.R_lt (Rz HO_804001.out))) (Kd.R_lt (Rz HO_804002.out))) (Kd.R_lt (Rz HO_813001.out))) (Kd.R_lt (Rz HO_813002.out))) (below_size (w := w) (Bq))); have n6_ := Kb BK803 hb; have n7_ := Kb BK812 hb; have n8_ := Bc HB hb; clear HO_6 HO_804001 HO_804002 HO_813001 HO_813002 BK803 BK812 HB; revert n0_ n1_ n2_ n3_ n4_ n5_ n6_ n7_ n8_; intro HO_6 HO_804001 HO_804002 HO_813001 HO_813002 HO816 BK803 BK812 HB; (try clear hb); (try clear hb2); (try clear hk); (try clear hi); (try clear ho0)))
      (try simp only [aP])
      go_cut [76] (fun v76 wc => ∃ (kq : Nat) (x76_30 : Bool), v76 = .bool x76_30 ∧ Aside0 (laws_FnCuckooBuilt.j1 kq t789 t790 t791 x76_30 t795 t796 t799 = some r) ∧ Aside0 (kq ≤ kj7) ∧ Aside0 (Kd.R Kd.string 9 wc w.heap.size (fun k_ => some k_ ≠ ((.slice Ao14 t796.length co14) : Value).ownBlock ∧ some k_ ≠ ((.slice Ao15 t799.length co15) : Value).ownBlock ∧ some k_ ≠ ((.slice Ao20 t805.length co20) : Value).ownBlock ∧ some k_ ≠ ((.slice Ao21 t808.length co21) : Value).ownBlock) (.slice Ao10 t790.length co10) t790) ∧ Aside0 (Kd.R Kd.string 9 wc w.heap.size (fun k_ => some k_ ≠ ((.slice Ao10 t790.length co10) : Value).ownBlock ∧ some k_ ≠ ((.slice Ao15 t799.length co15) : Value).ownBlock ∧ some k_ ≠ ((.slice Ao20 t805.length co20) : Value).ownBlock ∧ some k_ ≠ ((.slice Ao21 t808.length co21) : Value).ownBlock) (.slice Ao14 t796.length co14) t796) ∧ Aside0 (Kd.R Kd.string 9 wc w.heap.size (fun k_ => some k_ ≠ ((.slice Ao10 t790.length co10) : Value).ownBlock ∧ some k_ ≠ ((.slice Ao14 t796.length co14) : Value).ownBlock ∧ some k_ ≠ ((.slice Ao20 t805.length co20) : Value).ownBlock ∧ some k_ ≠ ((.slice Ao21 t808.length co21) : Value).ownBlock) (.slice Ao15 t799.length co15) t799) ∧ Aside0 (Kd.R Kd.string 9 wc w.heap.size (fun k_ => some k_ ≠ ((.slice Ao10 t790.length co10) : Value).ownBlock ∧ some k_ ≠ ((.slice Ao14 t796.length co14) : Value).ownBlock ∧ some k_ ≠ ((.slice Ao15 t799.length co15) : Value).ownBlock ∧ some k_ ≠ ((.slice Ao21 t808.length co21) : Value).ownBlock) (.slice Ao20 t805.length co20) t805) ∧ Aside0 (Kd.R Kd.string 9 wc w.heap.size (fun k_ => some k_ ≠ ((.slice Ao10 t790.length co10) : Value).ownBlock ∧ some k_ ≠ ((.slice Ao14 t796.length co14) : Value).ownBlock ∧ some k_ ≠ ((.slice Ao15 t799.length co15) : Value).ownBlock ∧ some k_ ≠ ((.slice Ao20 t805.length co20) : Value).ownBlock) (.slice Ao21 t808.length co21) t808) ∧ Aside0 (wc.heap[gb803]? = some (.cells #[.int .i64 t795, (.slice Ao14 t796.length co14), (.slice Ao15 t799.length co15)] 51 (0, 0))) ∧ Aside0 (wc.heap[gb812]? = some (.cells #[.int .i64 t804, (.slice Ao20 t805.length co20), (.slice Ao21 t808.length co21)] 51 (0, 0))) ∧ Aside0 (Below w.heap.size w wc))
      case first =>
       have H := HC31.out; clear HC31
       by_cases c35 : t817 = true
       ·subst c35
        rw [if_pos rfl] at H; replace H := Option.bind_eq_some_iff.mp H; obtain ⟨t818, A360, H⟩ := H; (try dsimp -simprocs only at H); have A36 := am A360; clear A360
        by_cases c37 : t818 = true
        ·subst c37
         rw [if_pos rfl] at H; replace H := Option.bind_eq_some_iff.mp H; obtain ⟨t819, A380, H⟩ := H; (try dsimp -simprocs only at H); have A38 := am A380; clear A380; have H' := am H; clear H; obtain ⟨Ao39, co39, eo39⟩ := Kd.R_slice HO816.out; subst eo39
         go_wp2_with (first | (go_at_call 51; (with_reducible refine (laws_pSameTexts.calls kj7 _ _ t814 _ _ t790 true _ ?side1 ?side2 ?side3 ?side4 A36.out).mono ?_); (case side1 => exact Cz ((Kd.R_reads' HO816.out).2.2)); (case side2 => exact (Kd.R_reads' HO816.out).2.1); (case side3 => exact Cz ((Kd.R_reads' HO_6.out).2.2)); (case side4 => exact (Kd.R_reads' HO_6.out).2.1); rintro e w' ⟨rfl, ⟨nd, rfl⟩⟩; have hnb40 := NB803_812.out; have hnc40 := NB812_803.out; obtain ⟨hcz41_0, hcz41_1, hcz41_2, hfz41_0, hfz41_1, hfz41_2⟩ := cf3 (w := w34) BK803) | (go_at_call 52; (with_reducible refine (impl_IsCuckoo.calls kj7 t795 _ _ t796 _ _ t799 t819 _ ?side1 ?side2 ?side3 ?side4 A38.out).mono ?_); (case side1 => exact Cz ((Kd.R_reads' HO_804001.out).2.2)); (case side2 => exact (Kd.R_reads' HO_804001.out).2.1); (case side3 => exact Cz ((Kd.R_reads' HO_804002.out).2.2)); (case side4 => exact (Kd.R_reads' HO_804002.out).2.1); rintro e w42 ⟨rfl, hb⟩; have n0_ := Rb HO_6 hb; have n1_ := Rb HO_804001 hb; have n2_ := Rb HO_804002 hb; have n3_ := Rb HO_813001 hb; have n4_ := Rb HO_813002 hb; have n5_ := Rb HO816 hb; have n6_ := Kb BK803 hb; have n7_ := Kb BK812 hb; have n8_ := Bc HB hb; clear HO_6 HO_804001 HO_804002 HO_813001 HO_813002 HO816 BK803 BK812 HB; revert n0_ n1_ n2_ n3_ n4_ n5_ n6_ n7_ n8_; intro HO_6 HO_804001 HO_804002 HO_813001 HO_813002 HO816 BK803 BK812 HB; (try clear hb); (try clear hb2); (try clear hk); (try clear hi)))
         go_meet
         case rel => exact ⟨_, (!t819), wZ, H', ⟨by have := HJ7.out; first | omega | exact Nat.le_refl _⟩, ⟨Rz (Kd.R_mono HO_6.out (fun _ hk => ⟨hk.1.1, ⟨hk.1.2.1, ⟨hk.1.2.2.1, hk.1.2.2.2⟩⟩⟩))⟩, ⟨Rz (Kd.R_mono HO_804001.out (fun _ hk => ⟨hk.1.1, ⟨hk.1.2.1, ⟨hk.1.2.2.1, hk.1.2.2.2⟩⟩⟩))⟩, ⟨Rz (Kd.R_mono HO_804002.out (fun _ hk => ⟨hk.1.1, ⟨hk.1.2.1, ⟨hk.1.2.2.1, hk.1.2.2.2⟩⟩⟩))⟩, ⟨Rz (Kd.R_mono HO_813001.out (fun _ hk => ⟨hk.1.1, ⟨hk.1.2.1, ⟨hk.1.2.2.1, hk.1.2.2.2⟩⟩⟩))⟩, ⟨Rz (Kd.R_mono HO_813002.out (fun _ hk => ⟨hk.1.1, ⟨hk.1.2.1, ⟨hk.1.2.2.1, hk.1.2.2.2⟩⟩⟩))⟩, ⟨Kz BK803.out⟩, ⟨Kz BK812.out⟩, ⟨Bq⟩⟩
        ·replace c37 := Bool.eq_false_iff.mpr c37
         subst c37
         rw [if_neg (show ¬ (false = true) by decide)] at H; exact absurd (H.trans (congrArg some HQT_.out)) (laws_FnCuckooBuilt.j1.dead _ _ _ _ _ _ _)
       ·replace c35 := Bool.eq_false_iff.mpr c35
        subst c35
        rw [if_neg (show ¬ (false = true) by decide)] at H; exact absurd (H.trans (congrArg some HQT_.out)) (laws_FnCuckooBuilt.j1.dead _ _ _ _ _ _ _)
      case rest =>
       clear HC31
       try clear c1
       try clear c2
       try clear p2
       try clear c3
       try clear c4
       try clear c5
       try clear c9
       try clear c11
       try clear c18
       try clear c22
       try clear c22b0
       try clear c22b1
       try clear c22b2
       try clear c24
       try clear c28
       try clear c29
       try clear c32
       try clear c35
       try clear c37
       try clear c40
       try clear hcz13_0
       try clear hcz13_1
       try clear hcz13_2
       try clear hcz19_0
       try clear hcz19_1
       try clear hcz19_2
       try clear hcz25_0
       try clear hcz25_1
       try clear hcz25_2
       try clear hcz26_0
       try clear hcz26_1
       try clear hcz26_2
       try clear hcz33_0
       try clear hcz33_1
       try clear hcz33_2
       try clear hcz41_0
       try clear hcz41_1
       try clear hcz41_2
       try clear hfz13_0
       try clear hfz13_1
       try clear hfz13_2
       try clear hfz19_0
       try clear hfz19_1
       try clear hfz19_2
       try clear hfz25_0
       try clear hfz25_1
       try clear hfz25_2
       try clear hfz26_0
       try clear hfz26_1
       try clear hfz26_2
       try clear hfz33_0
       try clear hfz33_1
       try clear hfz33_2
       try clear hfz41_0
       try clear hfz41_1
       try clear hfz41_2
       try clear p2
       obtain ⟨kq, x76_30, rfl, HA, HJ30, HO_6, HO_804001, HO_804002, HO_813001, HO_813002, BK803, BK812, HB⟩ := hcut; cases kq with
       | zero => exact absurd HA.out (by simp [laws_FnCuckooBuilt.j1])
       | succ kj30 =>
        have H := HA.out; clear HA
        simp only [laws_FnCuckooBuilt.j1] at H
        by_cases c43 : x76_30 = true
        ·subst c43
         rw [if_pos rfl] at H; exact absurd (Option.some.inj H) (by rw [HQT_.out]; decide)
        ·replace c43 := Bool.eq_false_iff.mpr c43
         subst c43
         rw [if_neg (show ¬ (false = true) by decide)] at H
         by_cases c44 : (t799.length : Int) > 0
         ·rw [if_pos c44] at H
          have c44b0 : decide (0 < (t799.length : Int)) = true := decide_eq_true c44; have c44b1 : decide (0 < t799.length) = true := decide_eq_true (by omega); clear c44; obtain rfl := Option.some.inj H; have hnb45 := NB803_812.out; have hnc45 := NB812_803.out; obtain ⟨hcz46_0, hcz46_1, hcz46_2, hfz46_0, hfz46_1, hfz46_2⟩ := cf3 (w := wc) BK803
          go_wp2
          go_ret
          exact ⟨eZ, Bq⟩
         ·rw [if_neg c44] at H
          have c44b0 : decide (0 < (t799.length : Int)) = false := decide_eq_false c44; have c44b1 : decide (0 < t799.length) = false := decide_eq_false (by omega); clear c44; have H' := am H; clear H; have hnb47 := NB803_812.out; have hnc47 := NB812_803.out; obtain ⟨hcz48_0, hcz48_1, hcz48_2, hfz48_0, hfz48_1, hfz48_2⟩ := cf3 (w := wc) BK803
          go_wp2
          go_loopg [15, 83] kj30 (fun kq v15 v83 w' => ∃ (x15_3 : List Int) (x83_3 : Int), v83 = .int .i64 x83_3 ∧ Aside0 (laws_FnCuckooBuilt.l0 kq t789 t790 t791 x15_3 t790 (t790.length : Int) x83_3 t795 t796 t799 = some r) ∧ Aside0 (kq ≤ kj30) ∧ Aside0 (Kd.R Kd.string 9 w' w.heap.size (fun k_ => some k_ ≠ ((.slice Ao14 t796.length co14) : Value).ownBlock ∧ some k_ ≠ ((.slice Ao15 t799.length co15) : Value).ownBlock ∧ some k_ ≠ ((.slice Ao20 t805.length co20) : Value).ownBlock ∧ some k_ ≠ ((.slice Ao21 t808.length co21) : Value).ownBlock) (.slice Ao10 t790.length co10) t790) ∧ Aside0 (Kd.R (Kd.int .i64) 3 w' w.heap.size (fun _ => True) v15 x15_3) ∧ Aside0 (Kd.R Kd.string 9 w' w.heap.size (fun k_ => some k_ ≠ ((.slice Ao14 t796.length co14) : Value).ownBlock ∧ some k_ ≠ ((.slice Ao15 t799.length co15) : Value).ownBlock ∧ some k_ ≠ ((.slice Ao20 t805.length co20) : Value).ownBlock ∧ some k_ ≠ ((.slice Ao21 t808.length co21) : Value).ownBlock) (.slice Ao10 t790.length co10) t790) ∧ Aside0 (Kd.R Kd.string 9 w' w.heap.size (fun k_ => some k_ ≠ ((.slice Ao10 t790.length co10) : Value).ownBlock ∧ some k_ ≠ ((.slice Ao10 t790.length co10) : Value).ownBlock ∧ some k_ ≠ ((.slice Ao15 t799.length co15) : Value).ownBlock ∧ some k_ ≠ ((.slice Ao20 t805.length co20) : Value).ownBlock ∧ some k_ ≠ ((.slice Ao21 t808.length co21) : Value).ownBlock) (.slice Ao14 t796.length co14) t796) ∧ Aside0 (Kd.R Kd.string 9 w' w.heap.size (fun k_ => some k_ ≠ ((.slice Ao10 t790.length co10) : Value).ownBlock ∧ some k_ ≠ ((.slice Ao10 t790.length co10) : Value).ownBlock ∧ some k_ ≠ ((.slice Ao14 t796.length co14) : Value).ownBlock ∧ some k_ ≠ ((.slice Ao20 t805.length co20) : Value).ownBlock ∧ some k_ ≠ ((.slice Ao21 t808.length co21) : Value).ownBlock) (.slice Ao15 t799.length co15) t799) ∧ Aside0 (Kd.R Kd.string 9 w' w.heap.size (fun k_ => some k_ ≠ ((.slice Ao10 t790.length co10) : Value).ownBlock ∧ some k_ ≠ ((.slice Ao10 t790.length co10) : Value).ownBlock ∧ some k_ ≠ ((.slice Ao14 t796.length co14) : Value).ownBlock ∧ some k_ ≠ ((.slice Ao15 t799.length co15) : Value).ownBlock ∧ some k_ ≠ ((.slice Ao21 t808.length co21) : Value).ownBlock) (.slice Ao20 t805.length co20) t805) ∧ Aside0 (Kd.R Kd.string 9 w' w.heap.size (fun k_ => some k_ ≠ ((.slice Ao10 t790.length co10) : Value).ownBlock ∧ some k_ ≠ ((.slice Ao10 t790.length co10) : Value).ownBlock ∧ some k_ ≠ ((.slice Ao14 t796.length co14) : Value).ownBlock ∧ some k_ ≠ ((.slice Ao15 t799.length co15) : Value).ownBlock ∧ some k_ ≠ ((.slice Ao20 t805.length co20) : Value).ownBlock) (.slice Ao21 t808.length co21) t808) ∧ Aside0 (w'.heap[gb803]? = some (.cells #[.int .i64 t795, (.slice Ao14 t796.length co14), (.slice Ao15 t799.length co15)] 51 (0, 0))) ∧ Aside0 (w'.heap[gb812]? = some (.cells #[.int .i64 t804, (.slice Ao20 t805.length co20), (.slice Ao21 t808.length co21)] 51 (0, 0))) ∧ Aside0 (Below w.heap.size w w'))
          case atStart => exact ⟨(([] : List Int)), (0), wZ, H', ⟨Nat.le_refl _⟩, ⟨Rz HO_6.out⟩, ⟨nZ⟩, ⟨Rz HO_6.out⟩, ⟨Rz (Kd.R_mono HO_804001.out (fun _ hk => ⟨hk.1, ⟨hk.1, ⟨hk.2.1, ⟨hk.2.2.1, hk.2.2.2⟩⟩⟩⟩))⟩, ⟨Rz (Kd.R_mono HO_804002.out (fun _ hk => ⟨hk.1, ⟨hk.1, ⟨hk.2.1, ⟨hk.2.2.1, hk.2.2.2⟩⟩⟩⟩))⟩, ⟨Rz (Kd.R_mono HO_813001.out (fun _ hk => ⟨hk.1, ⟨hk.1, ⟨hk.2.1, ⟨hk.2.2.1, hk.2.2.2⟩⟩⟩⟩))⟩, ⟨Rz (Kd.R_mono HO_813002.out (fun _ hk => ⟨hk.1, ⟨hk.1, ⟨hk.2.1, ⟨hk.2.2.1, hk.2.2.2⟩⟩⟩⟩))⟩, ⟨Kz BK803.out⟩, ⟨Kz BK812.out⟩, ⟨Bq⟩⟩
          case round =>
           clear H'
           try clear c1
           try clear c2
           try clear p2
           try clear c3
           try clear c4
           try clear c5
           try clear c9
           try clear c11
           try clear c18
           try clear c22
           try clear c22b0
           try clear c22b1
           try clear c22b2
           try clear c24
           try clear c28
           try clear c29
           try clear c32
           try clear c35
           try clear c37
           try clear c40
           try clear c43
           try clear c44
           try clear c44b0
           try clear c44b1
           try clear c45
           try clear c46
           try clear c47
           try clear hcz13_0
           try clear hcz13_1
           try clear hcz13_2
           try clear hcz19_0
           try clear hcz19_1
           try clear hcz19_2
           try clear hcz25_0
           try clear hcz25_1
           try clear hcz25_2
           try clear hcz26_0
           try clear hcz26_1
           try clear hcz26_2
           try clear hcz33_0
           try clear hcz33_1
           try clear hcz33_2
           try clear hcz41_0
           try clear hcz41_1
           try clear hcz41_2
           try clear hcz46_0
           try clear hcz46_1
           try clear hcz46_2
           try clear hcz48_0
           try clear hcz48_1
           try clear hcz48_2
           try clear hfz13_0
           try clear hfz13_1
           try clear hfz13_2
           try clear hfz19_0
           try clear hfz19_1
           try clear hfz19_2
           try clear hfz25_0
           try clear hfz25_1
           try clear hfz25_2
           try clear hfz26_0
           try clear hfz26_1
           try clear hfz26_2
           try clear hfz33_0
           try clear hfz33_1
           try clear hfz33_2
           try clear hfz41_0
           try clear hfz41_1
           try clear hfz41_2
           try clear hfz46_0
           try clear hfz46_1
           try clear hfz46_2
           try clear hfz48_0
           try clear hfz48_1
           try clear hfz48_2
           try clear p2
           obtain ⟨x15_3, x83_3, rfl, HA, HK3, HO_6, HO_15, HO_81, HO_804001, HO_804002, HO_813001, HO_813002, BK803, BK812, HB⟩ := hrel; cases gk with
           | zero => exact absurd HA.out (by simp [laws_FnCuckooBuilt.l0])
           | succ k3 =>
            have H := HA.out; clear HA
            simp only [laws_FnCuckooBuilt.l0] at H
            by_cases c49 : x83_3 < (t790.length : Int)
            ·rw [if_pos c49] at H
             have c49b0 : decide (x83_3 < (t790.length : Int)) = true := decide_eq_true c49; clear c49
             by_cases c50 : 0 ≤ x83_3
             ·rw [if_pos c50] at H
              have c50b0 : decide (0 ≤ x83_3) = true := decide_eq_true c50; clear c50
              by_cases c51 : x83_3 < (t790.length : Int)
              ·rw [if_pos c51] at H
               have c51b0 : decide (x83_3 < (t790.length : Int)) = true := decide_eq_true c51; clear c51; replace H := Option.bind_eq_some_iff.mp H; obtain ⟨⟨t821, t822⟩, A520, H⟩ := H; (try dsimp -simprocs only at H); have A52 := am A520; clear A520
               by_cases c53 : t822 = true
               ·subst c53
                rw [if_pos rfl] at H
                by_cases c54 : x15_3.length < 17592186044416
                ·rw [if_pos c54] at H
                 have LMc54 := am c54; clear c54; obtain ⟨y823, hy823⟩ : ∃ y_ : List Int, y_ = (x15_3 ++ [t821]) := ⟨_, rfl⟩
                 replace H : (laws_FnCuckooBuilt.l0 k3 t789 t790 t791 y823 t790 (t790.length : Int) (wrap64 (x83_3 + 1)) t795 t796 t799) = some r := by first | (rw [hy823]; with_reducible exact H) | (have H2_ := (Option.bind_some _ _).symm.trans H; rw [hy823]; with_reducible exact H2_) | (have H2_ := (Option.bind_some _ _).symm.trans H; with_reducible exact H2_) | with_reducible exact H | (rw [hy823]; exact H) | exact H
                 have Ny823 := am hy823; clear hy823; have H' := am H; clear H; obtain ⟨ad820, e820, hx820_0⟩ := Kd.at_string (Kd.R_reads' HO_81.out).2.2 x83_3 dT dT; cases e820; have p820 := eT (0 ≤ (x83_3 : Int)); have q820 := eT (x83_3 < (t790.length : Int)); have hnb55 := NB803_812.out; have hnc55 := NB812_803.out; obtain ⟨hcz56_0, hcz56_1, hcz56_2, hfz56_0, hfz56_1, hfz56_2⟩ := cf3 (w := wr) BK803
                 go_wp2_with (first | ((with_reducible refine gate_callee (f := 41) rfl ?_); refine gL (some 90) Try.func41 #[.agg #[.int .i64 t795, .slice Ao14 t796.length co14, .slice Ao15 t799.length co15], .string (rdOf ByteArray.empty t790 x83_3)] ?_; (with_reducible refine (impl_CuckooFind.calls k3 t795 _ _ t796 _ _ t799 (rdOf ByteArray.empty t790 x83_3) t821 true _ ?side1 ?side2 ?side3 ?side4 A52.out).mono ?_); (case side1 => exact Cz ((Kd.R_reads' HO_804001.out).2.2)); (case side2 => exact (Kd.R_reads' HO_804001.out).2.1); (case side3 => exact Cz ((Kd.R_reads' HO_804002.out).2.2)); (case side4 => exact (Kd.R_reads' HO_804002.out).2.1); rintro e w57 ⟨rfl, hb⟩; refine ⟨_, rfl, ?_⟩; have n0_ := Rb HO_6 hb; have n1_ := Rb HO_15 hb; have n2_ := Rb HO_81 hb; have n3_ := Rb HO_804001 hb; have n4_ := Rb HO_804002 hb; have n5_ := Rb HO_813001 hb; have n6_ := Rb HO_813002 hb; have n7_ := Kb BK803 hb; have n8_ := Kb BK812 hb; have n9_ := Bc HB hb; clear HO_6 HO_15 HO_81 HO_804001 HO_804002 HO_813001 HO_813002 BK803 BK812 HB; revert n0_ n1_ n2_ n3_ n4_ n5_ n6_ n7_ n8_ n9_; intro HO_6 HO_15 HO_81 HO_804001 HO_804002 HO_813001 HO_813002 BK803 BK812 HB; (try clear hb); (try clear hb2); (try clear hk); (try clear hi)) | ((with_reducible refine gate_builtin (b := .append) (xs := #[.tmp 95, .tmp 97]) rfl ?_); at_builtin; refine Kd.R_append (Kd.int .i64) (w0 := w) w.heap.size rfl (.tmp 95) (.tmp 97) 31 3 (.int .i64 0) 8 rfl Try.underlying31 info3 rfl (by decide) (by omega) u15 x15_3 t821 [.int .i64 t821] (fun _ => True) (fun _ => False) rfl rfl ?aP (fun _ hk => hk.elim) ?aF ?aO ?aB ?aS ?aL ?_; (case aP => exact rfl); (case aB => exact (Bq)); (case aF => exact (fun _ _ => trivial)); (case aO => exact (Rz HO_15.out)); (case aS => exact (below_size (w := w) (Bq))); (case aL => have := LMc54.out; omega); intro v824 w58 ho hb hg hat; rw [← Ny823.out] at ho; have n0_ := am (Kd.R_over' (Rz HO_6.out) (Kd.R_typed (Rz HO_15.out)) (by decide) hg); have n1_ := am (Kd.R_over' (Rz HO_81.out) (Kd.R_typed (Rz HO_15.out)) (by decide) hg); have n2_ := am (Kd.R_over' (Rz HO_804001.out) (Kd.R_typed (Rz HO_15.out)) (by decide) hg); have n3_ := am (Kd.R_over' (Rz HO_804002.out) (Kd.R_typed (Rz HO_15.out)) (by decide) hg); have n4_ := am (Kd.R_over' (Rz HO_813001.out) (Kd.R_typed (Rz HO_15.out)) (by decide) hg); have n5_ := am (Kd.R_over' (Rz HO_813002.out) (Kd.R_typed (Rz HO_15.out)) (by decide) hg); have n6_ := am (blk_grown (g := gb803) (o := .cells #[.int .i64 t795, .slice Ao14 t796.length co14, .slice Ao15 t799.length co15] 51 (0, 0)) (Kz BK803.out) hg (Kd.R_ne HO_15.out BK803.out (by decide))); have n7_ := am (blk_grown (g := gb812) (o := .cells #[.int .i64 t804, .slice Ao20 t805.length co20, .slice Ao21 t808.length co21] 51 (0, 0)) (Kz BK812.out) hg (Kd.R_ne HO_15.out BK812.out (by decide))); have n8_ := am (hb); have n9_ := am (ho); clear HO_6 HO_81 HO_804001 HO_804002 HO_813001 HO_813002 BK803 BK812 HB HO_15; revert n0_ n1_ n2_ n3_ n4_ n5_ n6_ n7_ n8_ n9_; intro HO_6 HO_81 HO_804001 HO_804002 HO_813001 HO_813002 BK803 BK812 HB HO825; clear ho hb hg hat))
                 go_roundg k3
                 case measure => have := HJ7.out; have := HJ30.out; have := HK3.out; omega
                 case rel => exact ⟨(y823), (wrap64 (x83_3 + 1)), wZ, H', ⟨by have := HJ7.out; have := HJ30.out; have := HK3.out; omega⟩, ⟨Rz HO_6.out⟩, ⟨Rz HO825.out⟩, ⟨Rz HO_81.out⟩, ⟨Rz HO_804001.out⟩, ⟨Rz HO_804002.out⟩, ⟨Rz HO_813001.out⟩, ⟨Rz HO_813002.out⟩, ⟨Kz BK803.out⟩, ⟨Kz BK812.out⟩, ⟨Bq⟩⟩
                ·rw [if_neg c54] at H
                 exact absurd H (by simp)
               ·replace c53 := Bool.eq_false_iff.mpr c53
                subst c53
                rw [if_neg (show ¬ (false = true) by decide)] at H; exact absurd (Option.some.inj H) (by rw [HQT_.out]; decide)
              ·rw [if_neg c51] at H
               exact absurd H (by simp)
             ·rw [if_neg c50] at H
              exact absurd H (by simp)
            ·rw [if_neg c49] at H
             have c49b0 : decide (x83_3 < (t790.length : Int)) = false := decide_eq_false c49; clear c49; replace H := Option.bind_eq_some_iff.mp H; obtain ⟨⟨t826, t827⟩, A590, H⟩ := H; (try dsimp -simprocs only at H); have A59 := am A590; clear A590
             by_cases c60 : t827 = true
             ·subst c60
              rw [if_pos rfl] at H; obtain rfl := Option.some.inj H; obtain ⟨Ao61, co61, eo61⟩ := Kd.R_slice HO_15.out; subst eo61
              go_wp2_with (first | ((with_reducible refine gate_callee (f := 31) rfl ?_); refine gL (some 105) Try.func31 #[.int .i64 t789, .slice Ao10 t790.length co10, .int .i64 t791, .slice Ao61 x15_3.length co61] ?_; (with_reducible refine (impl_IsPlacement.calls k3 t789 _ _ t790 t791 _ _ x15_3 t826 true _ ?side1 ?side2 ?side3 ?side4 A59.out).mono ?_); (case side1 => exact Cz ((Kd.R_reads' HO_6.out).2.2)); (case side2 => exact (Kd.R_reads' HO_6.out).2.1); (case side3 => exact Cz ((Kd.R_reads' HO_15.out).2.2)); (case side4 => exact (Kd.R_reads' HO_15.out).2.1); rintro e w62 ⟨rfl, hb⟩; refine ⟨_, rfl, ?_⟩; have n0_ := Rb HO_6 hb; have n1_ := Rb HO_15 hb; have n2_ := Rb HO_81 hb; have n3_ := Rb HO_804001 hb; have n4_ := Rb HO_804002 hb; have n5_ := Rb HO_813001 hb; have n6_ := Rb HO_813002 hb; have n7_ := Kb BK803 hb; have n8_ := Kb BK812 hb; have n9_ := Bc HB hb; clear HO_6 HO_15 HO_81 HO_804001 HO_804002 HO_813001 HO_813002 BK803 BK812 HB; revert n0_ n1_ n2_ n3_ n4_ n5_ n6_ n7_ n8_ n9_; intro HO_6 HO_15 HO_81 HO_804001 HO_804002 HO_813001 HO_813002 BK803 BK812 HB; (try clear hb); (try clear hb2); (try clear hk); (try clear hi)))
              go_ret
              exact ⟨eZ, Bq⟩
             ·replace c60 := Bool.eq_false_iff.mpr c60
              subst c60
              rw [if_neg (show ¬ (false = true) by decide)] at H; exact absurd (Option.some.inj H) (by rw [HQT_.out]; decide)
     ·replace c29 := Bool.eq_false_iff.mpr c29
      subst c29
      rw [if_neg (show ¬ (false = true) by decide)] at H; obtain rfl := Option.some.inj H
      go_wp2
      go_ret
      exact ⟨eZ, Bq⟩

def laws_FnCuckooBuilt.Pure : Prop := ∀ (l0 : List Int) (l1 : List Int), l0.length ≤ maxLen → l0.length * 1 ≤ 140737488351232 → (∀ x ∈ l0, (Lit.int .u8 x).wf = true) → l1.length ≤ maxLen → l1.length * 1 ≤ 140737488351232 → (∀ x ∈ l1, (Lit.int .u8 x).wf = true) → ∃ k, laws_FnCuckooBuilt.f k l0 l1 = some true
theorem laws_FnCuckooBuilt.walk (P : laws_FnCuckooBuilt.Pure) (a0 : Option Addr) (len0 cap0 : Nat) (z0 : List Int) (a1 : Option Addr) (len1 cap1 : Nat) (z1 : List Int) (w : World) (w0 : (a0 = none ∧ len0 = 0 ∧ cap0 = 0 ∧ z0 = []) ∨ ∃ x, a0 = some x ∧ len0 ≤ cap0 ∧ cap0 ≤ maxLen ∧ z0.length = cap0 ∧ (∀ i, i < z0.length → w.cell? (x.add i) = some (.int .u8 (z0.getD i 0))) ∧ ∀ n ∈ z0, (Lit.int .u8 n).wf = true) (y0 : len0 * 1 ≤ 140737488351232) (w1 : (a1 = none ∧ len1 = 0 ∧ cap1 = 0 ∧ z1 = []) ∨ ∃ x, a1 = some x ∧ len1 ≤ cap1 ∧ cap1 ≤ maxLen ∧ z1.length = cap1 ∧ (∀ i, i < z1.length → w.cell? (x.add i) = some (.int .u8 (z1.getD i 0))) ∧ ∀ n ∈ z1, (Lit.int .u8 n).wf = true) (y1 : len1 * 1 ≤ 140737488351232) :
  Calls Try.prog 9 #[.slice a0 len0 cap0, .slice a1 len1 cap1] w fun e w' => e = .returned (.bool true) ∧ Below w.heap.size w w' := by
 obtain ⟨l0, rfl, hr0, hm0, hw0, hc0⟩ := ReadsInt.ofRowC w0; obtain ⟨l1, rfl, hr1, hm1, hw1, hc1⟩ := ReadsInt.ofRowC w1; obtain ⟨k, h⟩ := P l0 l1 hm0 y0 hw0 hm1 y1 hw1; refine (laws_FnCuckooBuilt.calls k _ _ l0 _ _ l1 true w (Kd.C_of_reads (d := (0 : Int)) (h1 := fun _ => rfl) hr0) hc0 (Kd.C_of_reads (d := (0 : Int)) (h1 := fun _ => rfl) hr1) hc1 h rfl).mono ?_; rintro e w' ⟨rfl, hd⟩; exact ⟨rfl, hd⟩

end Go.Proofs.Ytephjmmkggcmeaa.PG
-- printed by a program of this session (wip/gp) out of the translation; Lean checks it
namespace Go.Proofs.Ytephjmmkggcmeaa.PG
open Go.RowKit Go.Proofs.YtephjmmkggcmeaaW.PrintWords Go.Proofs.YtephjmmkggcmeaaW.PrintLast Go.Proofs.YtephjmmkggcmeaaW.PrintMore Go.Proofs.YtephjmmkggcmeaaSq
attribute [local go_sem] max2_int min2_int max_two min_two max_three min_three max_four min_four   -- for this text's walks alone
attribute [local go_sem] Go.Proofs.YtephjmmkggcmeaaGp.str_geq Go.Proofs.YtephjmmkggcmeaaGp.str_gtr Go.Proofs.YtephjmmkggcmeaaGp.str_leq
set_option linter.unusedVariables false
set_option linter.unusedSimpArgs false

set_option maxHeartbeats 8000000
set_option maxRecDepth 100000
-- BY HAND: function 104 (slices_Delete_string_string)

end Go.Proofs.Ytephjmmkggcmeaa.PG
-- printed by a program of this session (wip/gp) out of the translation; Lean checks it
namespace Go.Proofs.Ytephjmmkggcmeaa.PG
open Go.RowKit Go.Proofs.YtephjmmkggcmeaaW.PrintWords Go.Proofs.YtephjmmkggcmeaaW.PrintLast Go.Proofs.YtephjmmkggcmeaaW.PrintMore Go.Proofs.YtephjmmkggcmeaaSq
attribute [local go_sem] max2_int min2_int max_two min_two max_three min_three max_four min_four   -- for this text's walks alone
attribute [local go_sem] Go.Proofs.YtephjmmkggcmeaaGp.str_geq Go.Proofs.YtephjmmkggcmeaaGp.str_gtr Go.Proofs.YtephjmmkggcmeaaGp.str_leq
set_option linter.unusedVariables false
set_option linter.unusedSimpArgs false

set_option maxHeartbeats 8000000
set_option maxRecDepth 100000
open Go Go.Maps Go.Proofs.YtephjmmkggcmeaaGp
end Go.Proofs.Ytephjmmkggcmeaa.PG
-- printed by a program of this session (wip/gp) out of the translation; Lean checks it
namespace Go.Proofs.Ytephjmmkggcmeaa.PG
open Go.RowKit Go.Proofs.YtephjmmkggcmeaaW.PrintWords Go.Proofs.YtephjmmkggcmeaaW.PrintLast Go.Proofs.YtephjmmkggcmeaaW.PrintMore Go.Proofs.YtephjmmkggcmeaaSq
attribute [local go_sem] max2_int min2_int max_two min_two max_three min_three max_four min_four   -- for this text's walks alone
attribute [local go_sem] Go.Proofs.YtephjmmkggcmeaaGp.str_geq Go.Proofs.YtephjmmkggcmeaaGp.str_gtr Go.Proofs.YtephjmmkggcmeaaGp.str_leq
set_option linter.unusedVariables false
set_option linter.unusedSimpArgs false

set_option maxHeartbeats 8000000
set_option maxRecDepth 100000
end Go.Proofs.Ytephjmmkggcmeaa.PG
-- printed by a program of this session (wip/gp) out of the translation; Lean checks it
namespace Go.Proofs.Ytephjmmkggcmeaa.PG
open Go.RowKit Go.Proofs.YtephjmmkggcmeaaW.PrintWords Go.Proofs.YtephjmmkggcmeaaW.PrintLast Go.Proofs.YtephjmmkggcmeaaW.PrintMore Go.Proofs.YtephjmmkggcmeaaSq
attribute [local go_sem] max2_int min2_int max_two min_two max_three min_three max_four min_four   -- for this text's walks alone
attribute [local go_sem] Go.Proofs.YtephjmmkggcmeaaGp.str_geq Go.Proofs.YtephjmmkggcmeaaGp.str_gtr Go.Proofs.YtephjmmkggcmeaaGp.str_leq
set_option linter.unusedVariables false
set_option linter.unusedSimpArgs false

set_option maxHeartbeats 8000000
set_option maxRecDepth 100000
end Go.Proofs.Ytephjmmkggcmeaa.PG
namespace Go.Proofs.YtephjmmkggcmeaaQ
open Go Go.RowKit Go.Proofs.YtephjmmkggcmeaaW.PrintWords Go.Proofs.YtephjmmkggcmeaaGp

theorem ev_succ {α : Type} {g : Nat → Option α} {r : α} (h : Ev (fun k => g (k + 1)) r) : Ev g r := Ev.step (f := fun k => g (k + 1)) (fun _ => rfl) h
theorem ev_some {α : Type} {a r : α} (h : a = r) : Ev (fun _ => some a) r := h ▸ Ev.now a
theorem ev_pos {α : Type} {c : Prop} [Decidable c] {f g : Nat → Option α} {r : α} (h : c) (k : Ev f r) : Ev (fun n => if c then f n else g n) r := by simpa only [if_pos h] using k
theorem ev_neg {α : Type} {c : Prop} [Decidable c] {f g : Nat → Option α} {r : α} (h : ¬ c) (k : Ev g r) : Ev (fun n => if c then f n else g n) r := by simpa only [if_neg h] using k
theorem ev_bind {α β : Type} {g : Nat → Option α} {f : Nat → α → Option β} {r : β} (a : α) (h : Ev g a) (k : Ev (fun n => f n a) r) : Ev (fun n => (g n).bind (f n)) r := Ev.bind h k
theorem w64 {x : Int} (h0 : -9223372036854775808 ≤ x) (h1 : x ≤ 9223372036854775807) : wrap64 x = x := by unfold wrap64; omega
theorem winc {i : Nat} (h : (i : Int) < 9223372036854775807) : wrap64 ((i : Int) + 1) = ((i + 1 : Nat) : Int) := by unfold wrap64; omega
theorem wdec {i : Nat} (h : (i : Int) < 9223372036854775807) : wrap64 (((i + 1 : Nat) : Int) - 1) = (i : Int) := by unfold wrap64; omega
theorem maxLen_eq : maxLen = 9223372036854775807 := by unfold maxLen; rfl
section
variable {α : Type} {d : α} {pre t : List α} {s : α}
theorem rdOf_mid : rdOf d (pre ++ s :: t) ((pre.length : Nat) : Int) = s := by simp [rdOf]
theorem rdOf_last {p : α} : rdOf d ((pre ++ [p]) ++ s :: t) ((pre.length : Nat) : Int) = p := by simp [rdOf]
theorem rdOf_get {xs : List α} {i : Nat} (h : i < xs.length) : rdOf d xs (i : Int) = xs[i] := by simp [rdOf, h]
theorem lt_mid : ((pre.length : Nat) : Int) < ((pre ++ s :: t).length : Int) := by simp; omega
theorem not_lt_end : ¬ ((pre.length : Nat) : Int) < ((pre ++ ([] : List α)).length : Int) := by simp
theorem len_one : ((pre ++ [s]).length : Int) = ((pre.length + 1 : Nat) : Int) := by simp
end
theorem rd_mid {pre t : List Int} {s : Int} : rd (pre ++ s :: t) ((pre.length : Nat) : Int) = s := by simp [rd]
theorem tl (s : ByteArray) : s.toList = s.data.toList := Lib.toList_data s
theorem tl_inj {x y : ByteArray} : x.toList = y.toList ↔ x = y := by
  rw [tl, tl]
  exact ⟨fun h => ByteArray.ext (Array.toList_inj.1 h), fun h => h ▸ rfl⟩
theorem size_len (s : ByteArray) : s.size = s.data.toList.length := (data_length s).symm
theorem bt_mid {s : ByteArray} {pre t : List UInt8} {c : UInt8} (h : s.data.toList = pre ++ c :: t) : bt s ((pre.length : Nat) : Int) = (c.toNat : Int) := by
  have hs : pre.length < s.size := by rw [size_len, h]; simp
  have hg : s[pre.length]'hs = c := by
    have : s.data.toList[pre.length]'(by rw [h]; simp) = c := by simp [h]
    rw [← this]; rfl
  unfold bt
  rw [dif_pos (by simpa using hs)]
  simp only [Int.toNat_natCast, hg]
theorem lt_size {s : ByteArray} {pre t : List UInt8} {c : UInt8} (h : s.data.toList = pre ++ c :: t) : ((pre.length : Nat) : Int) < (s.size : Int) := by rw [size_len, h]; simp; omega
theorem not_lt_size {s : ByteArray} {pre : List UInt8} (h : s.data.toList = pre ++ []) : ¬ ((pre.length : Nat) : Int) < (s.size : Int) := by rw [size_len, h]; simp
def lessS (a b : ByteArray) : Bool := Op.bytesLess a.toList b.toList
theorem lessS_irrefl (a : ByteArray) : lessS a a = false := bl_irrefl _
theorem bl_trans : ∀ a b c : List UInt8, Op.bytesLess a b = true → Op.bytesLess b c = true → Op.bytesLess a c = true
  | [], _, [], _, h => by cases ‹List UInt8› <;> simp [Op.bytesLess] at h
  | [], _, _ :: _, _, _ => by simp [Op.bytesLess]
  | _ :: _, [], _, h, _ => by simp [Op.bytesLess] at h
  | _ :: _, _ :: _, [], _, h => by simp [Op.bytesLess] at h
  | a :: l, b :: m, c :: n, h1, h2 => by
    have ih := bl_trans l m n
    simp only [Op.bytesLess, Bool.or_eq_true, Bool.and_eq_true, decide_eq_true_eq, beq_iff_eq, UInt8.lt_iff_toNat_lt] at h1 h2 ⊢
    rcases h1 with h1 | ⟨rfl, h1⟩
    · rcases h2 with h2 | ⟨rfl, h2⟩
      · exact .inl (by omega)
      · exact .inl h1
    · rcases h2 with h2 | ⟨rfl, h2⟩
      · exact .inl h2
      · exact .inr ⟨rfl, ih h1 h2⟩
theorem lessS_trans {a b c : ByteArray} (h1 : lessS a b = true) (h2 : lessS b c = true) : lessS a c = true := bl_trans _ _ _ h1 h2
theorem lessS_total (a b : ByteArray) (h : lessS a b = false) : lessS b a = true ∨ a = b := by
  have t := bl_total a.toList b.toList
  unfold lessS at h ⊢
  rw [h] at t
  by_cases e : a = b
  · exact .inr e
  · left
    have : (a.toList == b.toList) = false := by simpa [tl_inj] using e
    rw [this] at t
    have t2 := bl_total b.toList a.toList
    cases hb : Op.bytesLess b.toList a.toList
    · rw [hb, h] at t2
      simp only [Bool.false_or, Bool.not_false] at t2
      exact absurd (tl_inj.1 (by simpa using t2)) (fun e' => e e'.symm)
    · rfl
end Go.Proofs.YtephjmmkggcmeaaQ
namespace Go.Proofs.YtephjmmkggcmeaaQ
open Go Go.RowKit Go.Proofs.YtephjmmkggcmeaaW.PrintWords Go.Proofs.YtephjmmkggcmeaaGp Go.Proofs.Ytephjmmkggcmeaa.PG

theorem spec_in (n a b : Int) : spec_l1In.f n a b = some (decide (a ≤ n ∧ n ≤ b)) := by
  unfold spec_l1In.f
  by_cases h : a ≤ n <;> by_cases h' : n ≤ b <;> simp [h, h']
theorem impl_in (n a b : Int) : impl_in.f n a b = some (decide (a ≤ n ∧ n ≤ b)) := by
  unfold impl_in.f
  by_cases h : a ≤ n <;> by_cases h' : n ≤ b <;> simp [h, h']

def byteOk (c : UInt8) : Bool := decide (33 ≤ (c.toNat : Int) ∧ (c.toNat : Int) ≤ 125)
def isKeyB (s : ByteArray) : Bool := s.data.toList.all byteOk && decide (1 ≤ (s.size : Int) ∧ (s.size : Int) ≤ 12)
theorem spec_IsKey_l0 (x0 : ByteArray) (hz : (x0.size : Int) ≤ 9223372036854775806) : ∀ (t pre : List UInt8), x0.data.toList = pre ++ t →
    Ev (fun k => spec_IsKey.l0 k x0 (pre.length : Int)) (t.all byteOk && decide (1 ≤ (x0.size : Int) ∧ (x0.size : Int) ≤ 12)) := by
  intro t
  induction t with
  | nil =>
    intro pre h
    refine ev_succ ?_
    simp only [spec_IsKey.l0, spec_in, Option.bind_some]
    exact ev_neg (not_lt_size h) (ev_some (by simp))
  | cons c t ih =>
    intro pre h
    have hm := lt_size h
    refine ev_succ ?_
    simp only [spec_IsKey.l0, bt_mid h]
    refine ev_pos hm (ev_pos (by omega) ?_)
    by_cases c1 : (c.toNat : Int) < 33
    · exact ev_pos c1 (ev_some (by simp [byteOk]; omega))
    · refine ev_neg c1 ?_
      by_cases c2 : (c.toNat : Int) > 125
      · exact ev_pos c2 (ev_some (by simp [byteOk]; omega))
      · refine ev_neg c2 ?_
        rw [winc (by omega)]
        have := ih (pre ++ [c]) (by rw [h]; simp)
        rw [len_one] at this
        have hb : byteOk c = true := by simp [byteOk]; omega
        simpa [hb] using this
theorem spec_IsKey_f (s : ByteArray) (hz : (s.size : Int) ≤ 9223372036854775806) : Ev (fun k => spec_IsKey.f k s) (isKeyB s) := by
  unfold spec_IsKey.f
  exact spec_IsKey_l0 s hz s.data.toList [] rfl
theorem impl_IsKey_l0 (x0 : ByteArray) (hz : (x0.size : Int) ≤ 9223372036854775806) : ∀ (t pre : List UInt8), x0.data.toList = pre ++ t →
    Ev (fun k => impl_IsKey.l0 k x0 (x0.size : Int) (pre.length : Int)) (t.all byteOk && decide (1 ≤ (x0.size : Int) ∧ (x0.size : Int) ≤ 12)) := by
  intro t
  induction t with
  | nil =>
    intro pre h
    refine ev_succ ?_
    simp only [impl_IsKey.l0, impl_in, Option.bind_some]
    exact ev_neg (not_lt_size h) (ev_some (by simp))
  | cons c t ih =>
    intro pre h
    have hm := lt_size h
    refine ev_succ ?_
    simp only [impl_IsKey.l0, bt_mid h]
    refine ev_pos hm (ev_pos (by omega) (ev_pos hm ?_))
    by_cases c1 : (c.toNat : Int) < 33
    · exact ev_pos c1 (ev_some (by simp [byteOk]; omega))
    · refine ev_neg c1 ?_
      by_cases c2 : (c.toNat : Int) > 125
      · exact ev_pos c2 (ev_some (by simp [byteOk]; omega))
      · refine ev_neg c2 ?_
        rw [winc (by omega)]
        have := ih (pre ++ [c]) (by rw [h]; simp)
        rw [len_one] at this
        have hb : byteOk c = true := by simp [byteOk]; omega
        simpa [hb] using this
theorem impl_IsKey_f (s : ByteArray) (hz : (s.size : Int) ≤ 9223372036854775806) : Ev (fun k => impl_IsKey.f k s) (isKeyB s) := by
  unfold impl_IsKey.f
  exact impl_IsKey_l0 s hz s.data.toList [] rfl
theorem isKeyB_size {s : ByteArray} (h : isKeyB s = true) : 1 ≤ s.size ∧ s.size ≤ 12 := by
  simp [isKeyB] at h
  omega

def keysFrom : Option ByteArray → List ByteArray → Bool
  | _, [] => true
  | p, s :: t => isKeyB s && (match p with | none => true | some q => lessS q s) && keysFrom (some s) t
def areKeysB (l : List ByteArray) : Bool := keysFrom none l && decide ((l.length : Int) ≤ 40)
def lastOf (pre : List ByteArray) : Option ByteArray := pre.getLast?
theorem lastOf_one (pre : List ByteArray) (s : ByteArray) : lastOf (pre ++ [s]) = some s := by simp [lastOf]
theorem lastOf_nil : lastOf [] = none := rfl
theorem last_split {pre : List ByteArray} (h : 0 < pre.length) : ∃ q p, pre = q ++ [p] := by
  obtain ⟨x, hx⟩ : ∃ x, pre.getLast? = some x := by
    cases hp : pre.getLast? with
    | none => rw [List.getLast?_eq_none_iff] at hp; subst hp; simp at h
    | some x => exact ⟨x, rfl⟩
  obtain ⟨q, hq⟩ := List.getLast?_eq_some_iff.1 hx
  exact ⟨q, x, hq⟩

theorem spec_biKeys_l0 (x0 : List ByteArray) (hl : (x0.length : Int) ≤ 9223372036854775806) : ∀ (t pre : List ByteArray), x0 = pre ++ t → (∀ s ∈ t, (s.size : Int) ≤ 9223372036854775806) →
    Ev (fun k => spec_biKeys.l0 k x0 x0 (x0.length : Int) (pre.length : Int)) (keysFrom (lastOf pre) t && decide ((x0.length : Int) ≤ 40)) := by
  intro t
  induction t with
  | nil =>
    intro pre h hs
    refine ev_succ ?_
    simp only [spec_biKeys.l0]
    exact ev_neg (by rw [h]; exact not_lt_end) (ev_some (by simp [keysFrom]))
  | cons s t ih =>
    intro pre h hs
    have hm : ((pre.length : Nat) : Int) < (x0.length : Int) := by rw [h]; exact lt_mid
    have hg : rdOf ByteArray.empty x0 (pre.length : Int) = s := by rw [h]; exact rdOf_mid
    have next := ih (pre ++ [s]) (by rw [h]; simp) (fun x hx => hs x (by simp [hx]))
    rw [len_one, lastOf_one] at next
    refine ev_succ ?_
    simp only [spec_biKeys.l0, hg]
    refine ev_pos hm (ev_pos (by omega) (ev_pos hm (ev_bind _ (spec_IsKey_f s (hs s (by simp))) ?_)))
    cases hk : isKeyB s with
    | false => exact ev_neg (by simp) (ev_some (by simp [keysFrom, hk]))
    | true =>
      refine ev_pos rfl ?_
      by_cases c : 0 < pre.length
      · obtain ⟨q, p, rfl⟩ := last_split c
        have hp : rdOf ByteArray.empty x0 ((q.length : Nat) : Int) = p := by rw [h]; exact rdOf_last
        have hw : wrap64 (((q ++ [p]).length : Int) - 1) = (q.length : Int) := by rw [len_one]; exact wdec (by simp at hm; omega)
        simp only [hw, hp, lastOf_one, keysFrom, hk, Bool.true_and]
        refine ev_pos (by omega) (ev_pos (by omega) (ev_pos (by simp at hm; omega) ?_))
        by_cases c2 : lessS p s = true
        · refine ev_pos c2 ?_
          rw [winc (by omega), c2, Bool.true_and]
          exact next
        · refine ev_neg c2 (ev_some ?_)
          simp only [Bool.not_eq_true] at c2
          simp [c2]
      · obtain rfl := List.length_eq_zero_iff.1 (show pre.length = 0 by omega)
        refine ev_neg (by simp) ?_
        rw [winc (by omega)]
        simp only [lastOf_nil, keysFrom, hk, Bool.true_and]
        exact next
theorem spec_biKeys_f (l : List ByteArray) (hl : (l.length : Int) ≤ 9223372036854775806) (hs : ∀ s ∈ l, (s.size : Int) ≤ 9223372036854775806) : Ev (fun k => spec_biKeys.f k l) (areKeysB l) := by
  unfold spec_biKeys.f
  exact spec_biKeys_l0 l hl l [] rfl hs
theorem impl_AreKeys_l0 (x0 : List ByteArray) (hl : (x0.length : Int) ≤ 9223372036854775806) : ∀ (t pre : List ByteArray), x0 = pre ++ t → (∀ s ∈ t, (s.size : Int) ≤ 9223372036854775806) →
    Ev (fun k => impl_AreKeys.l0 k x0 x0 (x0.length : Int) (pre.length : Int)) (keysFrom (lastOf pre) t && decide ((x0.length : Int) ≤ 40)) := by
  intro t
  induction t with
  | nil =>
    intro pre h hs
    refine ev_succ ?_
    simp only [impl_AreKeys.l0]
    exact ev_neg (by rw [h]; exact not_lt_end) (ev_some (by simp [keysFrom]))
  | cons s t ih =>
    intro pre h hs
    have hm : ((pre.length : Nat) : Int) < (x0.length : Int) := by rw [h]; exact lt_mid
    have hg : rdOf ByteArray.empty x0 (pre.length : Int) = s := by rw [h]; exact rdOf_mid
    have next := ih (pre ++ [s]) (by rw [h]; simp) (fun x hx => hs x (by simp [hx]))
    rw [len_one, lastOf_one] at next
    refine ev_succ ?_
    simp only [impl_AreKeys.l0, hg]
    refine ev_pos hm (ev_pos (by omega) (ev_pos hm (ev_bind _ (impl_IsKey_f s (hs s (by simp))) ?_)))
    cases hk : isKeyB s with
    | false => exact ev_neg (by simp) (ev_some (by simp [keysFrom, hk]))
    | true =>
      refine ev_pos rfl ?_
      by_cases c : 0 < pre.length
      · obtain ⟨q, p, rfl⟩ := last_split c
        have hp : rdOf ByteArray.empty x0 ((q.length : Nat) : Int) = p := by rw [h]; exact rdOf_last
        have hw : wrap64 (((q ++ [p]).length : Int) - 1) = (q.length : Int) := by rw [len_one]; exact wdec (by simp at hm; omega)
        simp only [hw, hp, lastOf_one, keysFrom, hk, Bool.true_and]
        refine ev_pos (by omega) (ev_pos (by omega) (ev_pos (by simp at hm; omega) ?_))
        by_cases c2 : lessS p s = true
        · refine ev_pos c2 ?_
          rw [winc (by omega), c2, Bool.true_and]
          exact next
        · refine ev_neg c2 (ev_some ?_)
          simp only [Bool.not_eq_true] at c2
          simp [c2]
      · obtain rfl := List.length_eq_zero_iff.1 (show pre.length = 0 by omega)
        refine ev_neg (by simp) ?_
        rw [winc (by omega)]
        simp only [lastOf_nil, keysFrom, hk, Bool.true_and]
        exact next
theorem impl_AreKeys_f (l : List ByteArray) (hl : (l.length : Int) ≤ 9223372036854775806) (hs : ∀ s ∈ l, (s.size : Int) ≤ 9223372036854775806) : Ev (fun k => impl_AreKeys.f k l) (areKeysB l) := by
  unfold impl_AreKeys.f
  exact impl_AreKeys_l0 l hl l [] rfl hs
theorem areKeysB_len {l : List ByteArray} (h : areKeysB l = true) : l.length ≤ 40 := by
  simp [areKeysB] at h
  omega
theorem keysFrom_all : ∀ (p : Option ByteArray) (l : List ByteArray), keysFrom p l = true → ∀ s ∈ l, isKeyB s = true
  | _, [], _, s, h => by simp at h
  | p, x :: t, hk, s, h => by
    simp only [keysFrom, Bool.and_eq_true] at hk
    rcases List.mem_cons.1 h with rfl | h
    · exact hk.1.1
    · exact keysFrom_all _ t hk.2 s h
theorem areKeysB_all {l : List ByteArray} (h : areKeysB l = true) : ∀ s ∈ l, isKeyB s = true := by
  simp only [areKeysB, Bool.and_eq_true] at h
  exact keysFrom_all _ _ h.1
end Go.Proofs.YtephjmmkggcmeaaQ
namespace Go.Proofs.YtephjmmkggcmeaaQ
open Go Go.RowKit Go.Proofs.YtephjmmkggcmeaaW.PrintWords Go.Proofs.YtephjmmkggcmeaaGp Go.Proofs.Ytephjmmkggcmeaa.PG

def idxS : List ByteArray → ByteArray → Nat → Int
  | [], _, _ => -1
  | x :: t, s, i => if x = s then (i : Int) else idxS t s (i + 1)
theorem idxS_mem : ∀ (l : List ByteArray) (s : ByteArray) (i : Nat), 0 ≤ idxS l s i ↔ s ∈ l
  | [], s, i => by simp [idxS]
  | x :: t, s, i => by
    simp only [idxS]
    split
    · rename_i c; simp [c]
    · rename_i c; rw [idxS_mem t s (i + 1)]; simp [Ne.symm c]
theorem slices_Index_string_string_l0 (x0 : List ByteArray) (s : ByteArray) (hl : (x0.length : Int) ≤ 9223372036854775806) : ∀ (t pre : List ByteArray), x0 = pre ++ t →
    Ev (fun k => slices_Index_string_string.l0 k x0 s (x0.length : Int) (pre.length : Int)) (idxS t s pre.length) := by
  intro t
  induction t with
  | nil =>
    intro pre h
    refine ev_succ ?_
    simp only [slices_Index_string_string.l0]
    exact ev_neg (by rw [h]; exact not_lt_end) (ev_some (by simp [idxS]))
  | cons x t ih =>
    intro pre h
    have hm : ((pre.length : Nat) : Int) < (x0.length : Int) := by rw [h]; exact lt_mid
    have hg : rdOf ByteArray.empty x0 (pre.length : Int) = x := by rw [h]; exact rdOf_mid
    refine ev_succ ?_
    simp only [slices_Index_string_string.l0, hg, tl_inj]
    refine ev_pos hm (ev_pos (by omega) (ev_pos hm ?_))
    by_cases c : s = x
    · exact ev_pos c (ev_some (by simp [idxS, c]))
    · refine ev_neg c ?_
      rw [winc (by omega)]
      have := ih (pre ++ [x]) (by rw [h]; simp)
      rw [len_one] at this
      have e : idxS (x :: t) s pre.length = idxS t s (pre ++ [x]).length := by simp [idxS, Ne.symm c]
      rw [e]
      exact this
theorem slices_Index_string_string_f (l : List ByteArray) (s : ByteArray) (hl : (l.length : Int) ≤ 9223372036854775806) : Ev (fun k => slices_Index_string_string.f k l s) (idxS l s 0) := by
  unfold slices_Index_string_string.f
  exact slices_Index_string_string_l0 l s hl l [] rfl
end Go.Proofs.YtephjmmkggcmeaaQ
namespace Go.Proofs.YtephjmmkggcmeaaQ
open Go Go.RowKit Go.Proofs.YtephjmmkggcmeaaW.PrintWords Go.Proofs.YtephjmmkggcmeaaGp Go.Proofs.Ytephjmmkggcmeaa.PG

def mm (x y : Int) : Int := Int.tmod (wrap64 (x * y)) 65521
theorem mul_range {x y : Int} (hx : 0 ≤ x) (hx1 : x ≤ 65520) (hy : 0 ≤ y) (hy1 : y ≤ 65520) : 0 ≤ x * y ∧ x * y ≤ 4292870400 :=
  ⟨Int.mul_nonneg hx hy, by have := Int.mul_le_mul hx1 hy1 hy (by omega); omega⟩
theorem emod_range (x : Int) : 0 ≤ x % 65521 ∧ x % 65521 ≤ 65520 := by omega
theorem mm_eq {x y : Int} (hx : 0 ≤ x) (hx1 : x ≤ 65520) (hy : 0 ≤ y) (hy1 : y ≤ 65520) : mm x y = x * y % 65521 := by
  obtain ⟨h0, h1⟩ := mul_range hx hx1 hy hy1
  unfold mm
  rw [w64 (by omega) (by omega)]
  exact Int.tmod_eq_emod_of_nonneg h0
theorem mm_mod (a b : Int) : mm (a % 65521) (b % 65521) = a * b % 65521 := by
  rw [mm_eq (emod_range a).1 (emod_range a).2 (emod_range b).1 (emod_range b).2]
  exact (Int.mul_emod a b 65521).symm
def pw (h : Int) : Nat → Int
  | 0 => 1
  | n + 1 => pw h n * h
theorem self_mod {h : Int} (h0 : 0 ≤ h) (h1 : h ≤ 65520) : h = h % 65521 := by omega
theorem mm11 {h : Int} (h0 : 0 ≤ h) (h1 : h ≤ 65520) : mm (mm (mm (mm (mm h h) (mm h h)) h) (mm (mm (mm h h) (mm h h)) h)) h = pw h 11 % 65521 := by
  have e := self_mod h0 h1
  have a2 : mm h h = h * h % 65521 := mm_eq h0 h1 h0 h1
  have a4 : mm (mm h h) (mm h h) = (h * h) * (h * h) % 65521 := by rw [a2, mm_mod]
  have a5 : mm (mm (mm h h) (mm h h)) h = (h * h) * (h * h) * h % 65521 := by
    rw [a4]; conv => lhs; arg 2; rw [e]
    rw [mm_mod]
  rw [a5, mm_mod]
  conv => lhs; arg 2; rw [e]
  rw [mm_mod]
  congr 1
  simp only [pw, Int.one_mul, Int.mul_assoc]
theorem mm_pw {h : Int} (h0 : 0 ≤ h) (h1 : h ≤ 65520) (n : Nat) : mm (pw h n % 65521) h = pw h (n + 1) % 65521 := by
  conv => lhs; arg 2; rw [self_mod h0 h1]
  rw [mm_mod]
  rfl

def hstep (h : Int) (c : UInt8) : Int := Int.tmod (wrap64 ((wrap64 (263 * h)) + (wrap64 (c.toNat : Int)))) 65521
def hfold (h : Int) (l : List UInt8) : Int := l.foldl hstep h
theorem hstep_range {h : Int} {c : UInt8} (h0 : 0 ≤ h) (h1 : h ≤ 65520) : 0 ≤ hstep h c ∧ hstep h c ≤ 65520 := by
  have hc : c.toNat < 256 := c.toNat_lt
  unfold hstep
  rw [w64 (x := 263 * h) (by omega) (by omega), w64 (x := (c.toNat : Int)) (by omega) (by omega), w64 (by omega) (by omega), Int.tmod_eq_emod_of_nonneg (by omega)]
  omega
def hstart (a0 a1 : Int) : Int := Int.tmod (wrap64 ((wrap64 ((wrap64 (31 * a0)) + (wrap64 (977 * a1)))) + 7)) 65521
theorem hstart_range {a0 a1 : Int} (h0 : 0 ≤ a0) (h0' : a0 ≤ 1000000) (h1 : 0 ≤ a1) (h1' : a1 ≤ 1000000) : 0 ≤ hstart a0 a1 ∧ hstart a0 a1 ≤ 65520 := by
  unfold hstart
  rw [w64 (x := 31 * a0) (by omega) (by omega), w64 (x := 977 * a1) (by omega) (by omega), w64 (x := 31 * a0 + 977 * a1) (by omega) (by omega), w64 (by omega) (by omega), Int.tmod_eq_emod_of_nonneg (by omega)]
  omega
def hashV (a0 a1 : Int) (s : ByteArray) : Int := pw (hfold (hstart a0 a1) s.data.toList) 11 % 65521
theorem hashV_range (a0 a1 : Int) (s : ByteArray) : 0 ≤ hashV a0 a1 s ∧ hashV a0 a1 s ≤ 65520 := emod_range _
theorem spec_biHash_l0 (x2 : ByteArray) (hz : (x2.size : Int) ≤ 9223372036854775806) : ∀ (t pre : List UInt8) (h : Int), x2.data.toList = pre ++ t → 0 ≤ h → h ≤ 65520 →
    Ev (fun k => spec_biHash.l0 k x2 h (pre.length : Int)) (pw (hfold h t) 11 % 65521) := by
  intro t
  induction t with
  | nil =>
    intro pre h e h0 h1
    refine ev_succ ?_
    simp only [spec_biHash.l0]
    refine ev_neg (not_lt_size e) (ev_some ?_)
    exact mm11 h0 h1
  | cons c t ih =>
    intro pre h e h0 h1
    have hm := lt_size e
    refine ev_succ ?_
    simp only [spec_biHash.l0, bt_mid e]
    refine ev_pos hm (ev_pos (by omega) ?_)
    rw [winc (by omega)]
    have := ih (pre ++ [c]) (hstep h c) (by rw [e]; simp) (hstep_range h0 h1).1 (hstep_range h0 h1).2
    rw [len_one] at this
    exact this
theorem spec_biHash_f (a0 a1 : Int) (s : ByteArray) (hz : (s.size : Int) ≤ 9223372036854775806) (h0 : 0 ≤ a0) (h0' : a0 ≤ 1000000) (h1 : 0 ≤ a1) (h1' : a1 ≤ 1000000) :
    Ev (fun k => spec_biHash.f k a0 a1 s) (hashV a0 a1 s) := by
  unfold spec_biHash.f
  exact spec_biHash_l0 s hz s.data.toList [] _ rfl (hstart_range h0 h0' h1 h1').1 (hstart_range h0 h0' h1 h1').2
theorem impl_hash_l1 {h : Int} (h0 : 0 ≤ h) (h1 : h ≤ 65520) : ∀ (m i : Nat), i + m = 11 → Ev (fun k => impl_hash.l1 k h (pw h i % 65521) (i : Int)) (pw h 11 % 65521) := by
  intro m
  induction m with
  | zero =>
    intro i e
    obtain rfl : i = 11 := by omega
    refine ev_succ ?_
    simp only [impl_hash.l1]
    exact ev_neg (by omega) (ev_some rfl)
  | succ m ih =>
    intro i e
    refine ev_succ ?_
    simp only [impl_hash.l1]
    refine ev_pos (by omega) ?_
    rw [winc (by omega)]
    have := ih (i + 1) (by omega)
    rw [← mm_pw h0 h1 i] at this
    exact this
theorem impl_hash_l0 (x2 : ByteArray) (hz : (x2.size : Int) ≤ 9223372036854775806) : ∀ (t pre : List UInt8) (h : Int), x2.data.toList = pre ++ t → 0 ≤ h → h ≤ 65520 →
    Ev (fun k => impl_hash.l0 k x2 h (x2.size : Int) (pre.length : Int)) (pw (hfold h t) 11 % 65521) := by
  intro t
  induction t with
  | nil =>
    intro pre h e h0 h1
    refine ev_succ ?_
    simp only [impl_hash.l0]
    exact ev_neg (not_lt_size e) (impl_hash_l1 h0 h1 11 0 rfl)
  | cons c t ih =>
    intro pre h e h0 h1
    have hm := lt_size e
    refine ev_succ ?_
    simp only [impl_hash.l0, bt_mid e]
    refine ev_pos hm (ev_pos (by omega) (ev_pos hm ?_))
    rw [winc (by omega)]
    have := ih (pre ++ [c]) (hstep h c) (by rw [e]; simp) (hstep_range h0 h1).1 (hstep_range h0 h1).2
    rw [len_one] at this
    exact this
theorem impl_hash_f (a0 a1 : Int) (s : ByteArray) (hz : (s.size : Int) ≤ 9223372036854775806) (h0 : 0 ≤ a0) (h0' : a0 ≤ 1000000) (h1 : 0 ≤ a1) (h1' : a1 ≤ 1000000) :
    Ev (fun k => impl_hash.f k a0 a1 s) (hashV a0 a1 s) := by
  unfold impl_hash.f
  exact impl_hash_l0 s hz s.data.toList [] _ rfl (hstart_range h0 h0' h1 h1').1 (hstart_range h0 h0' h1 h1').2

def placeV (a0 a1 : Int) (s : ByteArray) (n : Int) : Int := wrap64 (Int.tdiv (wrap64 (hashV a0 a1 s * n)) 65521)
theorem placeV_range (a0 a1 : Int) (s : ByteArray) {n : Int} (h0 : 1 ≤ n) (h1 : n ≤ 1000000) : 0 ≤ placeV a0 a1 s n ∧ placeV a0 a1 s n < n := by
  obtain ⟨a, b⟩ := hashV_range a0 a1 s
  have c := Int.mul_nonneg a (show (0 : Int) ≤ n by omega)
  have d := Int.mul_le_mul_of_nonneg_right b (show (0 : Int) ≤ n by omega)
  unfold placeV
  generalize hashV a0 a1 s * n = y at *
  rw [w64 (x := y) (by omega) (by omega), Int.tdiv_eq_ediv_of_nonneg (by omega), w64 (by omega) (by omega)]
  omega
theorem spec_biPlace_f (a0 a1 : Int) (s : ByteArray) (n : Int) (hz : (s.size : Int) ≤ 9223372036854775806) (h0 : 0 ≤ a0) (h0' : a0 ≤ 1000000) (h1 : 0 ≤ a1) (h1' : a1 ≤ 1000000) :
    Ev (fun k => spec_biPlace.f k a0 a1 s n) (placeV a0 a1 s n) := by
  unfold spec_biPlace.f
  exact ev_bind _ (spec_biHash_f a0 a1 s hz h0 h0' h1 h1') (Ev.now _)
theorem impl_place_f (a0 a1 : Int) (s : ByteArray) (n : Int) (hz : (s.size : Int) ≤ 9223372036854775806) (h0 : 0 ≤ a0) (h0' : a0 ≤ 1000000) (h1 : 0 ≤ a1) (h1' : a1 ≤ 1000000) :
    Ev (fun k => impl_place.f k a0 a1 s n) (placeV a0 a1 s n) := by
  unfold impl_place.f
  exact ev_bind _ (impl_hash_f a0 a1 s hz h0 h0' h1 h1') (Ev.now _)
end Go.Proofs.YtephjmmkggcmeaaQ
