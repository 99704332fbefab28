import Derived.Test.YtephjmmkggcmeaaCL1
import Derived.Test.YtephjmmkggcmeaaCL2
-- printed by a program of this session (wip/gp) out of the translation; Lean checks it
namespace Go.Proofs.Ytephjmmkggcmeaa.PL
open Go.RowKit Go.Proofs.YtephjmmkggcmeaaW.PrintWords Go.Proofs.YtephjmmkggcmeaaW.PrintLast Go.Proofs.YtephjmmkggcmeaaW.PrintMore Go.Proofs.YtephjmmkggcmeaaSq
attribute [local go_sem] max2_int min2_int max_two min_two max_three min_three max_four min_four   -- for this text's walks alone
attribute [local go_sem] Go.Proofs.YtephjmmkggcmeaaGp.str_geq Go.Proofs.YtephjmmkggcmeaaGp.str_gtr Go.Proofs.YtephjmmkggcmeaaGp.str_leq
set_option linter.unusedVariables false
set_option linter.unusedSimpArgs false

set_option maxHeartbeats 8000000
set_option maxRecDepth 100000
theorem impl_pairs.calls (k : Nat) (a0 : Int) (A1 : Option Addr) (c1 : Nat) (l1 : List ByteArray) (a2 : Int) (r1 : List (List Int)) (r2 : Bool) (w : World) (hr1 : Kd.C Kd.string w A1 l1.length l1) (hc1 : l1.length ≤ c1) (h : impl_pairs.f k a0 l1 a2 = some (r1, r2)) :
  Calls Try.prog 60 #[.int .i64 a0, .slice A1 l1.length c1, .int .i64 a2] w fun e w' => ∃ v0_ : Value, e = .returned (.tuple #[v0_, .bool r2]) ∧ Kd.S (Kd.slice 3 (Kd.int .i64)) 31 w' w.heap.size (fun _ => True) v0_ r1 ∧ Below w.heap.size w w' := by
 have HR1 := am hr1; have HC1 := am hc1; clear hr1 hc1; have HB := am (Below.refl w.heap.size w); have H : ((impl_isSeed.f a0).bind fun t317 => (if t317 = true then ((impl_AreKeys.f k l1).bind fun t318 => (if t318 = true then ((impl_cellsOk.f a2).bind fun t319 => (impl_pairs.j0 k a0 l1 a2 (!t319))) else (impl_pairs.j0 k a0 l1 a2 true))) else (impl_pairs.j0 k a0 l1 a2 true))) = some (r1, r2) := h; clear h; have HC4 := am H; clear H
 go_enter Try.func60, Try.ntmps60
 go_upto_region 1 with (fail)
 go_cut [25] (fun v25 wc => ∃ (kq : Nat) (x25_3 : Bool), v25 = .bool x25_3 ∧ Aside0 (impl_pairs.j0 kq a0 l1 a2 x25_3 = some (r1, r2)) ∧ Aside0 (kq ≤ k) ∧ Aside0 (Below w.heap.size w wc))
 case first =>
  have H := HC4.out; clear HC4; replace H := Option.bind_eq_some_iff.mp H; obtain ⟨t317, A50, H⟩ := H; (try dsimp -simprocs only at H); have A5 := am A50; clear A50
  by_cases c6 : t317 = true
  ·subst c6
   rw [if_pos rfl] at H; replace H := Option.bind_eq_some_iff.mp H; obtain ⟨t318, A70, H⟩ := H; (try dsimp -simprocs only at H); have A7 := am A70; clear A70
   by_cases c8 : t318 = true
   ·subst c8
    rw [if_pos rfl] at H; replace H := Option.bind_eq_some_iff.mp H; obtain ⟨t319, A90, H⟩ := H; (try dsimp -simprocs only at H); have A9 := am A90; clear A90; have H' := am H; clear H
    go_wp2_with (first | ((with_reducible refine gate_callee (f := 65) rfl ?_); refine gL (some 14) Try.func65 #[.int .i64 a0] ?_; (with_reducible refine (impl_isSeed.calls a0 true _ A5.out).mono ?_); rintro e w' ⟨rfl, ⟨nd, rfl⟩⟩; refine ⟨_, rfl, ?_⟩) | (go_at_call 72; (with_reducible refine (impl_AreKeys.calls k _ _ l1 true _ ?side1 ?side2 A7.out).mono ?_); (case side1 => exact Kd.C_below HR1.out (Bz HB.out)); (case side2 => exact HC1.out); rintro e w' ⟨rfl, ⟨nd, rfl⟩⟩) | (go_at_call 67; (with_reducible refine (impl_cellsOk.calls a2 t319 _ A9.out).mono ?_); rintro e w' ⟨rfl, ⟨nd, rfl⟩⟩))
    go_meet
    case rel => exact ⟨_, (!t319), wZ, H', ⟨by first | omega | exact Nat.le_refl _⟩, ⟨Bz HB.out⟩⟩
   ·replace c8 := Bool.eq_false_iff.mpr c8
    subst c8
    rw [if_neg (show ¬ (false = true) by decide)] at H; have H' := am H; clear H
    go_wp2_with (first | ((with_reducible refine gate_callee (f := 65) rfl ?_); refine gL (some 14) Try.func65 #[.int .i64 a0] ?_; (with_reducible refine (impl_isSeed.calls a0 true _ A5.out).mono ?_); rintro e w' ⟨rfl, ⟨nd, rfl⟩⟩; refine ⟨_, rfl, ?_⟩) | (go_at_call 72; (with_reducible refine (impl_AreKeys.calls k _ _ l1 false _ ?side1 ?side2 A7.out).mono ?_); (case side1 => exact Kd.C_below HR1.out (Bz HB.out)); (case side2 => exact HC1.out); rintro e w' ⟨rfl, ⟨nd, rfl⟩⟩))
    go_meet
    case rel => exact ⟨_, (true), wZ, H', ⟨by first | omega | exact Nat.le_refl _⟩, ⟨Bz HB.out⟩⟩
  ·replace c6 := Bool.eq_false_iff.mpr c6
   subst c6
   rw [if_neg (show ¬ (false = true) by decide)] at H; have H' := am H; clear H
   go_wp2_with (first | ((with_reducible refine gate_callee (f := 65) rfl ?_); refine gL (some 14) Try.func65 #[.int .i64 a0] ?_; (with_reducible refine (impl_isSeed.calls a0 false _ A5.out).mono ?_); rintro e w' ⟨rfl, ⟨nd, rfl⟩⟩; refine ⟨_, rfl, ?_⟩))
   go_meet
   case rel => exact ⟨_, (true), wZ, H', ⟨by first | omega | exact Nat.le_refl _⟩, ⟨Bz HB.out⟩⟩
 case rest =>
  clear HC4
  try clear c1
  try clear p2
  try clear c6
  try clear c8
  obtain ⟨kq, x25_3, rfl, HA, HJ3, HB⟩ := hcut; cases kq with
  | zero => exact absurd HA.out (by simp [impl_pairs.j0])
  | succ kj3 =>
   have H := HA.out; clear HA
   simp only [impl_pairs.j0] at H
   by_cases c10 : x25_3 = true
   ·subst c10
    rw [if_pos rfl] at H
    simp only [Option.some.injEq, Prod.mk.injEq] at H
    obtain ⟨rfl, rfl⟩ := H
    go_wp2
    go_ret2
    exact ⟨_, eZ, by first | exact Kd.S_nil _ _ _ _ _ | exact Kd.N_nil _ _ _ _ _ | exact Kd.V_nil _ _ _ _ _ | exact Kd.Q_nil _ _ _ _ _ | exact Kd.R_nil _ _ _ _ _, Bz HB.out⟩
   ·replace c10 := Bool.eq_false_iff.mpr c10
    subst c10
    rw [if_neg (show ¬ (false = true) by decide)] at H; obtain ⟨y320, hy320⟩ : ∃ y_ : List (List Int), y_ = (([] : List (List Int))) := ⟨_, rfl⟩
    replace H : (impl_pairs.l0 kj3 a0 a2 y320 l1 (l1.length : Int) 0) = some (r1, r2) := by first | (rw [hy320]; with_reducible exact H) | (have H2_ := (Option.bind_some _ _).symm.trans H; rw [hy320]; with_reducible exact H2_) | (have H2_ := (Option.bind_some _ _).symm.trans H; with_reducible exact H2_) | with_reducible exact H | (rw [hy320]; exact H) | exact H
    have Ny320 := am hy320; clear hy320; have H' := am H; clear H
    go_wp2_with (first | ((with_reducible refine gate_dst (N := 26) rfl ?_); refine Kd.S_lit (Kd.slice 3 (Kd.int .i64)) _ 31 ?hg (N := 26) ?hd (xs := ([] : List (List Int))) (inner := []) (ok := fun _ => True) (okp := fun _ => True) ?hr ?hp (fun _ hk => hk) trivial (Below.refl _ _) (Nat.le_refl _) (by simp) ?_; (case hd => rfl); (case hg => rfl); (case hr => first | (go_simp; done) | (go_simp; rfl)); (case hp => exact (Reps.none _ _)); intro v321 w11 ho12 hb hg_ hnew_; clear hg_ hnew_; (first | rw [← Ny320.out] at ho12 | (simp only [Int.reduceToNat] at ho12; rw [← Ny320.out] at ho12)); have n0_ := am (Kd.S_lower ho12 (below_size (Bz HB.out))); have n1_ := Bb HB hb; clear HB; revert n0_ n1_; intro HO322 HB; clear hb ho12))
    (try simp only [aP])
    go_loopg [8, 29] kj3 (fun kq v8 v29 w' => ∃ (x8_2 : List (List Int)) (x29_2 : Int), v29 = .int .i64 x29_2 ∧ Aside0 (impl_pairs.l0 kq a0 a2 x8_2 l1 (l1.length : Int) x29_2 = some (r1, r2)) ∧ Aside0 (kq ≤ kj3) ∧ Aside0 (Kd.S (Kd.slice 3 (Kd.int .i64)) 31 w' w.heap.size (fun _ => True) v8 x8_2) ∧ Aside0 (Below w.heap.size w w'))
    case atStart => exact ⟨(y320), (0), wZ, H', ⟨Nat.le_refl _⟩, ⟨by (with_reducible repeat (first | apply Kd.S_alloc | apply Kd.S_drewN | apply Kd.S_drew)); exact HO322.out⟩, ⟨Bz HB.out⟩⟩
    case round =>
     clear H'
     try clear c1
     try clear p2
     try clear c6
     try clear c8
     try clear c10
     try clear p2
     obtain ⟨x8_2, x29_2, rfl, HA, HK2, HO_8, HB⟩ := hrel; cases gk with
     | zero => exact absurd HA.out (by simp [impl_pairs.l0])
     | succ k2 =>
      have H := HA.out; clear HA
      simp only [impl_pairs.l0] at H
      by_cases c13 : x29_2 < (l1.length : Int)
      ·rw [if_pos c13] at H
       have c13b0 : decide (x29_2 < (l1.length : Int)) = true := decide_eq_true c13; clear c13
       by_cases c14 : 0 ≤ x29_2
       ·rw [if_pos c14] at H
        have c14b0 : decide (0 ≤ x29_2) = true := decide_eq_true c14; clear c14
        by_cases c15 : x29_2 < (l1.length : Int)
        ·rw [if_pos c15] at H
         have c15b0 : decide (x29_2 < (l1.length : Int)) = true := decide_eq_true c15; clear c15; replace H := Option.bind_eq_some_iff.mp H; obtain ⟨⟨t324, t325⟩, A160, H⟩ := H; (try dsimp -simprocs only at H); have A16 := am A160; clear A160; obtain ⟨y326, hy326⟩ : ∃ y_ : List Int, y_ = (([t324, t325] : List Int)) := ⟨_, rfl⟩
         replace H : (if x8_2.length < 5864062014805 then (impl_pairs.l0 k2 a0 a2 (x8_2 ++ [y326]) l1 (l1.length : Int) (wrap64 (x29_2 + 1))) else (none)) = some (r1, r2) := by first | (rw [hy326]; with_reducible exact H) | (have H2_ := (Option.bind_some _ _).symm.trans H; rw [hy326]; with_reducible exact H2_) | (have H2_ := (Option.bind_some _ _).symm.trans H; with_reducible exact H2_) | with_reducible exact H | (rw [hy326]; exact H) | exact H
         have Ny326 := am hy326; clear hy326
         by_cases c17 : x8_2.length < 5864062014805
         ·rw [if_pos c17] at H
          have LMc17 := am c17; clear c17; obtain ⟨y329, hy329⟩ : ∃ y_ : List (List Int), y_ = (x8_2 ++ [y326]) := ⟨_, rfl⟩
          replace H : (impl_pairs.l0 k2 a0 a2 y329 l1 (l1.length : Int) (wrap64 (x29_2 + 1))) = some (r1, r2) := by first | (rw [hy329]; with_reducible exact H) | (have H2_ := (Option.bind_some _ _).symm.trans H; rw [hy329]; with_reducible exact H2_) | (have H2_ := (Option.bind_some _ _).symm.trans H; with_reducible exact H2_) | with_reducible exact H | (rw [hy329]; exact H) | exact H
          have Ny329 := am hy329; clear hy329; have H' := am H; clear H; have p323 : 0 ≤ (x29_2 : Int) := dT; have q323 : x29_2 < (l1.length : Int) := dT; obtain ⟨ad323, e323, hx323_0⟩ := Kd.at_string HR1.out x29_2 p323 q323; cases e323; replace hx323_0 := (HB.out.cell (World.block_lt_of_cell? w _ hx323_0)).trans hx323_0; replace p323 := eq_true p323; replace q323 := eq_true q323
          go_wp2_with (first | ((with_reducible refine gate_callee (f := 68) rfl ?_); refine gL (some 37) Try.func68 #[.int .i64 a0, .string (rdOf ByteArray.empty l1 x29_2), .int .i64 a2] ?_; (with_reducible refine (impl_cellsOf.calls k2 a0 (rdOf ByteArray.empty l1 x29_2) a2 t324 t325 _ A16.out).mono ?_); rintro e w' ⟨rfl, ⟨nd, rfl⟩⟩; refine ⟨_, rfl, ?_⟩) | ((with_reducible refine gate_dst (N := 43) rfl ?_); refine Kd.R_lit (Kd.int .i64) _ 3 ?hg (N := 43) ?hd (xs := ([t324, t325] : List Int)) (inner := [.int .i64 t324, .int .i64 t325]) (ok := fun _ => True) (okp := fun _ => True) ?hr ?hp (fun _ hk => hk) trivial (Below.refl _ _) (Nat.le_refl _) (by simp) ?_; (case hd => rfl); (case hg => rfl); (case hr => first | (go_simp; done) | (go_simp; rfl)); (case hp => exact (Reps.one (show Kd.M (Kd.int .i64) _ _ _ t324 [.int .i64 t324] from rfl) (Reps.one (show Kd.M (Kd.int .i64) _ _ _ t325 [.int .i64 t325] from rfl) (Reps.none _ _)))); intro v327 w18 ho19 hb hg_ hnew_; clear hg_ hnew_; (first | rw [← Ny326.out] at ho19 | (simp only [Int.reduceToNat] at ho19; rw [← Ny326.out] at ho19)); have n0_ := am (Kd.S_elder' (by (with_reducible repeat (first | apply Kd.S_alloc | apply Kd.S_drewN | apply Kd.S_drew)); exact HO_8.out) (Kd.R_base ho19) hb); have n1_ := Rl ho19 HB; have n2_ := Bb HB hb; clear HO_8 HB; revert n0_ n1_ n2_; intro HO_8 HO328 HB; clear hb ho19; obtain ⟨Ao21, co21, eo21⟩ := Kd.R_slice HO328.out; subst eo21) | ((with_reducible refine gate_builtin (b := .append) (xs := #[.tmp 40, .tmp 44]) rfl ?_); at_builtin; refine Kd.S_append (Kd.slice 3 (Kd.int .i64)) (w0 := w) w.heap.size rfl (.tmp 40) (.tmp 44) 27 31 (.slice none 0 0) 24 rfl Try.underlying27 info31 rfl (by decide) (by omega) u8 x8_2 y326 [.slice Ao21 y326.length co21] (fun _ => True) (fun k_ => some k_ = (.slice Ao21 y326.length co21 : Value).ownBlock) rfl rfl ?aP (fun k_ hk_ => ((Kd.R_mono (ok' := fun k_ => ((fun _ => True)) k_ ∧ some k_ ≠ (u8 : Value).ownBlock) (Kd.R_apart' (HO328.out) (Kd.S_typed HO_8.out) (by decide)) (fun k_ hk => ⟨trivial, hk.2⟩))).1 k_ hk_.symm) ?aF ?aO ?aB ?aS ?aL ?_; (case aP => exact Kd.M_row (Kd.R_mono (Kd.R_tight rfl (Kd.R_mono (ok' := fun k_ => ((fun _ => True)) k_ ∧ some k_ ≠ (u8 : Value).ownBlock) (Kd.R_apart' (HO328.out) (Kd.S_typed HO_8.out) (by decide)) (fun k_ hk => ⟨trivial, hk.2⟩))) (fun _ h_ => h_))); (case aB => exact (Bz HB.out)); (case aF => exact (fun _ _ => trivial)); (case aO => exact (by (with_reducible repeat (first | apply Kd.S_alloc | apply Kd.S_drewN | apply Kd.S_drew)); exact Kd.S_mono HO_8.out (fun k_ hk => ⟨trivial, fun e_ => hk.2 e_⟩))); (case aS => exact (below_size (Bz HB.out))); (case aL => have := LMc17.out; omega); intro v330 w20 ho hb hg hat; rw [← Ny329.out] at ho; have n0_ := am (hb); have n1_ := am (ho); clear HB HO_8 HO328; revert n0_ n1_; intro HB HO331; clear ho hb hg hat))
          go_roundg k2
          case measure => have := HJ3.out; have := HK2.out; omega
          case rel => exact ⟨(y329), (wrap64 (x29_2 + 1)), wZ, H', ⟨by have := HJ3.out; have := HK2.out; omega⟩, ⟨by (with_reducible repeat (first | apply Kd.S_alloc | apply Kd.S_drewN | apply Kd.S_drew)); exact HO331.out⟩, ⟨Bz HB.out⟩⟩
         ·rw [if_neg c17] at H
          exact absurd H (by simp)
        ·rw [if_neg c15] at H
         exact absurd H (by simp)
       ·rw [if_neg c14] at H
        exact absurd H (by simp)
      ·rw [if_neg c13] at H
       have c13b0 : decide (x29_2 < (l1.length : Int)) = false := decide_eq_false c13; clear c13
       simp only [Option.some.injEq, Prod.mk.injEq] at H
       obtain ⟨rfl, rfl⟩ := H
       go_wp2
       go_ret2
       exact ⟨_, eZ, by (with_reducible repeat (first | apply Kd.S_alloc | apply Kd.S_drewN | apply Kd.S_drew)); exact HO_8.out, Bz HB.out⟩

-- NOT PRINTED: function 148 (slices_IndexFunc_int_int_148)

-- NOT PRINTED: function 120 (slices_ContainsFunc_int_int_120)


end Go.Proofs.Ytephjmmkggcmeaa.PL
-- printed by a program of this session (wip/gp) out of the translation; Lean checks it
namespace Go.Proofs.Ytephjmmkggcmeaa.PL
open Go.RowKit Go.Proofs.YtephjmmkggcmeaaW.PrintWords Go.Proofs.YtephjmmkggcmeaaW.PrintLast Go.Proofs.YtephjmmkggcmeaaW.PrintMore Go.Proofs.YtephjmmkggcmeaaSq
attribute [local go_sem] max2_int min2_int max_two min_two max_three min_three max_four min_four   -- for this text's walks alone
attribute [local go_sem] Go.Proofs.YtephjmmkggcmeaaGp.str_geq Go.Proofs.YtephjmmkggcmeaaGp.str_gtr Go.Proofs.YtephjmmkggcmeaaGp.str_leq
set_option linter.unusedVariables false
set_option linter.unusedSimpArgs false

set_option maxHeartbeats 8000000
set_option maxRecDepth 100000
def slices_Index_int_int.l0 : Nat → List Int → Int → Int → Int → Option (Int)
  | 0, _, _, _, _ => none
  | k + 1, x0, x1, x7, x8 => if x8 < x7 then (if 0 ≤ x8 then (if x8 < (x0.length : Int) then (if x1 = (rd x0 x8) then (some x8) else (slices_Index_int_int.l0 k x0 x1 x7 (wrap64 (x8 + 1)))) else (none)) else (none)) else (some (-1))
def slices_Index_int_int.f (k : Nat) (l0 : List Int) (a1 : Int) : Option (Int) := slices_Index_int_int.l0 k l0 a1 (l0.length : Int) 0
theorem slices_Index_int_int.calls (k : Nat) (A0 : Option Addr) (c0 : Nat) (l0 : List Int) (a1 : Int) (r : Int) (w : World) (hr0 : Kd.C (Kd.int .i64) w A0 l0.length l0) (hc0 : l0.length ≤ c0) (h : slices_Index_int_int.f k l0 a1 = some r) :
    Calls Try.prog 133 #[.slice A0 l0.length c0, .int .i64 a1] w fun e w' => e = .returned (.int .i64 r) ∧ Drawn0 w w' := by
  have HR0 := am hr0; have HC0 := am hc0; clear hr0 hc0; have H : (slices_Index_int_int.l0 k l0 a1 (l0.length : Int) 0) = some r := h; clear h; have H' := am H; clear H
  go_enter Try.func133, Try.ntmps133
  go_wp2
  go_loopg [8] k (fun kq v8 w' => ∃ (x8_1 : Int), v8 = .int .i64 x8_1 ∧ Aside0 (slices_Index_int_int.l0 kq l0 a1 (l0.length : Int) x8_1 = some r) ∧ Aside0 (kq ≤ k) ∧ Drawn0 w w')
  case atStart => exact ⟨(0), wZ, H', ⟨Nat.le_refl _⟩, by repeat (first | exact Drawn0.refl _ | apply Drawn0.step)⟩
  case round =>
    clear H'
    try clear c1
    try clear p2
    obtain ⟨x8_1, rfl, HA, HK1, ⟨m1, rfl⟩⟩ := hrel; cases gk with
    | zero => exact absurd HA.out (by simp [slices_Index_int_int.l0])
    | succ k1 =>
      have H := HA.out; clear HA
      simp only [slices_Index_int_int.l0] at H
      by_cases c3 : x8_1 < (l0.length : Int)
      · rw [if_pos c3] at H
        have c3b0 : decide (x8_1 < (l0.length : Int)) = true := decide_eq_true c3; clear c3
        by_cases c4 : 0 ≤ x8_1
        · rw [if_pos c4] at H
          have c4b0 : decide (0 ≤ x8_1) = true := decide_eq_true c4; clear c4
          by_cases c5 : x8_1 < (l0.length : Int)
          · rw [if_pos c5] at H
            have c5b0 : decide (x8_1 < (l0.length : Int)) = true := decide_eq_true c5; clear c5
            by_cases c6 : a1 = (rd l0 x8_1)
            · rw [if_pos c6] at H
              have c6b0 : (a1 == (rd l0 x8_1)) = true := beq_iff_eq.mpr c6; have c6b1 : (a1 != (rd l0 x8_1)) = false := bne_eq_false_iff_eq.mpr c6; clear c6; obtain rfl := Option.some.inj H; obtain ⟨ad332, e332, hx332_0⟩ := Kd.at_int HR0.out x8_1 dT dT; cases e332; have p332 := eT (0 ≤ (x8_1 : Int)); have q332 := eT (x8_1 < (l0.length : Int))
              go_wp2
              go_ret
              exact ⟨by first | rfl | (simp; done) | (simp [*]; done), by repeat (first | exact Drawn0.refl _ | apply Drawn0.step)⟩
            · rw [if_neg c6] at H
              have c6b0 : (a1 == (rd l0 x8_1)) = false := beq_eq_false_iff_ne.mpr c6; have c6b1 : (a1 != (rd l0 x8_1)) = true := bne_iff_ne.mpr c6; have H' := am H; clear H; obtain ⟨ad332, e332, hx332_0⟩ := Kd.at_int HR0.out x8_1 dT dT; cases e332; have p332 := eT (0 ≤ (x8_1 : Int)); have q332 := eT (x8_1 < (l0.length : Int))
              go_wp2
              go_roundg k1
              case measure => have := HK1.out; omega
              case rel => exact ⟨(wrap64 (x8_1 + 1)), wZ, H', ⟨by have := HK1.out; omega⟩, by repeat (first | exact Drawn0.refl _ | apply Drawn0.step)⟩
          · rw [if_neg c5] at H
            exact absurd H (by simp)
        · rw [if_neg c4] at H
          exact absurd H (by simp)
      · rw [if_neg c3] at H
        have c3b0 : decide (x8_1 < (l0.length : Int)) = false := decide_eq_false c3; clear c3; obtain rfl := Option.some.inj H
        go_wp2
        go_ret
        exact ⟨by first | rfl | (simp; done) | (simp [*]; done), by repeat (first | exact Drawn0.refl _ | apply Drawn0.step)⟩

def slices_Contains_int_int.f (k : Nat) (l0 : List Int) (a1 : Int) : Option (Bool) := (slices_Index_int_int.f k l0 a1).bind fun t333 => (some (decide (t333 ≥ 0)))
theorem slices_Contains_int_int.calls (k : Nat) (A0 : Option Addr) (c0 : Nat) (l0 : List Int) (a1 : Int) (r : Bool) (w : World) (hr0 : Kd.C (Kd.int .i64) w A0 l0.length l0) (hc0 : l0.length ≤ c0) (h : slices_Contains_int_int.f k l0 a1 = some r) :
    Calls Try.prog 88 #[.slice A0 l0.length c0, .int .i64 a1] w fun e w' => e = .returned (.bool r) ∧ Drawn0 w w' := by
  have HR0 := am hr0; have HC0 := am hc0; clear hr0 hc0; have H : ((slices_Index_int_int.f k l0 a1).bind fun t333 => (some (decide (t333 ≥ 0)))) = some r := h; clear h; replace H := Option.bind_eq_some_iff.mp H; obtain ⟨t333, A30, H⟩ := H; (try dsimp -simprocs only at H); have A3 := am A30; clear A30; obtain rfl := Option.some.inj H
  go_enter Try.func88, Try.ntmps88
  go_wp2_with (first | ((with_reducible refine gate_callee (f := 133) rfl ?_); refine gL (some 7) Try.func133 #[.slice A0 l0.length c0, .int .i64 a1] ?_; (with_reducible refine (slices_Index_int_int.calls k _ _ l0 a1 t333 _ ?side1 ?side2 A3.out).mono ?_); (case side1 => exact Cz HR0.out); (case side2 => exact HC0.out); rintro e w' ⟨rfl, ⟨nd, rfl⟩⟩; refine ⟨_, rfl, ?_⟩))
  go_ret
  exact ⟨by first | rfl | (simp; done) | (simp [*]; done), by repeat (first | exact Drawn0.refl _ | apply Drawn0.step)⟩

-- NOT PRINTED: function 121 (impl_groups_1)

def impl_groups_1.f (k : Nat) (a0 : Int) (l1_0 : List (List Int)) (l2_0 : List Int) : Option (Bool) := if 0 < (l2_0.length : Int) then (if 0 ≤ (rd l2_0 0) then (if (rd l2_0 0) < (l1_0.length : Int) then ((slices_Contains_int_int.f k (rd_L3 l1_0 (rd l2_0 0)) a0).bind fun t356 => (some t356)) else (none)) else (none)) else (none)
theorem impl_groups_1.calls (k : Nat) (a0 : Int) (g1 : Nat) (A1_0 : Option Addr) (c1_0 : Nat) (l1_0 : List (List Int)) (g2 : Nat) (A2_0 : Option Addr) (c2_0 : Nat) (l2_0 : List Int) (r : Bool) (w : World) (hb1 : w.heap[g1]? = some (.cells #[.slice A1_0 l1_0.length c1_0] 27 (0, 0))) (hr1_0 : Kd.C (Kd.slice 3 (Kd.int .i64)) w A1_0 l1_0.length l1_0) (hc1_0 : l1_0.length ≤ c1_0) (hb2 : w.heap[g2]? = some (.cells #[.slice A2_0 l2_0.length c2_0] 31 (0, 0))) (hr2_0 : Kd.C (Kd.int .i64) w A2_0 l2_0.length l2_0) (hc2_0 : l2_0.length ≤ c2_0) (h : impl_groups_1.f k a0 l1_0 l2_0 = some r) :
    Calls Try.prog 121 #[.int .i64 a0, .pointer (some ⟨g1, 0, none⟩), .pointer (some ⟨g2, 0, none⟩)] w fun e w' => e = .returned (.bool r) ∧ Drawn0 w w' := by
  have HR1_0 := am hr1_0; have HC1_0 := am hc1_0; clear hr1_0 hc1_0; have HR2_0 := am hr2_0; have HC2_0 := am hc2_0; clear hr2_0 hc2_0; have BK1 := am hb1; clear hb1; have BK2 := am hb2; clear hb2; have H : (if 0 < (l2_0.length : Int) then (if 0 ≤ (rd l2_0 0) then (if (rd l2_0 0) < (l1_0.length : Int) then ((slices_Contains_int_int.f k (rd_L3 l1_0 (rd l2_0 0)) a0).bind fun t356 => (some t356)) else (none)) else (none)) else (none)) = some r := h; clear h
  by_cases c4 : 0 < (l2_0.length : Int)
  · rw [if_pos c4] at H
    have c4b0 : decide (0 < (l2_0.length : Int)) = true := decide_eq_true c4; have c4b1 : decide (0 < l2_0.length) = true := decide_eq_true (by omega); clear c4
    by_cases c5 : 0 ≤ (rd l2_0 0)
    · rw [if_pos c5] at H
      have c5b0 : decide (0 ≤ (rd l2_0 0)) = true := decide_eq_true c5; clear c5
      by_cases c6 : (rd l2_0 0) < (l1_0.length : Int)
      · rw [if_pos c6] at H
        have c6b0 : decide ((rd l2_0 0) < (l1_0.length : Int)) = true := decide_eq_true c6; clear c6; replace H := Option.bind_eq_some_iff.mp H; obtain ⟨t356, A70, H⟩ := H; (try dsimp -simprocs only at H); have A7 := am A70; clear A70; obtain rfl := Option.some.inj H; obtain ⟨hcz8_0, hfz8_0⟩ := cf1 (w := w) BK1; obtain ⟨hcz9_0, hfz9_0⟩ := cf1 (w := w) BK2; have p354 : 0 ≤ (0 : Int) := (by omega); have q354 : 0 < (l2_0.length : Int) := dT; obtain ⟨ad354, e354, hx354_0⟩ := Kd.at_int HR2_0.out 0 p354 q354; cases e354; have qi354 : (0 < l2_0.length) = True := eq_true (by omega)
        (try rw [show ((0 : Int)).toNat = 0 from rfl] at hx354_0)
        (try rw [Addr.add_zero'] at hx354_0)
        replace p354 := eq_true p354; replace q354 := eq_true q354; have p355 : 0 ≤ ((rd l2_0 0) : Int) := dT; have q355 : (rd l2_0 0) < (l1_0.length : Int) := dT; obtain ⟨ad355, A355_0, c355_0, e355, hx355_0, hl355_0, hi355_0⟩ := at_L3 HR1_0.out (rd l2_0 0) p355 q355; cases e355; have HR355_0 := am hi355_0; have HC355_0 := am hl355_0; clear hi355_0 hl355_0; replace p355 := eq_true p355; replace q355 := eq_true q355
        go_enter Try.func121, Try.ntmps121
        go_wp2_with (first | (go_at_call 88; (with_reducible refine (slices_Contains_int_int.calls k _ _ (rd_L3 l1_0 (rd l2_0 0)) a0 t356 _ ?side1 ?side2 A7.out).mono ?_); (case side1 => exact Cz HR355_0.out); (case side2 => exact HC355_0.out); rintro e w' ⟨rfl, ⟨nd, rfl⟩⟩; (try exact yZ)))
        repeat (go_quiet (first | (go_at_call 88; (with_reducible refine (slices_Contains_int_int.calls k _ _ (rd_L3 l1_0 (rd l2_0 0)) a0 t356 _ ?side1 ?side2 A7.out).mono ?_); (case side1 => exact Cz HR355_0.out); (case side2 => exact HC355_0.out); rintro e w' ⟨rfl, ⟨nd, rfl⟩⟩; (try exact yZ))); try go_wp2_with (first | (go_at_call 88; (with_reducible refine (slices_Contains_int_int.calls k _ _ (rd_L3 l1_0 (rd l2_0 0)) a0 t356 _ ?side1 ?side2 A7.out).mono ?_); (case side1 => exact Cz HR355_0.out); (case side2 => exact HC355_0.out); rintro e w' ⟨rfl, ⟨nd, rfl⟩⟩; (try exact yZ))))
        go_ret
        exact ⟨by first | rfl | (simp; done) | (simp [*]; done), by repeat (first | exact Drawn0.refl _ | apply Drawn0.step)⟩
      · rw [if_neg c6] at H
        exact absurd H (by simp)
    · rw [if_neg c5] at H
      exact absurd H (by simp)
  · rw [if_neg c4] at H
    exact absurd H (by simp)

def slices_IndexFunc_int_int_at_impl_groups_1.l0 : Nat → List Int → Int → Int → List (List Int) → List Int → Option (Int)
  | 0, _, _, _, _, _ => none
  | k + 1, x0, x7, x8, x3000, x4000 => if x8 < x7 then (if 0 ≤ x8 then (if x8 < (x0.length : Int) then ((impl_groups_1.f k (rd x0 x8) x3000 x4000).bind fun t358 => (if t358 = true then (some x8) else (slices_IndexFunc_int_int_at_impl_groups_1.l0 k x0 x7 (wrap64 (x8 + 1)) x3000 x4000))) else (none)) else (none)) else (some (-1))
def slices_IndexFunc_int_int_at_impl_groups_1.f (k : Nat) (l0 : List Int)  (l2_0 : List (List Int)) (l3_0 : List Int) : Option (Int) := slices_IndexFunc_int_int_at_impl_groups_1.l0 k l0 (l0.length : Int) 0 l2_0 l3_0
theorem slices_IndexFunc_int_int_at_impl_groups_1.calls (k : Nat) (A0 : Option Addr) (c0 : Nat) (l0 : List Int)  (g2 : Nat) (A2_0 : Option Addr) (c2_0 : Nat) (l2_0 : List (List Int)) (g3 : Nat) (A3_0 : Option Addr) (c3_0 : Nat) (l3_0 : List Int) (r : Int) (w : World) (hr0 : Kd.C (Kd.int .i64) w A0 l0.length l0) (hc0 : l0.length ≤ c0) (hb2 : w.heap[g2]? = some (.cells #[.slice A2_0 l2_0.length c2_0] 27 (0, 0))) (hr2_0 : Kd.C (Kd.slice 3 (Kd.int .i64)) w A2_0 l2_0.length l2_0) (hc2_0 : l2_0.length ≤ c2_0) (hb3 : w.heap[g3]? = some (.cells #[.slice A3_0 l3_0.length c3_0] 31 (0, 0))) (hr3_0 : Kd.C (Kd.int .i64) w A3_0 l3_0.length l3_0) (hc3_0 : l3_0.length ≤ c3_0) (h : slices_IndexFunc_int_int_at_impl_groups_1.f k l0 l2_0 l3_0 = some r) :
    Calls Try.prog 148 #[.slice A0 l0.length c0, .func (.func 121) #[] #[.pointer (some ⟨g2, 0, none⟩), .pointer (some ⟨g3, 0, none⟩)]] w fun e w' => e = .returned (.int .i64 r) ∧ Drawn0 w w' := by
  have HR0 := am hr0; have HC0 := am hc0; clear hr0 hc0; have HR2_0 := am hr2_0; have HC2_0 := am hc2_0; clear hr2_0 hc2_0; have HR3_0 := am hr3_0; have HC3_0 := am hc3_0; clear hr3_0 hc3_0; have BK2 := am hb2; clear hb2; have BK3 := am hb3; clear hb3; have H : (slices_IndexFunc_int_int_at_impl_groups_1.l0 k l0 (l0.length : Int) 0 l2_0 l3_0) = some r := h; clear h; have H' := am H; clear H
  go_enter Try.func148, Try.ntmps148
  go_wp2
  go_loopg [8] k (fun kq v8 w' => ∃ (x8_1 : Int), v8 = .int .i64 x8_1 ∧ Aside0 (slices_IndexFunc_int_int_at_impl_groups_1.l0 kq l0 (l0.length : Int) x8_1 l2_0 l3_0 = some r) ∧ Aside0 (kq ≤ k) ∧ Aside0 (w'.heap[g2]? = some (.cells #[(.slice A2_0 l2_0.length c2_0)] 27 (0, 0))) ∧ Aside0 (w'.heap[g3]? = some (.cells #[(.slice A3_0 l3_0.length c3_0)] 31 (0, 0))) ∧ Drawn0 w w')
  case atStart => exact ⟨(0), wZ, H', ⟨Nat.le_refl _⟩, ⟨Kz BK2.out⟩, ⟨Kz BK3.out⟩, by repeat (first | exact Drawn0.refl _ | apply Drawn0.step)⟩
  case round =>
    clear H'
    try clear c1
    try clear c2
    try clear p2
    try clear c3
    obtain ⟨x8_1, rfl, HA, HK1, BK2, BK3, ⟨m1, rfl⟩⟩ := hrel; cases gk with
    | zero => exact absurd HA.out (by simp [slices_IndexFunc_int_int_at_impl_groups_1.l0])
    | succ k1 =>
      have H := HA.out; clear HA
      simp only [slices_IndexFunc_int_int_at_impl_groups_1.l0] at H
      by_cases c5 : x8_1 < (l0.length : Int)
      · rw [if_pos c5] at H
        have c5b0 : decide (x8_1 < (l0.length : Int)) = true := decide_eq_true c5; clear c5
        by_cases c6 : 0 ≤ x8_1
        · rw [if_pos c6] at H
          have c6b0 : decide (0 ≤ x8_1) = true := decide_eq_true c6; clear c6
          by_cases c7 : x8_1 < (l0.length : Int)
          · rw [if_pos c7] at H
            have c7b0 : decide (x8_1 < (l0.length : Int)) = true := decide_eq_true c7; clear c7; replace H := Option.bind_eq_some_iff.mp H; obtain ⟨t358, A80, H⟩ := H; (try dsimp -simprocs only at H); have A8 := am A80; clear A80
            by_cases c9 : t358 = true
            · subst c9
              rw [if_pos rfl] at H; obtain rfl := Option.some.inj H; obtain ⟨ad357, e357, hx357_0⟩ := Kd.at_int HR0.out x8_1 dT dT; cases e357; have p357 := eT (0 ≤ (x8_1 : Int)); have q357 := eT (x8_1 < (l0.length : Int))
              go_wp2_with (first | (go_at_call 121; (with_reducible refine (impl_groups_1.calls k1 (rd l0 x8_1) g2 A2_0 c2_0 l2_0 g3 A3_0 c3_0 l3_0 true _ ?side1 ?side2 ?side3 ?side4 ?side5 ?side6 A8.out).mono ?_); (case side1 => exact Kz BK2.out); (case side2 => exact Cz HR2_0.out); (case side3 => exact HC2_0.out); (case side4 => exact Kz BK3.out); (case side5 => exact Cz HR3_0.out); (case side6 => exact HC3_0.out); rintro e w' ⟨rfl, ⟨nd, rfl⟩⟩))
              go_ret
              exact ⟨by first | rfl | (simp; done) | (simp [*]; done), by repeat (first | exact Drawn0.refl _ | apply Drawn0.step)⟩
            · replace c9 := Bool.eq_false_iff.mpr c9
              subst c9
              rw [if_neg (show ¬ (false = true) by decide)] at H; have H' := am H; clear H; obtain ⟨ad357, e357, hx357_0⟩ := Kd.at_int HR0.out x8_1 dT dT; cases e357; have p357 := eT (0 ≤ (x8_1 : Int)); have q357 := eT (x8_1 < (l0.length : Int))
              go_wp2_with (first | (go_at_call 121; (with_reducible refine (impl_groups_1.calls k1 (rd l0 x8_1) g2 A2_0 c2_0 l2_0 g3 A3_0 c3_0 l3_0 false _ ?side1 ?side2 ?side3 ?side4 ?side5 ?side6 A8.out).mono ?_); (case side1 => exact Kz BK2.out); (case side2 => exact Cz HR2_0.out); (case side3 => exact HC2_0.out); (case side4 => exact Kz BK3.out); (case side5 => exact Cz HR3_0.out); (case side6 => exact HC3_0.out); rintro e w' ⟨rfl, ⟨nd, rfl⟩⟩))
              go_roundg k1
              case measure => have := HK1.out; omega
              case rel => exact ⟨(wrap64 (x8_1 + 1)), wZ, H', ⟨by have := HK1.out; omega⟩, ⟨Kz BK2.out⟩, ⟨Kz BK3.out⟩, by repeat (first | exact Drawn0.refl _ | apply Drawn0.step)⟩
          · rw [if_neg c7] at H
            exact absurd H (by simp)
        · rw [if_neg c6] at H
          exact absurd H (by simp)
      · rw [if_neg c5] at H
        have c5b0 : decide (x8_1 < (l0.length : Int)) = false := decide_eq_false c5; clear c5; obtain rfl := Option.some.inj H
        go_wp2
        go_ret
        exact ⟨by first | rfl | (simp; done) | (simp [*]; done), by repeat (first | exact Drawn0.refl _ | apply Drawn0.step)⟩

def slices_ContainsFunc_int_int_at_impl_groups_1.f (k : Nat) (l0 : List Int)  (l2_0 : List (List Int)) (l3_0 : List Int) : Option (Bool) := (slices_IndexFunc_int_int_at_impl_groups_1.f k l0 l2_0 l3_0).bind fun t359 => (some (decide (t359 ≥ 0)))
theorem slices_ContainsFunc_int_int_at_impl_groups_1.calls (k : Nat) (A0 : Option Addr) (c0 : Nat) (l0 : List Int)  (g2 : Nat) (A2_0 : Option Addr) (c2_0 : Nat) (l2_0 : List (List Int)) (g3 : Nat) (A3_0 : Option Addr) (c3_0 : Nat) (l3_0 : List Int) (r : Bool) (w : World) (hr0 : Kd.C (Kd.int .i64) w A0 l0.length l0) (hc0 : l0.length ≤ c0) (hb2 : w.heap[g2]? = some (.cells #[.slice A2_0 l2_0.length c2_0] 27 (0, 0))) (hr2_0 : Kd.C (Kd.slice 3 (Kd.int .i64)) w A2_0 l2_0.length l2_0) (hc2_0 : l2_0.length ≤ c2_0) (hb3 : w.heap[g3]? = some (.cells #[.slice A3_0 l3_0.length c3_0] 31 (0, 0))) (hr3_0 : Kd.C (Kd.int .i64) w A3_0 l3_0.length l3_0) (hc3_0 : l3_0.length ≤ c3_0) (h : slices_ContainsFunc_int_int_at_impl_groups_1.f k l0 l2_0 l3_0 = some r) :
    Calls Try.prog 120 #[.slice A0 l0.length c0, .func (.func 121) #[] #[.pointer (some ⟨g2, 0, none⟩), .pointer (some ⟨g3, 0, none⟩)]] w fun e w' => e = .returned (.bool r) ∧ Drawn0 w w' := by
  have HR0 := am hr0; have HC0 := am hc0; clear hr0 hc0; have HR2_0 := am hr2_0; have HC2_0 := am hc2_0; clear hr2_0 hc2_0; have HR3_0 := am hr3_0; have HC3_0 := am hc3_0; clear hr3_0 hc3_0; have BK2 := am hb2; clear hb2; have BK3 := am hb3; clear hb3; have H : ((slices_IndexFunc_int_int_at_impl_groups_1.f k l0 l2_0 l3_0).bind fun t359 => (some (decide (t359 ≥ 0)))) = some r := h; clear h; replace H := Option.bind_eq_some_iff.mp H; obtain ⟨t359, A50, H⟩ := H; (try dsimp -simprocs only at H); have A5 := am A50; clear A50; obtain rfl := Option.some.inj H
  go_enter Try.func120, Try.ntmps120
  go_wp2_with (first | ((with_reducible refine gate_callee (f := 148) rfl ?_); refine gL (some 7) Try.func148 #[.slice A0 l0.length c0, .func (.func 121) #[] #[.pointer (some ⟨g2, 0, none⟩), .pointer (some ⟨g3, 0, none⟩)]] ?_; (with_reducible refine (slices_IndexFunc_int_int_at_impl_groups_1.calls k _ _ l0  g2 A2_0 c2_0 l2_0 g3 A3_0 c3_0 l3_0 t359 _ ?side1 ?side2 ?side3 ?side4 ?side5 ?side6 ?side7 ?side8 A5.out).mono ?_); (case side1 => exact Cz HR0.out); (case side2 => exact HC0.out); (case side3 => exact Kz BK2.out); (case side4 => exact Cz HR2_0.out); (case side5 => exact HC2_0.out); (case side6 => exact Kz BK3.out); (case side7 => exact Cz HR3_0.out); (case side8 => exact HC3_0.out); rintro e w' ⟨rfl, ⟨nd, rfl⟩⟩; refine ⟨_, rfl, ?_⟩))
  go_ret
  exact ⟨by first | rfl | (simp; done) | (simp [*]; done), by repeat (first | exact Drawn0.refl _ | apply Drawn0.step)⟩

mutual
def impl_groups.l0 : Nat → List (List Int) → List Int → Int → Int → List (List Int) → Option ((List (List Int)))
  | 0, _, _, _, _, _ => none
  | k + 1, x3, x4, x17, x18, x335000 => if x18 < x17 then (if 0 ≤ x18 then (if x18 < (x4.length : Int) then (impl_groups.l0 k x3 (x4.set (x18 : Int).toNat (-1)) x17 (wrap64 (x18 + 1)) x335000) else (none)) else (none)) else (impl_groups.l1 k x3 x4 (x335000.length : Int) 0 x335000)
def impl_groups.l1 : Nat → List (List Int) → List Int → Int → Int → List (List Int) → Option ((List (List Int)))
  | 0, _, _, _, _, _ => none
  | k + 1, x3, x4, x26, x27, x335000 => if x27 < x26 then (if 0 ≤ x27 then (if x27 < (x4.length : Int) then (if (rd x4 x27) ≥ 0 then (impl_groups.l1 k x3 x4 x26 (wrap64 (x27 + 1)) x335000) else (impl_groups.l2 k x3 (x4.set (x27 : Int).toNat (x3.length : Int)) (x3.length : Int) x26 x27 x335000 (([x27] : List Int)))) else (none)) else (none)) else (impl_groups.l4 k x3 x4 (x4.length : Int) 0)
def impl_groups.l2 : Nat → List (List Int) → List Int → Int → Int → Int → List (List Int) → List Int → Option ((List (List Int)))
  | 0, _, _, _, _, _, _, _ => none
  | k + 1, x3, x4, x7, x26, x27, x335000, x348000 => if (x348000.length : Int) > 0 then (impl_groups.l3 k x3 x4 x7 x26 x27 (x335000.length : Int) 0 x335000 x348000) else (if x3.length < 5864062014805 then (impl_groups.l1 k (x3 ++ [[]]) x4 x26 (wrap64 (x27 + 1)) x335000) else (none))
def impl_groups.l3 : Nat → List (List Int) → List Int → Int → Int → Int → Int → Int → List (List Int) → List Int → Option ((List (List Int)))
  | 0, _, _, _, _, _, _, _, _, _ => none
  | k + 1, x3, x4, x7, x26, x27, x49, x50, x335000, x348000 => if x50 < x49 then (if 0 ≤ x50 then (if x50 < (x4.length : Int) then (if (rd x4 x50) < 0 then (if x50 < (x335000.length : Int) then ((slices_ContainsFunc_int_int_at_impl_groups_1.f k (rd_L3 x335000 x50) x335000 x348000).bind fun t353 => (if t353 = true then (if x348000.length < 17592186044416 then (impl_groups.l3 k x3 (x4.set (x50 : Int).toNat x7) x7 x26 x27 x49 (wrap64 (x50 + 1)) x335000 (x348000 ++ [x50])) else (none)) else (impl_groups.l3 k x3 x4 x7 x26 x27 x49 (wrap64 (x50 + 1)) x335000 x348000))) else (none)) else (impl_groups.l3 k x3 x4 x7 x26 x27 x49 (wrap64 (x50 + 1)) x335000 x348000)) else (none)) else (none)) else (if 1 ≤ (x348000.length : Int) then (impl_groups.l2 k x3 x4 x7 x26 x27 x335000 (x348000.drop (1 : Int).toNat)) else (none))
def impl_groups.l4 : Nat → List (List Int) → List Int → Int → Int → Option ((List (List Int)))
  | 0, _, _, _, _ => none
  | k + 1, x3, x80, x81, x82 => if x82 < x81 then (if 0 ≤ x82 then (if x82 < (x80.length : Int) then (if 0 ≤ (rd x80 x82) then (if (rd x80 x82) < (x3.length : Int) then (if (rd_L3 x3 (rd x80 x82)).length < 17592186044416 then (impl_groups.l4 k (x3.set ((rd x80 x82) : Int).toNat ((rd_L3 x3 (rd x80 x82)) ++ [x82])) x80 x81 (wrap64 (x82 + 1))) else (none)) else (none)) else (none)) else (none)) else (none)) else (some x3)
end
def impl_groups.f (k : Nat) (l0 : List (List Int)) : Option ((List (List Int))) := if 0 ≤ (l0.length : Int) then (if ((l0.length : Int) : Int).toNat ≤ 35184372088832 then ((some (List.replicate ((l0.length : Int) : Int).toNat 0 : List Int)).bind fun y338 => (impl_groups.l0 k (([] : List (List Int))) y338 (y338.length : Int) 0 l0)) else (none)) else (none)
theorem impl_groups.calls (k : Nat) (A0 : Option Addr) (c0 : Nat) (l0 : List (List Int)) (r : List (List Int)) (w : World) (hr0 : Kd.C (Kd.slice 3 (Kd.int .i64)) w A0 l0.length l0) (hc0 : l0.length ≤ c0) (h : impl_groups.f k l0 = some r) :
    Calls Try.prog 61 #[.slice A0 l0.length c0] w fun e w' => ∃ v0_ : Value, e = .returned (v0_) ∧ Kd.S (Kd.slice 3 (Kd.int .i64)) 31 w' w.heap.size (fun _ => True) v0_ r ∧ Below w.heap.size w w' := by
  have HR0 := am hr0; have HC0 := am hc0; clear hr0 hc0; have HB := am (Below.refl w.heap.size w); have H : (if 0 ≤ (l0.length : Int) then (if ((l0.length : Int) : Int).toNat ≤ 35184372088832 then ((some (List.replicate ((l0.length : Int) : Int).toNat 0 : List Int)).bind fun y338 => (impl_groups.l0 k (([] : List (List Int))) y338 (y338.length : Int) 0 l0)) else (none)) else (none)) = some r := h; clear h; obtain ⟨y335, hy335⟩ : ∃ y_ : List (List Int), y_ = (([] : List (List Int))) := ⟨_, rfl⟩
  replace H : (if 0 ≤ (l0.length : Int) then (if ((l0.length : Int) : Int).toNat ≤ 35184372088832 then ((some (List.replicate ((l0.length : Int) : Int).toNat 0 : List Int)).bind fun y338 => (impl_groups.l0 k y335 y338 (y338.length : Int) 0 l0)) else (none)) else (none)) = some r := by first | (rw [hy335]; with_reducible exact H) | (have H2_ := (Option.bind_some _ _).symm.trans H; rw [hy335]; with_reducible exact H2_) | (have H2_ := (Option.bind_some _ _).symm.trans H; with_reducible exact H2_) | with_reducible exact H | (rw [hy335]; exact H) | exact H
  have Ny335 := am hy335; clear hy335
  by_cases c2 : 0 ≤ (l0.length : Int)
  · rw [if_pos c2] at H
    have c2b0 := eq_true c2; have c2b1 : decide (0 ≤ (l0.length : Int)) = true := decide_eq_true c2; clear c2
    by_cases c3 : ((l0.length : Int) : Int).toNat ≤ 35184372088832
    · rw [if_pos c3] at H
      have c3b0 := eq_true c3; have c3b1 : decide (((l0.length : Int) : Int).toNat ≤ 35184372088832) = true := decide_eq_true c3; clear c3; obtain ⟨y338, hy338⟩ : ∃ y_ : List Int, y_ = (List.replicate ((l0.length : Int) : Int).toNat 0) := ⟨_, rfl⟩
      replace H : (impl_groups.l0 k y335 y338 (y338.length : Int) 0 l0) = some r := by first | (rw [hy338]; with_reducible exact H) | (have H2_ := (Option.bind_some _ _).symm.trans H; rw [hy338]; with_reducible exact H2_) | (have H2_ := (Option.bind_some _ _).symm.trans H; with_reducible exact H2_) | with_reducible exact H | (rw [hy338]; exact H) | exact H
      have Ny338 := am hy338; clear hy338; have H' := am H; clear H
      go_enter Try.func61, Try.ntmps61
      try go_wp2_with (first | ((with_reducible refine gate_dst (N := 1) rfl ?_); refine bE 1 #[.slice A0 l0.length c0] 27 ?_; intro gb334 hg w4 hbox hb; have n0_ := Bb HB hb; have n1_ := am (hbox); have n2_ := Gl HB hg; have n3_ := Gl HB hg; clear HB; revert n0_ n1_ n2_ n3_; intro HB BK334 GW334 GE334; clear hb hbox hg))
      have n0_ := am (blk_drew BK334.out); have n1_ := am (below_drew1 HB.out); clear BK334 HB; revert n0_ n1_; intro BK334 HB; refine start_ (n := 6) (S := fun w' => w'.cell? ⟨gb334, 0, none⟩ = some (.slice A0 l0.length c0)) (ds := []) (bA 6 0) (by kernel_rfl) rfl rfl (cz BK334 0) (fun hHeld => ?_); generalize w4.drew = w5 at BK334 HB hHeld ⊢; refine take_ (i := 1) (N := some 13) (v := ?_) (a' := ?_) (bA 6 2) rfl rfl (by kernel_rfl) (fun _ _ _ h => h) (Or.inl ⟨by rfl, ?_⟩) hHeld ?_ ?_
      rotate_left
      · intro w' s0
        go_simp
        with_reducible rfl
      rotate_left
      · simp only [aP, i64_w, i32_w]
        rfl
      refine pure_ (i := 2) (N := some 14) (v := ?_) (a' := ?_) (bA 6 6) rfl rfl (by kernel_rfl) (fun _ _ _ h => h) (Or.inl ⟨by rfl, ?_⟩) ?_ ?_
      rotate_left
      · intro w'
        go_simp
        with_reducible rfl
      rotate_left
      · simp only [aP, i64_w, i32_w]
        rfl
      refine join_ (σ := Value × Value) 1 (bA 6 31) (fun s_ => [(12, s_.1), (15, s_.2), (3, s_.1)]) (fun s_ w' => (w'.cell? ⟨gb334, 0, none⟩ = some (.slice A0 l0.length c0)) ∧ (Kd.S (Kd.slice 3 (Kd.int .i64)) 31 w' w.heap.size (fun k_ => some k_ ≠ (s_.2 : Value).ownBlock) s_.1 y335) ∧ (Kd.R (Kd.int .i64) 3 w' w.heap.size (fun _ => True) s_.2 y338) ∧ (w'.heap[gb334]? = some (.cells #[.slice A0 l0.length c0] 27 (0, 0))) ∧ (Below w.heap.size w w')) ?_ ?_
      rotate_left
      · intro hCont
        refine two_ (i := 0) (j := 3) (Ni := some 12) (Nj := some 15) (bA 6 7) (bA 6 14) rfl rfl rfl rfl (by kernel_rfl) (by decide) (by decide) (fun K hK => ?_) (fun K hK => ?_)
        · skip
          refine Kd.S_lit_step (Kd.slice 3 (Kd.int .i64)) _ 31 ?hg (N := 12) ?hd (xs := ([] : List (List Int))) (inner := []) (ok := fun _ => True) (okp := fun _ => True) ?hr ?hp (fun _ hk => hk) trivial (Below.refl _ _) (Nat.le_refl _) (by simp) ?_; (case hd => rfl); (case hg => rfl); (case hr => first | (go_simp; done) | (go_simp; rfl)); (case hp => exact (Reps.none _ _)); intro v336 w6 ho7 hb hg_ hnew_; clear hg_ hnew_
          (first | rw [← Ny335.out] at ho7 | (simp only [Int.reduceToNat] at ho7; rw [← Ny335.out] at ho7))
          have n0_ := am (Kd.S_lower ho7 (below_size (w := w) (Bq))); have n1_ := Kb BK334 hb; have n2_ := Bc HB hb; clear BK334 HB; revert n0_ n1_ n2_; intro HO337 BK334 HB; clear hb ho7; refine hK.out _ _ (cz BK334 0) (fun hHeld => ?_); clear hK K; refine norm_ (a' := ?_) ?_ ?_
          rotate_left
          · show Act.put _ (some 12) _ = _
            simp only [aP, i64_w, i32_w]
            rfl
          refine pure_ (i := 4) (N := some 3) (v := ?_) (a' := ?_) (bA 6 23) rfl rfl (by kernel_rfl) (fun _ _ _ h => h) (Or.inl ⟨by rfl, ?_⟩) ?_ ?_
          rotate_left
          · intro w'
            go_simp
            with_reducible rfl
          rotate_left
          · simp only [aP, i64_w, i32_w]
            rfl
          refine one_ (i := 3) (N := some 15) (bA 6 31) rfl rfl (by kernel_rfl) (by decide) (fun K hK => ?_); refine Kd.R_make_step (Kd.int .i64) _ 3 (by rfl) (N := 15) rfl 31 _ _ rfl (l0.length : Int) rfl rfl Try.underlying31 (.int .i64 0) 8 info3 rfl (by decide) (by omega) 0 (ok := fun _ => True) (okp := fun _ => True) rfl (fun _ hk => hk) trivial (dT) (Nat.le_trans (Nat.mul_le_mul_right _ (dT : (l0.length : Int).toNat ≤ 35184372088832)) (by omega)) (Below.refl _ _) (Nat.le_refl _) ?_; intro v339 w8 ho9 hb hg_ hnew_; clear hg_ hnew_
          (first | rw [← Ny338.out] at ho9 | (simp only [Int.reduceToNat] at ho9; rw [← Ny338.out] at ho9))
          have n0_ := am (Kd.S_elder' (by (with_reducible repeat (first | apply Kd.S_alloc | apply Kd.S_drewN | apply Kd.S_drew)); exact HO337.out) (Kd.R_base ho9) hb); have n1_ := Rm ho9 HB; have n2_ := Kb BK334 hb; have n3_ := Bc HB hb; clear HO337 BK334 HB; revert n0_ n1_ n2_ n3_; intro HO337 HO340 BK334 HB; clear hb ho9; refine hK.out _ _ (cz BK334 0) (fun hHeld => ?_); clear hK K; refine norm_ (a' := ?_) ?_ ?_
          rotate_left
          · show Act.put _ (some 15) _ = _
            simp only [aP, i64_w, i32_w]
            rfl
          exact norm_ (by simp only [putAll, aP]) (hCont (v336, v339) _ ⟨hHeld, (by (with_reducible repeat (first | apply Kd.S_alloc | apply Kd.S_drewN | apply Kd.S_drew)); exact Kd.S_mono HO337.out (fun _ hk => hk.2)), (Rz HO340.out), (Kz BK334.out), (Bq)⟩)
        · skip
          refine Kd.R_make_step (Kd.int .i64) _ 3 (by rfl) (N := 15) rfl 31 _ _ rfl (l0.length : Int) rfl rfl Try.underlying31 (.int .i64 0) 8 info3 rfl (by decide) (by omega) 0 (ok := fun _ => True) (okp := fun _ => True) rfl (fun _ hk => hk) trivial (dT) (Nat.le_trans (Nat.mul_le_mul_right _ (dT : (l0.length : Int).toNat ≤ 35184372088832)) (by omega)) (Below.refl _ _) (Nat.le_refl _) ?_; intro v339 w6 ho7 hb hg_ hnew_; clear hg_ hnew_
          (first | rw [← Ny338.out] at ho7 | (simp only [Int.reduceToNat] at ho7; rw [← Ny338.out] at ho7))
          have n0_ := Rm ho7 HB; have n1_ := Kb BK334 hb; have n2_ := Bc HB hb; clear BK334 HB; revert n0_ n1_ n2_; intro HO340 BK334 HB; clear hb ho7; refine hK.out _ _ (cz BK334 0) (fun hHeld => ?_); clear hK K; refine norm_ (a' := ?_) ?_ ?_
          rotate_left
          · show Act.put _ (some 15) _ = _
            simp only [aP, i64_w, i32_w]
            rfl
          refine one_ (i := 0) (N := some 12) (bA 6 15) rfl rfl (by kernel_rfl) (by decide) (fun K hK => ?_); refine Kd.S_lit_step (Kd.slice 3 (Kd.int .i64)) _ 31 ?hg (N := 12) ?hd (xs := ([] : List (List Int))) (inner := []) (ok := fun _ => True) (okp := fun _ => True) ?hr ?hp (fun _ hk => hk) trivial (Below.refl _ _) (Nat.le_refl _) (by simp) ?_; (case hd => rfl); (case hg => rfl); (case hr => first | (go_simp; done) | (go_simp; rfl)); (case hp => exact (Reps.none _ _)); intro v336 w8 ho9 hb hg_ hnew_; clear hg_ hnew_
          (first | rw [← Ny335.out] at ho9 | (simp only [Int.reduceToNat] at ho9; rw [← Ny335.out] at ho9))
          have n0_ := Rb HO340 hb; have n1_ := am (Kd.S_lower (Kd.S_new' ho9 (Kd.R_lt (Rz HO340.out))) (below_size (w := w) (Bq))); have n2_ := Kb BK334 hb; have n3_ := Bc HB hb; clear HO340 BK334 HB; revert n0_ n1_ n2_ n3_; intro HO340 HO337 BK334 HB; clear hb ho9; refine hK.out _ _ (cz BK334 0) (fun hHeld => ?_); clear hK K; refine norm_ (a' := ?_) ?_ ?_
          rotate_left
          · show Act.put _ (some 12) _ = _
            simp only [aP, i64_w, i32_w]
            rfl
          refine pure_ (i := 4) (N := some 3) (v := ?_) (a' := ?_) (bA 6 31) rfl rfl (by kernel_rfl) (fun _ _ _ h => h) (Or.inl ⟨by rfl, ?_⟩) ?_ ?_
          rotate_left
          · intro w'
            go_simp
            with_reducible rfl
          rotate_left
          · simp only [aP, i64_w, i32_w]
            rfl
          exact norm_ (by simp only [putAll, aP]) (hCont (v336, v339) _ ⟨hHeld, (by (with_reducible repeat (first | apply Kd.S_alloc | apply Kd.S_drewN | apply Kd.S_drew)); exact Kd.S_mono HO337.out (fun _ hk => hk.2)), (Rz HO340.out), (Kz BK334.out), (Bq)⟩)
      rintro ⟨v336, v339⟩ w10 ⟨hS_, h0_, h1_, h2_, h3_⟩; (try dsimp -simprocs only at h0_ h1_ h2_ h3_); have n0_ := am h0_; have n1_ := am h1_; have n2_ := am h2_; have n3_ : Aside0 (Below w.heap.size w w10) := ⟨h3_⟩; clear BK334 HB; clear h0_ h1_ h2_ h3_; revert n0_ n1_ n2_ n3_; intro HO337 HO340 BK334 HB; have hHeld : w10.cell? ⟨gb334, 0, none⟩ = some (.slice A0 l0.length c0) := hS_; refine norm_ (a' := ?_) ?_ ?_
      rotate_left
      · simp only [putAll, aP]
        rfl
      refine pure_ (i := 5) (N := some 4) (v := ?_) (a' := ?_) (bA 6 63) rfl rfl (by kernel_rfl) (fun _ _ _ h => h) (Or.inl ⟨by rfl, ?_⟩) ?_ ?_
      rotate_left
      · intro w'
        go_simp
        with_reducible rfl
      rotate_left
      · simp only [aP, i64_w, i32_w]
        rfl
      refine done_ (by kernel_rfl) ?_; obtain ⟨Ao11, co11, eo11⟩ := Kd.R_slice HO340.out; subst eo11
      try go_wp2
      go_loopg [18] k (fun kq v18 w' => ∃ (x4_1 : List Int) (x18_1 : Int), v18 = .int .i64 x18_1 ∧ Aside0 (impl_groups.l0 kq y335 x4_1 (y338.length : Int) x18_1 l0 = some r) ∧ Aside0 (kq ≤ k) ∧ Aside0 (Kd.S (Kd.slice 3 (Kd.int .i64)) 31 w' w.heap.size (fun k_ => some k_ ≠ ((.slice Ao11 y338.length co11) : Value).ownBlock) v336 y335) ∧ Aside0 (Kd.R (Kd.int .i64) 3 w' w.heap.size (fun _ => True) (.slice Ao11 y338.length co11) x4_1) ∧ Aside0 (w'.heap[gb334]? = some (.cells #[(.slice A0 l0.length c0)] 27 (0, 0))) ∧ Aside0 (Below w.heap.size w w'))
      case atStart => exact ⟨(y338), (0), wZ, H', ⟨Nat.le_refl _⟩, ⟨by (with_reducible repeat (first | apply Kd.S_alloc | apply Kd.S_drewN | apply Kd.S_drew)); exact HO337.out⟩, ⟨Rz HO340.out⟩, ⟨Kz BK334.out⟩, ⟨Bq⟩⟩
      case round =>
        clear H'
        try clear c2
        try clear c2b0
        try clear c2b1
        try clear p2
        try clear c3
        try clear c3b0
        try clear c3b1
        try clear c6
        obtain ⟨x4_1, x18_1, rfl, HA, HK1, HO_3, HO_4, BK334, HB⟩ := hrel; have hl4_1 := (Kd.R_reads' HO_4.out).1; rw [hl4_1] at HO_4
        (try simp only [hl4_1])
        (try simp only [hl4_1] at BK334)
        (try simp only [hl4_1] at HO_3)
        cases gk with
        | zero => exact absurd HA.out (by simp [impl_groups.l0])
        | succ k1 =>
          have H := HA.out; clear HA
          simp only [impl_groups.l0] at H
          by_cases c12 : x18_1 < (y338.length : Int)
          · rw [if_pos c12] at H
            have c12b0 : decide (x18_1 < (y338.length : Int)) = true := decide_eq_true c12; (try simp only [hl4_1] at c12b0); clear c12
            by_cases c13 : 0 ≤ x18_1
            · rw [if_pos c13] at H
              have c13b0 : decide (0 ≤ x18_1) = true := decide_eq_true c13; clear c13
              by_cases c14 : x18_1 < (x4_1.length : Int)
              · rw [if_pos c14] at H
                have c14b0 : decide (x18_1 < (x4_1.length : Int)) = true := decide_eq_true c14; (try simp only [hl4_1] at c14b0); clear c14; obtain ⟨y341, hy341⟩ : ∃ y_ : List Int, y_ = (x4_1.set (x18_1 : Int).toNat (-1)) := ⟨_, rfl⟩
                replace H : (impl_groups.l0 k1 y335 y341 (y338.length : Int) (wrap64 (x18_1 + 1)) l0) = some r := by first | (rw [hy341]; with_reducible exact H) | (have H2_ := (Option.bind_some _ _).symm.trans H; rw [hy341]; with_reducible exact H2_) | (have H2_ := (Option.bind_some _ _).symm.trans H; with_reducible exact H2_) | with_reducible exact H | (rw [hy341]; exact H) | exact H
                have Ny341 := am hy341; clear hy341; have H' := am H; clear H; have p15 : 0 ≤ (x18_1 : Int) := dT; have q15 : (x18_1 : Int) < ((x4_1.length : Int) : Int) := dT; obtain ⟨go15, co15, eo15, gb15, gl15, cl15, HG15⟩ := Kd.R_form HO_4.out (by omega)
                (first | cases eo15 | (injection eo15 with ea_ en_ ec_; (first | subst ea_ | (injection ea_ with ea_; subst ea_)); subst ec_; clear en_))
                have GB15 := am gb15; have GG15 := am HG15; clear gb15 gl15 HG15; obtain ⟨hx15_0, hf15_0⟩ := Kd.R_celln 0 HO_4.out (x18_1 : Int) p15 q15; replace p15 := eq_true p15; replace q15 := eq_true q15; have HP16 := Kd.R_putg HO_4.out (x18_1 : Int) (-1)
                go_wp2_with (first | ((with_reducible refine gate_store (t := 3) (p := 23) rfl ?_); refine store_event (t := 3) (p := 23) (v := ?vo_w17) (w1 := (wr.setCell ⟨go15, (x18_1 : Int).toNat, none⟩ (.int .i64 (-1)))) ?hg ?ho ?hn ?hr ?_; (case ho => rfl); (case hg => rfl); (case hn => rfl); (case hr => first | (go_simp; done) | (go_simp; rfl)); intro w17 hw; have hg : wr.grownBy w17 (some go15) := (by rw [hw]; exact HP16.2); have hp_ : Kd.R (Kd.int .i64) 3 w17 w.heap.size (fun _ => True) (.slice (some ⟨go15, 0, none⟩) x4_1.length co11) y341 := (by rw [hw, Ny341.out]; exact HP16.1); clear HP16; have n0_ := am (Kd.S_after (v := (.slice (some ⟨go15, 0, none⟩) x4_1.length co11)) (v1 := (.slice (some ⟨go15, 0, none⟩) x4_1.length co11)) (ok := (fun _ => True)) (by (with_reducible repeat (first | apply Kd.S_alloc | apply Kd.S_drewN | apply Kd.S_drew)); exact Kd.S_mono HO_3.out (fun _ hk => ⟨trivial, hk⟩)) hg (.inl rfl)); have n1_ := am (hp_); have n2_ := am (blk_grown (g := gb334) (o := .cells #[.slice A0 l0.length c0] 27 (0, 0)) (Kz BK334.out) hg (Kd.R_ne HO_4.out BK334.out (by decide))); have n3_ := am ((by rw [hw]; exact below_set (HB.out) GB15.out : Below w.heap.size w w17)); clear HO_3 HO_4 BK334 HB; revert n0_ n1_ n2_ n3_; intro HO_3 HO_4 BK334 HB; clear hg hw hp_))
                (try simp only [← hl4_1])
                go_roundg k1
                case measure => have := HK1.out; omega
                case rel => exact ⟨(y341), (wrap64 (x18_1 + 1)), wZ, H', ⟨by have := HK1.out; omega⟩, ⟨by (try simp only [hl4_1]); (with_reducible repeat (first | apply Kd.S_alloc | apply Kd.S_drewN | apply Kd.S_drew)); exact Kd.S_mono HO_3.out (fun _ hk => hk.2)⟩, ⟨by (try simp only [hl4_1]); (with_reducible repeat (first | apply Kd.R_alloc | apply Kd.R_drewN | apply Kd.R_drew)); exact HO_4.out⟩, ⟨by (try simp only [hl4_1]); (with_reducible repeat (first | refine blk_drewN ?_ _ | refine blk_drew ?_ | refine blk_alloc ?_ _)); exact BK334.out⟩, ⟨Bq⟩⟩
              · rw [if_neg c14] at H
                exact absurd H (by simp)
            · rw [if_neg c13] at H
              exact absurd H (by simp)
          · rw [if_neg c12] at H
            have c12b0 : decide (x18_1 < (y338.length : Int)) = false := decide_eq_false c12; (try simp only [hl4_1] at c12b0); clear c12; have H' := am H; clear H; obtain ⟨hcz18_0, hfz18_0⟩ := cf1 (w := wr) BK334
            go_wp2
            go_loopg [3, 27] k1 (fun kq v3 v27 w' => ∃ (x3_2 : List (List Int)) (x4_2 : List Int) (x27_2 : Int), v27 = .int .i64 x27_2 ∧ Aside0 (impl_groups.l1 kq x3_2 x4_2 (l0.length : Int) x27_2 l0 = some r) ∧ Aside0 (kq ≤ k1) ∧ Aside0 (Kd.S (Kd.slice 3 (Kd.int .i64)) 31 w' w.heap.size (fun k_ => some k_ ≠ ((.slice Ao11 x4_1.length co11) : Value).ownBlock) v3 x3_2) ∧ Aside0 (Kd.R (Kd.int .i64) 3 w' w.heap.size (fun _ => True) (.slice Ao11 x4_1.length co11) x4_2) ∧ Aside0 (w'.heap[gb334]? = some (.cells #[(.slice A0 l0.length c0)] 27 (0, 0))) ∧ Aside0 (Below w.heap.size w w'))
            case atStart => exact ⟨(y335), (x4_1), (0), wZ, H', ⟨Nat.le_refl _⟩, ⟨by (try simp only [hl4_1]); (with_reducible repeat (first | apply Kd.S_alloc | apply Kd.S_drewN | apply Kd.S_drew)); exact HO_3.out⟩, ⟨by (try simp only [hl4_1]); (with_reducible repeat (first | apply Kd.R_alloc | apply Kd.R_drewN | apply Kd.R_drew)); exact HO_4.out⟩, ⟨by (try simp only [hl4_1]); (with_reducible repeat (first | refine blk_drewN ?_ _ | refine blk_drew ?_ | refine blk_alloc ?_ _)); exact BK334.out⟩, ⟨Bq⟩⟩
            case round =>
              clear H'
              try clear c1
              try clear p1
              try clear q1
              try clear hx1
              try clear hf1
              try clear c2
              try clear c2b0
              try clear c2b1
              try clear p2
              try clear c3
              try clear c3b0
              try clear c3b1
              try clear c6
              try clear p6
              try clear c12
              try clear c12b0
              try clear c13
              try clear c13b0
              try clear c14
              try clear c14b0
              try clear p15
              try clear q15
              try clear hx15
              try clear hf15
              try clear hcz18_0
              try clear hfz18_0
              try clear hx15_0
              try clear p15
              try clear p2
              try clear q15
              obtain ⟨x3_2, x4_2, x27_2, rfl, HA, HK2, HO_3, HO_4, BK334, HB⟩ := hrel; have hl4_2 := (Kd.R_reads' HO_4.out).1; rw [hl4_2] at HO_4
              (try simp only [hl4_2])
              (try simp only [hl4_2] at BK334)
              (try simp only [hl4_2] at HO_3)
              cases gk with
              | zero => exact absurd HA.out (by simp [impl_groups.l1])
              | succ k2 =>
                have H := HA.out; clear HA
                simp only [impl_groups.l1] at H
                by_cases c19 : x27_2 < (l0.length : Int)
                · rw [if_pos c19] at H
                  have c19b0 : decide (x27_2 < (l0.length : Int)) = true := decide_eq_true c19; (try simp only [hl4_1, hl4_2] at c19b0); clear c19
                  by_cases c20 : 0 ≤ x27_2
                  · rw [if_pos c20] at H
                    have c20b0 : decide (0 ≤ x27_2) = true := decide_eq_true c20; clear c20
                    by_cases c21 : x27_2 < (x4_2.length : Int)
                    · rw [if_pos c21] at H
                      have c21b0 : decide (x27_2 < (x4_2.length : Int)) = true := decide_eq_true c21; (try simp only [hl4_1, hl4_2] at c21b0); clear c21
                      by_cases c22 : (rd x4_2 x27_2) ≥ 0
                      · rw [if_pos c22] at H
                        have c22b0 : decide (0 ≤ (rd x4_2 x27_2)) = true := decide_eq_true c22; clear c22; have H' := am H; clear H; obtain ⟨ad342, e342, hx342_0⟩ := Kd.at_int (Kd.R_reads' HO_4.out).2.2 x27_2 dT dT; cases e342; have p342 := eT (0 ≤ (x27_2 : Int)); have q342 := eT (x27_2 < (x4_2.length : Int))
                        go_wp2
                        (try simp only [← hl4_2])
                        go_roundg k2
                        case measure => have := HK1.out; have := HK2.out; omega
                        case rel => exact ⟨(x3_2), (x4_2), (wrap64 (x27_2 + 1)), wZ, H', ⟨by have := HK1.out; have := HK2.out; omega⟩, ⟨by (try simp only [hl4_1]); (try simp only [hl4_2]); (with_reducible repeat (first | apply Kd.S_alloc | apply Kd.S_drewN | apply Kd.S_drew)); exact HO_3.out⟩, ⟨by (try simp only [hl4_1]); (try simp only [hl4_2]); (with_reducible repeat (first | apply Kd.R_alloc | apply Kd.R_drewN | apply Kd.R_drew)); exact HO_4.out⟩, ⟨by (try simp only [hl4_1]); (try simp only [hl4_2]); (with_reducible repeat (first | refine blk_drewN ?_ _ | refine blk_drew ?_ | refine blk_alloc ?_ _)); exact BK334.out⟩, ⟨Bq⟩⟩
                      · rw [if_neg c22] at H
                        have c22b0 : decide (0 ≤ (rd x4_2 x27_2)) = false := decide_eq_false c22; clear c22; obtain ⟨y343, hy343⟩ : ∃ y_ : List Int, y_ = (x4_2.set (x27_2 : Int).toNat (x3_2.length : Int)) := ⟨_, rfl⟩
                        replace H : (impl_groups.l2 k2 x3_2 y343 (x3_2.length : Int) (l0.length : Int) x27_2 l0 (([x27_2] : List Int))) = some r := by first | (rw [hy343]; with_reducible exact H) | (have H2_ := (Option.bind_some _ _).symm.trans H; rw [hy343]; with_reducible exact H2_) | (have H2_ := (Option.bind_some _ _).symm.trans H; with_reducible exact H2_) | with_reducible exact H | (rw [hy343]; exact H) | exact H
                        have Ny343 := am hy343; clear hy343; obtain ⟨y344, hy344⟩ : ∃ y_ : List Int, y_ = (([x27_2] : List Int)) := ⟨_, rfl⟩
                        replace H : (impl_groups.l2 k2 x3_2 y343 (x3_2.length : Int) (l0.length : Int) x27_2 l0 y344) = some r := by first | (rw [hy344]; with_reducible exact H) | (have H2_ := (Option.bind_some _ _).symm.trans H; rw [hy344]; with_reducible exact H2_) | (have H2_ := (Option.bind_some _ _).symm.trans H; with_reducible exact H2_) | with_reducible exact H | (rw [hy344]; exact H) | exact H
                        have Ny344 := am hy344; clear hy344; have H' := am H; clear H; obtain ⟨ad342, e342, hx342_0⟩ := Kd.at_int (Kd.R_reads' HO_4.out).2.2 x27_2 dT dT; cases e342; have p342 := eT (0 ≤ (x27_2 : Int)); have q342 := eT (x27_2 < (x4_2.length : Int)); obtain ⟨Ao24, co24, eo24⟩ := Kd.S_slice HO_3.out; subst eo24; have p23 : 0 ≤ (x27_2 : Int) := dT; have q23 : (x27_2 : Int) < ((x4_2.length : Int) : Int) := dT; obtain ⟨go23, co23, eo23, gb23, gl23, cl23, HG23⟩ := Kd.R_form HO_4.out (by omega)
                        (first | cases eo23 | (injection eo23 with ea_ en_ ec_; (first | subst ea_ | (injection ea_ with ea_; subst ea_)); subst ec_; clear en_))
                        have GB23 := am gb23; have GG23 := am HG23; clear gb23 gl23 HG23
                        (first | simp only [add_plain] at hx342_0 | skip)
                        obtain ⟨hx23_0, hf23_0⟩ := Kd.R_celln 0 HO_4.out (x27_2 : Int) p23 q23; replace p23 := eq_true p23; replace q23 := eq_true q23; have HP25 := Kd.R_putg HO_4.out (x27_2 : Int) (x3_2.length : Int)
                        go_wp2_with (first | ((with_reducible refine gate_store (t := 3) (p := 40) rfl ?_); refine store_event (t := 3) (p := 40) (v := ?vo_w26) (w1 := (wr.setCell ⟨go23, (x27_2 : Int).toNat, none⟩ (.int .i64 (x3_2.length : Int)))) ?hg ?ho ?hn ?hr ?_; (case ho => rfl); (case hg => rfl); (case hn => rfl); (case hr => first | (go_simp; done) | (go_simp; rfl)); intro w26 hw; have hg : wr.grownBy w26 (some go23) := (by rw [hw]; exact HP25.2); have hp_ : Kd.R (Kd.int .i64) 3 w26 w.heap.size (fun _ => True) (.slice (some ⟨go23, 0, none⟩) x4_2.length co11) y343 := (by rw [hw, Ny343.out]; exact HP25.1); clear HP25; have n0_ := am (Kd.S_after (v := (.slice (some ⟨go23, 0, none⟩) x4_2.length co11)) (v1 := (.slice (some ⟨go23, 0, none⟩) x4_2.length co11)) (ok := (fun _ => True)) (by (with_reducible repeat (first | apply Kd.S_alloc | apply Kd.S_drewN | apply Kd.S_drew)); exact Kd.S_mono HO_3.out (fun _ hk => ⟨trivial, hk⟩)) hg (.inl rfl)); have n1_ := am (hp_); have n2_ := am (blk_grown (g := gb334) (o := .cells #[.slice A0 l0.length c0] 27 (0, 0)) (Kz BK334.out) hg (Kd.R_ne HO_4.out BK334.out (by decide))); have n3_ := am ((by rw [hw]; exact below_set (HB.out) GB23.out : Below w.heap.size w w26)); clear HO_3 HO_4 BK334 HB; revert n0_ n1_ n2_ n3_; intro HO_3 HO_4 BK334 HB; clear hg hw hp_) | ((with_reducible refine gate_dst (N := 42) rfl ?_); refine Kd.R_lit (Kd.int .i64) _ 3 ?hg (N := 42) ?hd (xs := ([x27_2] : List Int)) (inner := [.int .i64 x27_2]) (ok := fun _ => True) (okp := fun _ => True) ?hr ?hp (fun _ hk => hk) trivial (Below.refl _ _) (Nat.le_refl _) (by simp) ?_; (case hd => rfl); (case hg => rfl); (case hr => first | (go_simp; done) | (go_simp; rfl)); (case hp => exact (Reps.one (show Kd.M (Kd.int .i64) _ _ _ x27_2 [.int .i64 x27_2] from rfl) (Reps.none _ _))); intro v345 w27 ho28 hb hg_ hnew_; clear hg_ hnew_; (first | rw [← Ny344.out] at ho28 | (simp only [Int.reduceToNat] at ho28; rw [← Ny344.out] at ho28)); have n0_ := am (Kd.S_elder' (by (with_reducible repeat (first | apply Kd.S_alloc | apply Kd.S_drewN | apply Kd.S_drew)); exact HO_3.out) (Kd.R_base ho28) hb); have n1_ := Re HO_4 (Kd.R_base ho28) hb; have n2_ := Rm (Kd.R_new' ho28 (Kd.R_lt (Rz HO_4.out))) HB; have n3_ := Kb BK334 hb; have n4_ := Bc HB hb; clear HO_3 HO_4 BK334 HB; revert n0_ n1_ n2_ n3_ n4_; intro HO_3 HO_4 HO346 BK334 HB; clear hb ho28) | ((with_reducible refine gate_dst (N := 8) rfl ?_); refine bE 8 #[.slice none 0 0] 31 ?_; intro gb347 hg w29 hbox hb; have n0_ := am (Kd.S_below (Kd.S_elderB (by (with_reducible repeat (first | apply Kd.S_alloc | apply Kd.S_drewN | apply Kd.S_drew)); exact HO_3.out) gb347 (Nat.le_of_eq hg.symm)) hb); have n1_ := Rb HO_4 hb; have n2_ := Rb HO346 hb; have n3_ := Kb BK334 hb; have n4_ := Bc HB hb; have n5_ := am (hbox); have n6_ := Gm HB hg; have n7_ := Gm HB hg; have n8_ := Nl BK334 hg; have n9_ := Ng BK334 hg; clear HO_3 HO_4 HO346 BK334 HB; revert n0_ n1_ n2_ n3_ n4_ n5_ n6_ n7_ n8_ n9_; intro HO_3 HO_4 HO346 BK334 HB BK347 GW347 GE347 NB334_347 NB347_334; clear hb hbox hg; obtain ⟨Ao30, co30, eo30⟩ := Kd.R_slice HO346.out; subst eo30; have hnb31 := NB347_334.out; have hnc31 := NB334_347.out; obtain ⟨hcz32_0, hfz32_0⟩ := cf1 (w := w29) BK347))
                        (try simp only [aP])
                        go_loopg [8] k2 (fun kq v8 w' => ∃ (x4_3 : List Int) (x348000_3 : List Int) (u348000 : Value) (gb347 : Nat), v8 = .pointer (some ⟨gb347, 0, none⟩) ∧ Aside0 (impl_groups.l2 kq x3_2 x4_3 (x3_2.length : Int) (l0.length : Int) x27_2 l0 x348000_3 = some r) ∧ Aside0 (kq ≤ k2) ∧ Aside0 (Kd.S (Kd.slice 3 (Kd.int .i64)) 31 w' w.heap.size (fun k_ => some k_ ≠ ((.slice (some ⟨go23, 0, none⟩) x4_2.length co11) : Value).ownBlock ∧ some k_ ≠ (u348000 : Value).ownBlock ∧ k_ ≠ gb347) (.slice Ao24 x3_2.length co24) x3_2) ∧ Aside0 (Kd.R (Kd.int .i64) 3 w' w.heap.size (fun k_ => some k_ ≠ (u348000 : Value).ownBlock) (.slice (some ⟨go23, 0, none⟩) x4_2.length co11) x4_3) ∧ Aside0 (Kd.Q (Kd.int .i64) 3 w' w.heap.size (fun k_ => some k_ ≠ ((.slice (some ⟨go23, 0, none⟩) x4_2.length co11) : Value).ownBlock) u348000 x348000_3) ∧ Aside0 (w'.heap[gb334]? = some (.cells #[(.slice A0 l0.length c0)] 27 (0, 0))) ∧ Aside0 (w'.heap[gb347]? = some (.cells #[u348000] 31 (0, 0))) ∧ Aside0 (Below w.heap.size w w') ∧ Aside0 (w.heap.size ≤ gb347) ∧ Aside0 (gb334 ≠ gb347))
                        case atStart => exact ⟨(y343), (y344), (.slice Ao30 y344.length co30), gb347, wZ, H', ⟨Nat.le_refl _⟩, ⟨by (try simp only [hl4_1]); (try simp only [hl4_2]); (with_reducible repeat (first | apply Kd.S_alloc | apply Kd.S_drewN | apply Kd.S_drew)); exact Kd.S_mono (Kd.S_far (p := ⟨gb347, 0, none⟩) (Kd.S_mono HO_3.out (fun k_ hk => (⟨hk, hk.2⟩ : _ ∧ k_ ≠ gb347))) (fun _ hk => hk.2) (.slice Ao30 y344.length co30)) (fun _ hk => ⟨hk.1.1.1.2, ⟨hk.1.1.2, hk.1.2⟩⟩)⟩, ⟨by (try simp only [hl4_1]); (try simp only [hl4_2]); (with_reducible repeat (first | apply Kd.R_alloc | apply Kd.R_drewN | apply Kd.R_drew)); exact Kd.R_mono (Kd.R_far (p := ⟨gb347, 0, none⟩) (Kd.R_types HO_4.out BK347.out (by decide)) (fun _ hk => hk.2) (.slice Ao30 y344.length co30)) (fun _ hk => hk.1.2)⟩, ⟨Kd.Q_of_R (by (try simp only [hl4_1]); (try simp only [hl4_2]); (with_reducible repeat (first | apply Kd.R_alloc | apply Kd.R_drewN | apply Kd.R_drew)); exact Kd.R_mono (Kd.R_far (p := ⟨gb347, 0, none⟩) (Kd.R_types HO346.out BK347.out (by decide)) (fun _ hk => hk.2) (.slice Ao30 y344.length co30)) (fun _ hk => hk.1.2))⟩, ⟨by (try simp only [hl4_1]); (try simp only [hl4_2]); (with_reducible repeat (first | refine blk_drewN ?_ _ | refine blk_drew ?_ | refine blk_alloc ?_ _)); refine blk_far ?_ NB334_347.out _; (with_reducible repeat (first | refine blk_drewN ?_ _ | refine blk_drew ?_ | refine blk_alloc ?_ _)); exact BK334.out⟩, ⟨by (try simp only [hl4_1]); (try simp only [hl4_2]); (with_reducible repeat (first | refine blk_drewN ?_ _ | refine blk_drew ?_ | refine blk_alloc ?_ _)); refine blk_put (cs := #[.slice none 0 0]) ?_ 0 _ rfl; (with_reducible repeat (first | refine blk_drewN ?_ _ | refine blk_drew ?_ | refine blk_alloc ?_ _)); exact BK347.out⟩, ⟨Bq⟩, GE347, NB334_347⟩
                        case round =>
                          clear H'
                          try clear c1
                          try clear p1
                          try clear q1
                          try clear hx1
                          try clear hf1
                          try clear c2
                          try clear c2b0
                          try clear c2b1
                          try clear p2
                          try clear q2
                          try clear hx2
                          try clear hf2
                          try clear c3
                          try clear c3b0
                          try clear c3b1
                          try clear p3
                          try clear q3
                          try clear hx3
                          try clear c6
                          try clear p6
                          try clear c12
                          try clear c12b0
                          try clear c13
                          try clear c13b0
                          try clear c14
                          try clear c14b0
                          try clear p15
                          try clear q15
                          try clear hx15
                          try clear hf15
                          try clear c19
                          try clear c19b0
                          try clear c20
                          try clear c20b0
                          try clear c21
                          try clear c21b0
                          try clear c22
                          try clear c22b0
                          try clear p23
                          try clear q23
                          try clear hx23
                          try clear hf23
                          try clear c31
                          try clear hcz18_0
                          try clear hcz32_0
                          try clear hfz18_0
                          try clear hfz32_0
                          try clear hx15_0
                          try clear hx23_0
                          try clear hx342_0
                          try clear p1
                          try clear p15
                          try clear p2
                          try clear p23
                          try clear p342
                          try clear p6
                          try clear q1
                          try clear q15
                          try clear q23
                          try clear q342
                          obtain ⟨x4_3, x348000_3, u348000, gb347, rfl, HA, HK3, HO_3, HO_4, HO_348000, BK334, BK347, HB, GE347, NB334_347⟩ := hrel; have NB347_334 := am (Ne.symm NB334_347.out); have hl4_3 := (Kd.R_reads' HO_4.out).1; rw [hl4_3] at HO_4
                          (try simp only [hl4_3])
                          (try simp only [hl4_3] at BK334)
                          (try simp only [hl4_3] at BK347)
                          (try simp only [hl4_3] at HO_3)
                          (try simp only [hl4_3] at HO_348000)
                          cases gk with
                          | zero => exact absurd HA.out (by simp [impl_groups.l2])
                          | succ k3 =>
                            have H := HA.out; clear HA
                            simp only [impl_groups.l2] at H
                            by_cases c33 : (x348000_3.length : Int) > 0
                            · rw [if_pos c33] at H
                              have c33b0 : decide (0 < (x348000_3.length : Int)) = true := decide_eq_true c33; (try simp only [hl4_1, hl4_2, hl4_3] at c33b0); have c33b1 : decide (0 < x348000_3.length) = true := decide_eq_true (by omega); clear c33; have H' := am H; clear H; have hnb34 := NB347_334.out; have hnc34 := NB334_347.out; obtain ⟨hcz35_0, hfz35_0⟩ := cf1 (w := wr) BK347; obtain ⟨Ao36, co36, eo36, _⟩ := Kd.Q_slice HO_348000.out; subst eo36; obtain ⟨hcz37_0, hfz37_0⟩ := cf1 (w := wr) BK334
                              go_wp2
                              go_loopg [50] k3 (fun kq v50 w' => ∃ (x4_4 : List Int) (x50_4 : Int) (x348000_4 : List Int) (u348000 : Value), v50 = .int .i64 x50_4 ∧ Aside0 (impl_groups.l3 kq x3_2 x4_4 (x3_2.length : Int) (l0.length : Int) x27_2 (l0.length : Int) x50_4 l0 x348000_4 = some r) ∧ Aside0 (kq ≤ k3) ∧ Aside0 (Kd.S (Kd.slice 3 (Kd.int .i64)) 31 w' w.heap.size (fun k_ => some k_ ≠ ((.slice (some ⟨go23, 0, none⟩) x4_3.length co11) : Value).ownBlock ∧ some k_ ≠ (u348000 : Value).ownBlock ∧ k_ ≠ gb347) (.slice Ao24 x3_2.length co24) x3_2) ∧ Aside0 (Kd.R (Kd.int .i64) 3 w' w.heap.size (fun k_ => some k_ ≠ (u348000 : Value).ownBlock) (.slice (some ⟨go23, 0, none⟩) x4_3.length co11) x4_4) ∧ Aside0 (Kd.Q (Kd.int .i64) 3 w' w.heap.size (fun k_ => some k_ ≠ ((.slice (some ⟨go23, 0, none⟩) x4_3.length co11) : Value).ownBlock) u348000 x348000_4) ∧ Aside0 (w'.heap[gb334]? = some (.cells #[(.slice A0 l0.length c0)] 27 (0, 0))) ∧ Aside0 (w'.heap[gb347]? = some (.cells #[u348000] 31 (0, 0))) ∧ Aside0 (Below w.heap.size w w'))
                              case atStart => exact ⟨(x4_3), (0), (x348000_3), (.slice Ao36 x348000_3.length co36), wZ, H', ⟨Nat.le_refl _⟩, ⟨by (try simp only [hl4_1]); (try simp only [hl4_2]); (try simp only [hl4_3]); (with_reducible repeat (first | apply Kd.S_alloc | apply Kd.S_drewN | apply Kd.S_drew)); exact HO_3.out⟩, ⟨by (try simp only [hl4_1]); (try simp only [hl4_2]); (try simp only [hl4_3]); (with_reducible repeat (first | apply Kd.R_alloc | apply Kd.R_drewN | apply Kd.R_drew)); exact HO_4.out⟩, ⟨by (try simp only [hl4_1]); (try simp only [hl4_2]); (try simp only [hl4_3]); (with_reducible repeat (first | apply Kd.Q_alloc | apply Kd.Q_drewN | apply Kd.Q_drew)); exact HO_348000.out⟩, ⟨by (try simp only [hl4_1]); (try simp only [hl4_2]); (try simp only [hl4_3]); (with_reducible repeat (first | refine blk_drewN ?_ _ | refine blk_drew ?_ | refine blk_alloc ?_ _)); exact BK334.out⟩, ⟨by (try simp only [hl4_1]); (try simp only [hl4_2]); (try simp only [hl4_3]); (with_reducible repeat (first | refine blk_drewN ?_ _ | refine blk_drew ?_ | refine blk_alloc ?_ _)); exact BK347.out⟩, ⟨Bq⟩⟩
                              case round =>
                                clear H'
                                try clear c1
                                try clear p1
                                try clear q1
                                try clear hx1
                                try clear hf1
                                try clear c2
                                try clear c2b0
                                try clear c2b1
                                try clear p2
                                try clear q2
                                try clear hx2
                                try clear hf2
                                try clear c3
                                try clear c3b0
                                try clear c3b1
                                try clear p3
                                try clear q3
                                try clear hx3
                                try clear c6
                                try clear p6
                                try clear c12
                                try clear c12b0
                                try clear c13
                                try clear c13b0
                                try clear c14
                                try clear c14b0
                                try clear p15
                                try clear q15
                                try clear hx15
                                try clear hf15
                                try clear c19
                                try clear c19b0
                                try clear c20
                                try clear c20b0
                                try clear c21
                                try clear c21b0
                                try clear c22
                                try clear c22b0
                                try clear p23
                                try clear q23
                                try clear hx23
                                try clear hf23
                                try clear c31
                                try clear c33
                                try clear c33b0
                                try clear c33b1
                                try clear c34
                                try clear p34
                                try clear q34
                                try clear hx34
                                try clear hcz18_0
                                try clear hcz32_0
                                try clear hcz35_0
                                try clear hcz37_0
                                try clear hfz18_0
                                try clear hfz32_0
                                try clear hfz35_0
                                try clear hfz37_0
                                try clear hx15_0
                                try clear hx23_0
                                try clear hx342_0
                                try clear p1
                                try clear p15
                                try clear p2
                                try clear p23
                                try clear p3
                                try clear p342
                                try clear p6
                                try clear q1
                                try clear q15
                                try clear q2
                                try clear q23
                                try clear q3
                                try clear q342
                                obtain ⟨x4_4, x50_4, x348000_4, u348000, rfl, HA, HK4, HO_3, HO_4, HO_348000, BK334, BK347, HB⟩ := hrel; have hl4_4 := (Kd.R_reads' HO_4.out).1; rw [hl4_4] at HO_4
                                (try simp only [hl4_4])
                                (try simp only [hl4_4] at BK334)
                                (try simp only [hl4_4] at BK347)
                                (try simp only [hl4_4] at HO_3)
                                (try simp only [hl4_4] at HO_348000)
                                cases gk with
                                | zero => exact absurd HA.out (by simp [impl_groups.l3])
                                | succ k4 =>
                                  have H := HA.out; clear HA
                                  simp only [impl_groups.l3] at H
                                  by_cases c38 : x50_4 < (l0.length : Int)
                                  · rw [if_pos c38] at H
                                    have c38b0 : decide (x50_4 < (l0.length : Int)) = true := decide_eq_true c38; (try simp only [hl4_1, hl4_2, hl4_3, hl4_4] at c38b0); clear c38
                                    by_cases c39 : 0 ≤ x50_4
                                    · rw [if_pos c39] at H
                                      have c39b0 : decide (0 ≤ x50_4) = true := decide_eq_true c39; clear c39
                                      by_cases c40 : x50_4 < (x4_4.length : Int)
                                      · rw [if_pos c40] at H
                                        have c40b0 : decide (x50_4 < (x4_4.length : Int)) = true := decide_eq_true c40; (try simp only [hl4_1, hl4_2, hl4_3, hl4_4] at c40b0); clear c40
                                        by_cases c41 : (rd x4_4 x50_4) < 0
                                        · rw [if_pos c41] at H
                                          have c41b0 : decide ((rd x4_4 x50_4) < 0) = true := decide_eq_true c41; clear c41
                                          by_cases c42 : x50_4 < (l0.length : Int)
                                          · rw [if_pos c42] at H
                                            have c42b0 : decide (x50_4 < (l0.length : Int)) = true := decide_eq_true c42; (try simp only [hl4_1, hl4_2, hl4_3, hl4_4] at c42b0); clear c42; replace H := Option.bind_eq_some_iff.mp H; obtain ⟨t353, A430, H⟩ := H; (try dsimp -simprocs only at H); have A43 := am A430; clear A430
                                            by_cases c44 : t353 = true
                                            · subst c44
                                              rw [if_pos rfl] at H; obtain ⟨y354, hy354⟩ : ∃ y_ : List Int, y_ = (x4_4.set (x50_4 : Int).toNat (x3_2.length : Int)) := ⟨_, rfl⟩
                                              replace H : (if x348000_4.length < 17592186044416 then (impl_groups.l3 k4 x3_2 y354 (x3_2.length : Int) (l0.length : Int) x27_2 (l0.length : Int) (wrap64 (x50_4 + 1)) l0 (x348000_4 ++ [x50_4])) else (none)) = some r := by first | (rw [hy354]; with_reducible exact H) | (have H2_ := (Option.bind_some _ _).symm.trans H; rw [hy354]; with_reducible exact H2_) | (have H2_ := (Option.bind_some _ _).symm.trans H; with_reducible exact H2_) | with_reducible exact H | (rw [hy354]; exact H) | exact H
                                              have Ny354 := am hy354; clear hy354
                                              by_cases c46 : x348000_4.length < 17592186044416
                                              · rw [if_pos c46] at H
                                                have LMc46 := am c46; clear c46; obtain ⟨y355, hy355⟩ : ∃ y_ : List Int, y_ = (x348000_4 ++ [x50_4]) := ⟨_, rfl⟩
                                                replace H : (impl_groups.l3 k4 x3_2 y354 (x3_2.length : Int) (l0.length : Int) x27_2 (l0.length : Int) (wrap64 (x50_4 + 1)) l0 y355) = some r := by first | (rw [hy355]; with_reducible exact H) | (have H2_ := (Option.bind_some _ _).symm.trans H; rw [hy355]; with_reducible exact H2_) | (have H2_ := (Option.bind_some _ _).symm.trans H; with_reducible exact H2_) | with_reducible exact H | (rw [hy355]; exact H) | exact H
                                                have Ny355 := am hy355; clear hy355; have H' := am H; clear H; have p351 : 0 ≤ (x50_4 : Int) := dT; have q351 : x50_4 < (x4_4.length : Int) := dT; obtain ⟨ad351, e351, hx351_0⟩ := Kd.at_int (Kd.R_reads' HO_4.out).2.2 x50_4 p351 q351; obtain rfl : (⟨go23, 0, none⟩ : Addr) = ad351 := (by injection e351)
                                                (first | simp only [add_plain] at hx351_0 | simp only [add_at] at hx351_0 | simp only [Addr.add, Nat.zero_add] at hx351_0 | skip)
                                                replace p351 := eq_true p351; replace q351 := eq_true q351; have hnb47 := NB334_347.out; have hnc47 := NB347_334.out; obtain ⟨hcz48_0, hfz48_0⟩ := cf1 (w := wr) BK334; have p352 : 0 ≤ (x50_4 : Int) := dT; have q352 : x50_4 < (l0.length : Int) := dT; obtain ⟨ad352, A352_0, c352_0, e352, hx352_0, hl352_0, hi352_0⟩ := at_L3 HR0.out x50_4 p352 q352; cases e352; replace hx352_0 := (HB.out.cell (World.block_lt_of_cell? w _ hx352_0)).trans hx352_0; have HR352_0 := am hi352_0; have HC352_0 := am hl352_0; clear hi352_0 hl352_0; replace p352 := eq_true p352; replace q352 := eq_true q352; obtain ⟨Ao49, co49, eo49, _⟩ := Kd.Q_slice HO_348000.out; subst eo49
                                                go_wp2_with (first | (go_at_call 120; (with_reducible refine (slices_ContainsFunc_int_int_at_impl_groups_1.calls k4 _ _ (rd_L3 l0 x50_4)  gb334 (some ad352) c0 l0 gb347 Ao49 co49 x348000_4 true _ ?side1 ?side2 ?side3 ?side4 ?side5 ?side6 ?side7 ?side8 A43.out).mono ?_); (case side1 => exact Cz (Kd.C_below HR352_0.out HB.out)); (case side2 => exact HC352_0.out); (case side3 => exact Kz BK334.out); (case side4 => exact Cz (Kd.C_below HR0.out HB.out)); (case side5 => exact HC0.out); (case side6 => exact Kz BK347.out); (case side7 => exact Cz ((Kd.Q_reads' HO_348000.out).2.2)); (case side8 => exact (Kd.Q_reads' HO_348000.out).2.1); rintro e w' ⟨rfl, ⟨nd, rfl⟩⟩; (try (rw [drewN_self wr]; generalize hq_ : World.drewN wr _ = wr; have n0_ : Aside0 (Kd.S (Kd.slice 3 (Kd.int .i64)) 31 wr w.heap.size (fun k_ => some k_ ≠ (.slice (some ⟨go23, 0, none⟩) x4_4.length co11 : Value).ownBlock ∧ some k_ ≠ (.slice Ao49 x348000_4.length co49 : Value).ownBlock ∧ k_ ≠ gb347) (.slice Ao24 x3_2.length co24) x3_2) := ⟨by rw [← hq_]; exact (by (with_reducible repeat (first | apply Kd.S_alloc | apply Kd.S_drewN | apply Kd.S_drew)); exact HO_3.out)⟩; have n1_ : Aside0 (Kd.R (Kd.int .i64) 3 wr w.heap.size (fun k_ => some k_ ≠ (.slice Ao49 x348000_4.length co49 : Value).ownBlock) (.slice (some ⟨go23, 0, none⟩) x4_4.length co11) x4_4) := ⟨by rw [← hq_]; exact (Rz HO_4.out)⟩; have n2_ : Aside0 (Kd.Q (Kd.int .i64) 3 wr w.heap.size (fun k_ => some k_ ≠ (.slice (some ⟨go23, 0, none⟩) x4_4.length co11 : Value).ownBlock) (.slice Ao49 x348000_4.length co49) x348000_4) := ⟨by rw [← hq_]; exact (by (with_reducible repeat (first | apply Kd.Q_alloc | apply Kd.Q_drewN | apply Kd.Q_drew)); exact HO_348000.out)⟩; have n3_ : Aside0 (wr.heap[gb334]? = some (.cells #[.slice (some ad352) l0.length c0] 27 (0, 0))) := ⟨by rw [← hq_]; exact (Kz BK334.out)⟩; have n4_ : Aside0 (wr.heap[gb347]? = some (.cells #[.slice Ao49 x348000_4.length co49] 31 (0, 0))) := ⟨by rw [← hq_]; exact (Kz BK347.out)⟩; have n5_ : Aside0 (Below w.heap.size w wr) := ⟨by rw [← hq_]; exact (Bq)⟩; clear HO_3 HO_4 HO_348000 BK334 BK347 HB hq_; revert n0_ n1_ n2_ n3_ n4_ n5_; intro HO_3 HO_4 HO_348000 BK334 BK347 HB)); have p45 : 0 ≤ (x50_4 : Int) := dT; have q45 : (x50_4 : Int) < ((x4_4.length : Int) : Int) := dT; obtain ⟨hx45_0, hf45_0⟩ := Kd.R_celln 0 HO_4.out (x50_4 : Int) p45 q45; replace p45 := eq_true p45; replace q45 := eq_true q45; obtain ⟨hy50_, hz50_⟩ := Kd.R_celln 0 HO_4.out (x50_4 : Int) (dT) (dT); have HP50 := Kd.R_putg HO_4.out (x50_4 : Int) (x3_2.length : Int)) | ((with_reducible refine gate_store (t := 3) (p := 69) rfl ?_); refine store_event (t := 3) (p := 69) (v := ?vo_w51) (w1 := (wr.setCell ⟨go23, (x50_4 : Int).toNat, none⟩ (.int .i64 (x3_2.length : Int)))) ?hg ?ho ?hn ?hr ?_; (case ho => rfl); (case hg => rfl); (case hn => rfl); (case hr => first | (go_simp; done) | (go_simp; rfl)); intro w51 hw; have hg : wr.grownBy w51 (some go23) := (by rw [hw]; exact HP50.2); have hp_ : Kd.R (Kd.int .i64) 3 w51 w.heap.size (fun k_ => some k_ ≠ (.slice Ao49 x348000_4.length co49 : Value).ownBlock) (.slice (some ⟨go23, 0, none⟩) x4_4.length co11) y354 := (by rw [hw, Ny354.out]; exact HP50.1); clear HP50; have n0_ := am (Kd.S_after (v := (.slice (some ⟨go23, 0, none⟩) x4_4.length co11)) (v1 := (.slice (some ⟨go23, 0, none⟩) x4_4.length co11)) (ok := (fun k_ => some k_ ≠ (.slice Ao49 x348000_4.length co49 : Value).ownBlock ∧ k_ ≠ gb347)) (by (with_reducible repeat (first | apply Kd.S_alloc | apply Kd.S_drewN | apply Kd.S_drew)); exact Kd.S_mono HO_3.out (fun _ hk => ⟨⟨hk.2.1, hk.2.2⟩, hk.1⟩)) hg (.inl rfl)); have n1_ := am (hp_); have n2_ := am (Kd.Q_after (v := (.slice (some ⟨go23, 0, none⟩) x4_4.length co11)) (v1 := (.slice (some ⟨go23, 0, none⟩) x4_4.length co11)) (ok := (fun _ => True)) (by (with_reducible repeat (first | apply Kd.Q_alloc | apply Kd.Q_drewN | apply Kd.Q_drew)); exact Kd.Q_mono HO_348000.out (fun _ hk => ⟨trivial, hk⟩)) hg (.inl rfl)); have n3_ := am (blk_grown (g := gb334) (o := .cells #[.slice (some ad352) l0.length c0] 27 (0, 0)) (Kz BK334.out) hg (Kd.R_ne HO_4.out BK334.out (by decide))); have n4_ := am (blk_grown (g := gb347) (o := .cells #[.slice Ao49 x348000_4.length co49] 31 (0, 0)) (Kz BK347.out) hg (Kd.R_ne HO_4.out BK347.out (by decide))); have n5_ := am ((by rw [hw]; exact below_set (HB.out) GB23.out : Below w.heap.size w w51)); clear HO_3 HO_4 HO_348000 BK334 BK347 HB; revert n0_ n1_ n2_ n3_ n4_ n5_; intro HO_3 HO_4 HO_348000 BK334 BK347 HB; clear hg hw hp_; obtain ⟨hcz52_0, hfz52_0⟩ := cf1 (w := w51) BK347) | ((with_reducible refine gate_builtin (b := .append) (xs := #[.tmp 70, .tmp 72]) rfl ?_); at_builtin; refine Kd.Q_append (Kd.int .i64) (w0 := w) w.heap.size rfl (.tmp 70) (.tmp 72) 31 3 (.int .i64 0) 8 rfl Try.underlying31 info3 rfl (by decide) (by omega) (.slice Ao49 x348000_4.length co49) x348000_4 x50_4 [.int .i64 x50_4] (fun k_ => some k_ ≠ (.slice (some ⟨go23, 0, none⟩) x4_4.length co11 : Value).ownBlock) (fun _ => False) rfl rfl ?aP (fun _ hk => hk.elim) ?aF ?aO ?aB ?aS ?aL ?_; (case aP => exact rfl); (case aB => exact (Bq)); (case aF => exact (fun k_ hk => Kd.fresh' (Kd.R_lt (Rz HO_4.out)) k_ hk)); (case aO => exact (by (with_reducible repeat (first | apply Kd.Q_alloc | apply Kd.Q_drewN | apply Kd.Q_drew)); exact Kd.Q_mono HO_348000.out (fun _ hk => hk.2))); (case aS => exact (below_size (w := w) (Bq))); (case aL => have := LMc46.out; omega); intro v356 w53 ho hb hg hat; rw [← Ny355.out] at ho; have n0_ := am (Kd.S_after (ok := (fun k_ => some k_ ≠ (.slice (some ⟨go23, 0, none⟩) x4_4.length co11 : Value).ownBlock ∧ k_ ≠ gb347)) (by (with_reducible repeat (first | apply Kd.S_alloc | apply Kd.S_drewN | apply Kd.S_drew)); exact Kd.S_mono HO_3.out (fun _ hk => ⟨⟨hk.2, hk.1.2⟩, hk.1.1⟩)) hg hat); have n1_ := am (Kd.R_after (ok := (fun _ => True)) (Rz (Kd.R_mono HO_4.out (fun _ hk => ⟨trivial, hk⟩))) hg hat); have n2_ := am (blk_grown (g := gb334) (o := .cells #[.slice (some ad352) l0.length c0] 27 (0, 0)) (Kz BK334.out) hg (Kd.Q_ne HO_348000.out BK334.out (by decide))); have n3_ := am (blk_grown (g := gb347) (o := .cells #[.slice Ao49 x348000_4.length co49] 31 (0, 0)) (Kz BK347.out) hg (Kd.Q_ne HO_348000.out BK347.out (by decide))); have n4_ := am (hb); have n5_ := am (ho); clear HO_3 HO_4 BK334 BK347 HB HO_348000; revert n0_ n1_ n2_ n3_ n4_ n5_; intro HO_3 HO_4 BK334 BK347 HB HO357; clear ho hb hg hat; obtain ⟨Ao54, co54, eo54, _⟩ := Kd.Q_slice HO357.out; subst eo54; obtain ⟨hcz55_0, hfz55_0⟩ := cf1 (w := w53) BK347))
                                                (try simp only [← hl4_4])
                                                go_roundg k4
                                                case measure => have := HK1.out; have := HK2.out; have := HK3.out; have := HK4.out; omega
                                                case rel => exact ⟨(y354), (wrap64 (x50_4 + 1)), (y355), (.slice Ao54 y355.length co54), wZ, H', ⟨by have := HK1.out; have := HK2.out; have := HK3.out; have := HK4.out; omega⟩, ⟨by (try simp only [hl4_1]); (try simp only [hl4_2]); (try simp only [hl4_3]); (try simp only [hl4_4]); (with_reducible repeat (first | apply Kd.S_alloc | apply Kd.S_drewN | apply Kd.S_drew)); exact Kd.S_mono (Kd.S_far (p := ⟨gb347, 0, none⟩) (Kd.S_mono HO_3.out (fun k_ hk => (⟨hk, hk.1.2⟩ : _ ∧ k_ ≠ gb347))) (fun _ hk => hk.2) (.slice Ao54 y355.length co54)) (fun _ hk => ⟨hk.1.1.1, ⟨hk.1.2, hk.1.1.2⟩⟩)⟩, ⟨by (try simp only [hl4_1]); (try simp only [hl4_2]); (try simp only [hl4_3]); (try simp only [hl4_4]); (with_reducible repeat (first | apply Kd.R_alloc | apply Kd.R_drewN | apply Kd.R_drew)); exact Kd.R_mono (Kd.R_far (p := ⟨gb347, 0, none⟩) (Kd.R_types HO_4.out BK347.out (by decide)) (fun _ hk => hk.2) (.slice Ao54 y355.length co54)) (fun _ hk => hk.1.2)⟩, ⟨by (try simp only [hl4_1]); (try simp only [hl4_2]); (try simp only [hl4_3]); (try simp only [hl4_4]); (with_reducible repeat (first | apply Kd.Q_alloc | apply Kd.Q_drewN | apply Kd.Q_drew)); exact Kd.Q_mono (Kd.Q_far (p := ⟨gb347, 0, none⟩) (Kd.Q_types HO357.out BK347.out (by decide)) (fun _ hk => hk.2) (.slice Ao54 y355.length co54)) (fun _ hk => hk.1)⟩, ⟨by (try simp only [hl4_1]); (try simp only [hl4_2]); (try simp only [hl4_3]); (try simp only [hl4_4]); (with_reducible repeat (first | refine blk_drewN ?_ _ | refine blk_drew ?_ | refine blk_alloc ?_ _)); refine blk_far ?_ NB334_347.out _; (with_reducible repeat (first | refine blk_drewN ?_ _ | refine blk_drew ?_ | refine blk_alloc ?_ _)); exact BK334.out⟩, ⟨by (try simp only [hl4_1]); (try simp only [hl4_2]); (try simp only [hl4_3]); (try simp only [hl4_4]); (with_reducible repeat (first | refine blk_drewN ?_ _ | refine blk_drew ?_ | refine blk_alloc ?_ _)); refine blk_put (cs := #[.slice Ao49 x348000_4.length co49]) ?_ 0 _ rfl; (with_reducible repeat (first | refine blk_drewN ?_ _ | refine blk_drew ?_ | refine blk_alloc ?_ _)); exact BK347.out⟩, ⟨Bq⟩⟩
                                              · rw [if_neg c46] at H
                                                exact absurd H (by simp)
                                            · replace c44 := Bool.eq_false_iff.mpr c44
                                              subst c44
                                              rw [if_neg (show ¬ (false = true) by decide)] at H; have H' := am H; clear H; have p351 : 0 ≤ (x50_4 : Int) := dT; have q351 : x50_4 < (x4_4.length : Int) := dT; obtain ⟨ad351, e351, hx351_0⟩ := Kd.at_int (Kd.R_reads' HO_4.out).2.2 x50_4 p351 q351; obtain rfl : (⟨go23, 0, none⟩ : Addr) = ad351 := (by injection e351)
                                              (first | simp only [add_plain] at hx351_0 | simp only [add_at] at hx351_0 | simp only [Addr.add, Nat.zero_add] at hx351_0 | skip)
                                              replace p351 := eq_true p351; replace q351 := eq_true q351; have hnb56 := NB334_347.out; have hnc56 := NB347_334.out; obtain ⟨hcz57_0, hfz57_0⟩ := cf1 (w := wr) BK334; have p352 : 0 ≤ (x50_4 : Int) := dT; have q352 : x50_4 < (l0.length : Int) := dT; obtain ⟨ad352, A352_0, c352_0, e352, hx352_0, hl352_0, hi352_0⟩ := at_L3 HR0.out x50_4 p352 q352; cases e352; replace hx352_0 := (HB.out.cell (World.block_lt_of_cell? w _ hx352_0)).trans hx352_0; have HR352_0 := am hi352_0; have HC352_0 := am hl352_0; clear hi352_0 hl352_0; replace p352 := eq_true p352; replace q352 := eq_true q352; obtain ⟨Ao58, co58, eo58, _⟩ := Kd.Q_slice HO_348000.out; subst eo58
                                              go_wp2_with (first | (go_at_call 120; (with_reducible refine (slices_ContainsFunc_int_int_at_impl_groups_1.calls k4 _ _ (rd_L3 l0 x50_4)  gb334 (some ad352) c0 l0 gb347 Ao58 co58 x348000_4 false _ ?side1 ?side2 ?side3 ?side4 ?side5 ?side6 ?side7 ?side8 A43.out).mono ?_); (case side1 => exact Cz (Kd.C_below HR352_0.out HB.out)); (case side2 => exact HC352_0.out); (case side3 => exact Kz BK334.out); (case side4 => exact Cz (Kd.C_below HR0.out HB.out)); (case side5 => exact HC0.out); (case side6 => exact Kz BK347.out); (case side7 => exact Cz ((Kd.Q_reads' HO_348000.out).2.2)); (case side8 => exact (Kd.Q_reads' HO_348000.out).2.1); rintro e w' ⟨rfl, ⟨nd, rfl⟩⟩))
                                              (try simp only [← hl4_4])
                                              go_roundg k4
                                              case measure => have := HK1.out; have := HK2.out; have := HK3.out; have := HK4.out; omega
                                              case rel => exact ⟨(x4_4), (wrap64 (x50_4 + 1)), (x348000_4), (.slice Ao58 x348000_4.length co58), wZ, H', ⟨by have := HK1.out; have := HK2.out; have := HK3.out; have := HK4.out; omega⟩, ⟨by (try simp only [hl4_1]); (try simp only [hl4_2]); (try simp only [hl4_3]); (try simp only [hl4_4]); (with_reducible repeat (first | apply Kd.S_alloc | apply Kd.S_drewN | apply Kd.S_drew)); exact HO_3.out⟩, ⟨by (try simp only [hl4_1]); (try simp only [hl4_2]); (try simp only [hl4_3]); (try simp only [hl4_4]); (with_reducible repeat (first | apply Kd.R_alloc | apply Kd.R_drewN | apply Kd.R_drew)); exact HO_4.out⟩, ⟨by (try simp only [hl4_1]); (try simp only [hl4_2]); (try simp only [hl4_3]); (try simp only [hl4_4]); (with_reducible repeat (first | apply Kd.Q_alloc | apply Kd.Q_drewN | apply Kd.Q_drew)); exact HO_348000.out⟩, ⟨by (try simp only [hl4_1]); (try simp only [hl4_2]); (try simp only [hl4_3]); (try simp only [hl4_4]); (with_reducible repeat (first | refine blk_drewN ?_ _ | refine blk_drew ?_ | refine blk_alloc ?_ _)); exact BK334.out⟩, ⟨by (try simp only [hl4_1]); (try simp only [hl4_2]); (try simp only [hl4_3]); (try simp only [hl4_4]); (with_reducible repeat (first | refine blk_drewN ?_ _ | refine blk_drew ?_ | refine blk_alloc ?_ _)); exact BK347.out⟩, ⟨Bq⟩⟩
                                          · rw [if_neg c42] at H
                                            exact absurd H (by simp)
                                        · rw [if_neg c41] at H
                                          have c41b0 : decide ((rd x4_4 x50_4) < 0) = false := decide_eq_false c41; clear c41; have H' := am H; clear H; have p351 : 0 ≤ (x50_4 : Int) := dT; have q351 : x50_4 < (x4_4.length : Int) := dT; obtain ⟨ad351, e351, hx351_0⟩ := Kd.at_int (Kd.R_reads' HO_4.out).2.2 x50_4 p351 q351; obtain rfl : (⟨go23, 0, none⟩ : Addr) = ad351 := (by injection e351)
                                          (first | simp only [add_plain] at hx351_0 | simp only [add_at] at hx351_0 | simp only [Addr.add, Nat.zero_add] at hx351_0 | skip)
                                          replace p351 := eq_true p351; replace q351 := eq_true q351
                                          go_wp2
                                          (try simp only [← hl4_4])
                                          go_roundg k4
                                          case measure => have := HK1.out; have := HK2.out; have := HK3.out; have := HK4.out; omega
                                          case rel => exact ⟨(x4_4), (wrap64 (x50_4 + 1)), (x348000_4), (u348000), wZ, H', ⟨by have := HK1.out; have := HK2.out; have := HK3.out; have := HK4.out; omega⟩, ⟨by (try simp only [hl4_1]); (try simp only [hl4_2]); (try simp only [hl4_3]); (try simp only [hl4_4]); (with_reducible repeat (first | apply Kd.S_alloc | apply Kd.S_drewN | apply Kd.S_drew)); exact HO_3.out⟩, ⟨by (try simp only [hl4_1]); (try simp only [hl4_2]); (try simp only [hl4_3]); (try simp only [hl4_4]); (with_reducible repeat (first | apply Kd.R_alloc | apply Kd.R_drewN | apply Kd.R_drew)); exact HO_4.out⟩, ⟨by (try simp only [hl4_1]); (try simp only [hl4_2]); (try simp only [hl4_3]); (try simp only [hl4_4]); (with_reducible repeat (first | apply Kd.Q_alloc | apply Kd.Q_drewN | apply Kd.Q_drew)); exact HO_348000.out⟩, ⟨by (try simp only [hl4_1]); (try simp only [hl4_2]); (try simp only [hl4_3]); (try simp only [hl4_4]); (with_reducible repeat (first | refine blk_drewN ?_ _ | refine blk_drew ?_ | refine blk_alloc ?_ _)); exact BK334.out⟩, ⟨by (try simp only [hl4_1]); (try simp only [hl4_2]); (try simp only [hl4_3]); (try simp only [hl4_4]); (with_reducible repeat (first | refine blk_drewN ?_ _ | refine blk_drew ?_ | refine blk_alloc ?_ _)); exact BK347.out⟩, ⟨Bq⟩⟩
                                      · rw [if_neg c40] at H
                                        exact absurd H (by simp)
                                    · rw [if_neg c39] at H
                                      exact absurd H (by simp)
                                  · rw [if_neg c38] at H
                                    have c38b0 : decide (x50_4 < (l0.length : Int)) = false := decide_eq_false c38; (try simp only [hl4_1, hl4_2, hl4_3, hl4_4] at c38b0); clear c38
                                    by_cases c59 : 1 ≤ (x348000_4.length : Int)
                                    · rw [if_pos c59] at H
                                      have c59b0 := eq_true c59; have c59b1 : decide (1 ≤ (x348000_4.length : Int)) = true := decide_eq_true c59; (try simp only [hl4_1, hl4_2, hl4_3, hl4_4] at c59b1); clear c59; obtain ⟨y358, hy358⟩ : ∃ y_ : List Int, y_ = (x348000_4.drop (1 : Int).toNat) := ⟨_, rfl⟩
                                      replace H : (impl_groups.l2 k4 x3_2 x4_4 (x3_2.length : Int) (l0.length : Int) x27_2 l0 y358) = some r := by first | (rw [hy358]; with_reducible exact H) | (have H2_ := (Option.bind_some _ _).symm.trans H; rw [hy358]; with_reducible exact H2_) | (have H2_ := (Option.bind_some _ _).symm.trans H; with_reducible exact H2_) | with_reducible exact H | (rw [hy358]; exact H) | exact H
                                      have Ny358 := am hy358; clear hy358; have H' := am H; clear H; have hnb60 := NB347_334.out; have hnc60 := NB334_347.out; obtain ⟨hcz61_0, hfz61_0⟩ := cf1 (w := wr) BK347; obtain ⟨Ao62, co62, eo62, _⟩ := Kd.Q_slice HO_348000.out; subst eo62
                                      go_wp2_with (first | ((with_reducible refine gate_dst (N := 8) rfl ?_); refine bE 8 #[.slice none 0 0] 31 ?_; intro gb93479 hg wN93479 hbox hb; have n0_ := am (Kd.S_below (Kd.S_elderB (by (with_reducible repeat (first | apply Kd.S_alloc | apply Kd.S_drewN | apply Kd.S_drew)); exact HO_3.out) gb93479 (Nat.le_of_eq hg.symm)) hb); have n1_ := Rb HO_4 hb; have n2_ := am (Kd.Q_below (by (with_reducible repeat (first | apply Kd.Q_alloc | apply Kd.Q_drewN | apply Kd.Q_drew)); exact HO_348000.out) hb); have n3_ := Kb BK334 hb; have n4_ := Bc HB hb; have n5_ := am (hbox); have n6_ := Gm HB hg; have n8_ := Nl BK334 hg; have n9_ := Ng BK334 hg; clear HO_3 HO_4 HO_348000 BK334 HB; revert n0_ n1_ n2_ n3_ n4_ n5_ n6_ n8_ n9_; intro HO_3 HO_4 HO_348000 BK334 HB BK93479 GE93479 NB334_93479 NB93479_334; clear hb hbox hg; have hnb90 := NB93479_334.out; have hnc90 := NB334_93479.out; obtain ⟨hcz90_0, hfz90_0⟩ := cf1 (w := wN93479) BK93479) | ((with_reducible refine gate_store (t := 31) (p := 8) rfl ?_); refine store_event (t := 31) (p := 8) (v := ?vo_w63) (w1 := (wN93479.setCell ⟨gb93479, 0, none⟩ (.slice Ao62 x348000_4.length co62))) ?hg ?ho ?hn ?hr ?_; (case ho => rfl); (case hg => rfl); (case hn => rfl); (case hr => first | (go_simp; done) | (go_simp; rfl)); intro w63 hw; have n0_ : Aside0 (Kd.S (Kd.slice 3 (Kd.int .i64)) 31 w63 w.heap.size (fun k_ => some k_ ≠ (.slice (some ⟨go23, 0, none⟩) x4_4.length co11 : Value).ownBlock ∧ some k_ ≠ (.slice Ao62 x348000_4.length co62 : Value).ownBlock ∧ k_ ≠ gb93479) (.slice Ao24 x3_2.length co24) x3_2) := ⟨(by rw [hw]; exact (by (with_reducible repeat (first | apply Kd.S_alloc | apply Kd.S_drewN | apply Kd.S_drew)); exact Kd.S_mono (Kd.S_far (p := ⟨gb93479, 0, none⟩) (Kd.S_mono HO_3.out (fun k_ hk => (⟨hk, hk.2⟩ : _ ∧ k_ ≠ gb93479))) (fun _ hk => hk.2) (.slice Ao62 x348000_4.length co62)) (fun _ hk => ⟨hk.1.1.1, ⟨hk.1.1.2.1, hk.1.2⟩⟩)))⟩; have n1_ : Aside0 (Kd.R (Kd.int .i64) 3 w63 w.heap.size (fun k_ => some k_ ≠ (.slice Ao62 x348000_4.length co62 : Value).ownBlock) (.slice (some ⟨go23, 0, none⟩) x4_4.length co11) x4_4) := ⟨(by rw [hw]; exact (Rz (Kd.R_mono (Kd.R_far (p := ⟨gb93479, 0, none⟩) (Kd.R_types HO_4.out BK93479.out (by decide)) (fun _ hk => hk.2) (.slice Ao62 x348000_4.length co62)) (fun _ hk => hk.1))))⟩; have n2_ : Aside0 (Kd.Q (Kd.int .i64) 3 w63 w.heap.size (fun k_ => some k_ ≠ (.slice (some ⟨go23, 0, none⟩) x4_4.length co11 : Value).ownBlock) (.slice Ao62 x348000_4.length co62) x348000_4) := ⟨(by rw [hw]; exact (by (with_reducible repeat (first | apply Kd.Q_alloc | apply Kd.Q_drewN | apply Kd.Q_drew)); exact Kd.Q_mono (Kd.Q_far (p := ⟨gb93479, 0, none⟩) (Kd.Q_types HO_348000.out BK93479.out (by decide)) (fun _ hk => hk.2) (.slice Ao62 x348000_4.length co62)) (fun _ hk => hk.1)))⟩; have n3_ : Aside0 (w63.heap[gb334]? = some (.cells #[.slice A0 l0.length c0] 27 (0, 0))) := ⟨(by rw [hw]; exact (by (with_reducible repeat (first | refine blk_drewN ?_ _ | refine blk_drew ?_ | refine blk_alloc ?_ _)); refine blk_far ?_ NB334_93479.out _; exact Kz BK334.out))⟩; have n4_ : Aside0 (w63.heap[gb93479]? = some (.cells #[.slice Ao62 x348000_4.length co62] 31 (0, 0))) := ⟨(by rw [hw]; exact (by (with_reducible repeat (first | refine blk_drewN ?_ _ | refine blk_drew ?_ | refine blk_alloc ?_ _)); refine blk_put (cs := #[.slice none 0 0]) ?_ 0 _ rfl; exact Kz BK93479.out))⟩; have n5_ : Aside0 (Below w.heap.size w w63) := ⟨(by rw [hw]; exact (Bq))⟩; clear hw HO_3 HO_4 HO_348000 BK334 BK93479 HB; revert n0_ n1_ n2_ n3_ n4_ n5_; intro HO_3 HO_4 HO_348000 BK334 BK93479 HB; obtain ⟨hcz64_0, hfz64_0⟩ := cf1 (w := w63) BK93479; have q65 : (1 : Int) ≤ ((x348000_4.length : Int) : Int) := dT; obtain ⟨i065, hi065, _, hsz65, _⟩ := info_parts info3; have hcut65 := cut_from (P := Try.prog) 31 3 .i64 Try.underlying31 hi065 1 hsz65 Ao62 x348000_4.length co62 1 (by omega) q65; have hr65 := Kd.Q_drop (k := (1 : Int).toNat) HO_348000.out (by omega); obtain ⟨A65, hA65⟩ : ∃ A1, A1 = (if co62 = (1 : Int).toNat then Ao62 else (Ao62 : Option Addr).map (·.add ((1 : Int).toNat * 1))) := ⟨_, rfl⟩; obtain ⟨c65, hc65⟩ : ∃ c1, c1 = co62 - (1 : Int).toNat := ⟨_, rfl⟩; have hy65 : y358.length = x348000_4.length - (1 : Int).toNat := (by rw [Ny358.out, List.length_drop]); rw [← Ny358.out] at hr65; rw [← hy65, ← hA65, ← hc65] at hcut65; replace hr65 : Kd.Q (Kd.int .i64) 3 w63 w.heap.size (fun k_ => some k_ ≠ (.slice (some ⟨go23, 0, none⟩) x4_4.length co11 : Value).ownBlock) (.slice A65 y358.length c65) y358 := (by rw [hA65, hc65, hy65]; exact hr65); have HE65 : Aside0 ((Value.slice A65 y358.length c65).ownBlock = (.slice Ao62 x348000_4.length co62 : Value).ownBlock) := ⟨by rw [hA65]; split <;> (cases (Ao62 : Option Addr) <;> rfl)⟩; clear hy65 hi065 hsz65 HO_348000 hA65 hc65; have HO360 := am hr65; clear hr65; replace q65 := eq_true q65; have n_ := am (Kd.S_mono (ok' := fun k_ => (some k_ ≠ (.slice (some ⟨go23, 0, none⟩) x4_4.length co11 : Value).ownBlock ∧ (some k_ ≠ (.slice A65 y358.length c65 : Value).ownBlock ∧ k_ ≠ gb93479))) HO_3.out (fun k_ hk => ⟨hk.1, ⟨(by rw [HE65.out]; exact hk.2.1), hk.2.2⟩⟩)); clear HO_3; have HO_3 := n_; clear n_; have n_ := am (Kd.R_mono (ok' := fun k_ => some k_ ≠ (.slice A65 y358.length c65 : Value).ownBlock) HO_4.out (fun k_ hk => (by rw [HE65.out]; exact hk))); clear HO_4; have HO_4 := n_; clear n_))
                                      (try simp only [← hl4_3, ← hl4_4])
                                      go_roundg k4
                                      case measure => have := HK1.out; have := HK2.out; have := HK3.out; have := HK4.out; omega
                                      case rel => exact ⟨(x4_4), (y358), (.slice A65 y358.length c65), gb93479, wZ, H', ⟨by have := HK1.out; have := HK2.out; have := HK3.out; have := HK4.out; omega⟩, ⟨by (try simp only [hl4_1]); (try simp only [hl4_2]); (try simp only [hl4_3]); (try simp only [hl4_4]); (with_reducible repeat (first | apply Kd.S_alloc | apply Kd.S_drewN | apply Kd.S_drew)); exact Kd.S_mono (Kd.S_far (p := ⟨gb93479, 0, none⟩) (Kd.S_mono HO_3.out (fun k_ hk => (⟨hk, hk.2.2⟩ : _ ∧ k_ ≠ gb93479))) (fun _ hk => hk.2) (.slice A65 y358.length c65)) (fun _ hk => ⟨hk.1.1, ⟨hk.1.2.1, hk.1.2.2⟩⟩)⟩, ⟨by (try simp only [hl4_1]); (try simp only [hl4_2]); (try simp only [hl4_3]); (try simp only [hl4_4]); (with_reducible repeat (first | apply Kd.R_alloc | apply Kd.R_drewN | apply Kd.R_drew)); exact Kd.R_mono (Kd.R_far (p := ⟨gb93479, 0, none⟩) (Kd.R_types HO_4.out BK93479.out (by decide)) (fun _ hk => hk.2) (.slice A65 y358.length c65)) (fun _ hk => hk.1)⟩, ⟨by (try simp only [hl4_1]); (try simp only [hl4_2]); (try simp only [hl4_3]); (try simp only [hl4_4]); (with_reducible repeat (first | apply Kd.Q_alloc | apply Kd.Q_drewN | apply Kd.Q_drew)); exact Kd.Q_mono (Kd.Q_far (p := ⟨gb93479, 0, none⟩) (Kd.Q_types HO360.out BK93479.out (by decide)) (fun _ hk => hk.2) (.slice A65 y358.length c65)) (fun _ hk => hk.1)⟩, ⟨by (try simp only [hl4_1]); (try simp only [hl4_2]); (try simp only [hl4_3]); (try simp only [hl4_4]); (with_reducible repeat (first | refine blk_drewN ?_ _ | refine blk_drew ?_ | refine blk_alloc ?_ _)); refine blk_far ?_ NB334_93479.out _; (with_reducible repeat (first | refine blk_drewN ?_ _ | refine blk_drew ?_ | refine blk_alloc ?_ _)); exact BK334.out⟩, ⟨by (try simp only [hl4_1]); (try simp only [hl4_2]); (try simp only [hl4_3]); (try simp only [hl4_4]); (with_reducible repeat (first | refine blk_drewN ?_ _ | refine blk_drew ?_ | refine blk_alloc ?_ _)); refine blk_put (cs := #[.slice Ao62 x348000_4.length co62]) ?_ 0 _ rfl; (with_reducible repeat (first | refine blk_drewN ?_ _ | refine blk_drew ?_ | refine blk_alloc ?_ _)); exact BK93479.out⟩, ⟨Bq⟩, GE93479, NB334_93479⟩
                                    · rw [if_neg c59] at H
                                      exact absurd H (by simp)
                            · rw [if_neg c33] at H
                              have c33b0 : decide (0 < (x348000_3.length : Int)) = false := decide_eq_false c33; (try simp only [hl4_1, hl4_2, hl4_3] at c33b0); have c33b1 : decide (0 < x348000_3.length) = false := decide_eq_false (by omega); clear c33
                              by_cases c66 : x3_2.length < 5864062014805
                              · rw [if_pos c66] at H
                                have LMc66 := am c66; clear c66; obtain ⟨y348, hy348⟩ : ∃ y_ : List (List Int), y_ = (x3_2 ++ [[]]) := ⟨_, rfl⟩
                                replace H : (impl_groups.l1 k3 y348 x4_3 (l0.length : Int) (wrap64 (x27_2 + 1)) l0) = some r := by first | (rw [hy348]; with_reducible exact H) | (have H2_ := (Option.bind_some _ _).symm.trans H; rw [hy348]; with_reducible exact H2_) | (have H2_ := (Option.bind_some _ _).symm.trans H; with_reducible exact H2_) | with_reducible exact H | (rw [hy348]; exact H) | exact H
                                have Ny348 := am hy348; clear hy348; have H' := am H; clear H; have hnb67 := NB347_334.out; have hnc67 := NB334_347.out; obtain ⟨hcz68_0, hfz68_0⟩ := cf1 (w := wr) BK347; obtain ⟨Ao69, co69, eo69, _⟩ := Kd.Q_slice HO_348000.out; subst eo69
                                go_wp2_with (first | ((with_reducible refine gate_builtin (b := .append) (xs := #[.tmp 76, .tmp 77]) rfl ?_); at_builtin; refine Kd.S_append (Kd.slice 3 (Kd.int .i64)) (w0 := w) w.heap.size rfl (.tmp 76) (.tmp 77) 27 31 (.slice none 0 0) 24 rfl Try.underlying27 info31 rfl (by decide) (by omega) (.slice Ao24 x3_2.length co24) x3_2 [] [.slice none 0 0] (fun k_ => some k_ ≠ (.slice (some ⟨go23, 0, none⟩) x4_3.length co11 : Value).ownBlock ∧ some k_ ≠ (.slice Ao69 x348000_3.length co69 : Value).ownBlock ∧ k_ ≠ gb347) (fun _ => False) rfl rfl ?aP (fun _ hk => hk.elim) ?aF ?aO ?aB ?aS ?aL ?_; (case aP => exact ⟨.slice none 0 0, rfl, Kd.R_nil _ _ _ _ _⟩); (case aB => exact (Bq)); (case aF => exact (fun k_ hk => ⟨Kd.fresh' (Kd.R_lt (Rz HO_4.out)) k_ hk, Kd.fresh' (Kd.Q_lt (by (with_reducible repeat (first | apply Kd.Q_alloc | apply Kd.Q_drewN | apply Kd.Q_drew)); exact HO_348000.out)) k_ hk, Kd.freshB (g := gb347) (o := .cells #[.slice Ao69 x348000_3.length co69] 31 (0, 0)) (Kz BK347.out) k_ hk⟩)); (case aO => exact (by (with_reducible repeat (first | apply Kd.S_alloc | apply Kd.S_drewN | apply Kd.S_drew)); exact Kd.S_mono HO_3.out (fun k_ hk => ⟨⟨hk.1, ⟨hk.2.1, hk.2.2⟩⟩, fun e_ => e_⟩))); (case aS => exact (below_size (w := w) (Bq))); (case aL => have := LMc66.out; omega); intro v349 w70 ho hb hg hat; rw [← Ny348.out] at ho; have n0_ := am (Kd.R_over' (Rz HO_4.out) (Kd.S_typed (by (with_reducible repeat (first | apply Kd.S_alloc | apply Kd.S_drewN | apply Kd.S_drew)); exact HO_3.out)) (by decide) hg); have n1_ := am (Kd.Q_over' (by (with_reducible repeat (first | apply Kd.Q_alloc | apply Kd.Q_drewN | apply Kd.Q_drew)); exact HO_348000.out) (Kd.S_typed (by (with_reducible repeat (first | apply Kd.S_alloc | apply Kd.S_drewN | apply Kd.S_drew)); exact HO_3.out)) (by decide) hg); have n2_ := am (blk_grown (g := gb334) (o := .cells #[.slice A0 l0.length c0] 27 (0, 0)) (Kz BK334.out) hg (Kd.S_ne HO_3.out BK334.out (by decide))); have n3_ := am (blk_grown (g := gb347) (o := .cells #[.slice Ao69 x348000_3.length co69] 31 (0, 0)) (Kz BK347.out) hg (Kd.S_away HO_3.out (fun _ hk => hk.2.2))); have n4_ := am (hb); have n5_ := am (ho); clear HO_4 HO_348000 BK334 BK347 HB HO_3; revert n0_ n1_ n2_ n3_ n4_ n5_; intro HO_4 HO_348000 BK334 BK347 HB HO350; clear ho hb hg hat))
                                (try simp only [← hl4_2, ← hl4_3])
                                go_roundg k3
                                case measure => have := HK1.out; have := HK2.out; have := HK3.out; omega
                                case rel => exact ⟨(y348), (x4_3), (wrap64 (x27_2 + 1)), wZ, H', ⟨by have := HK1.out; have := HK2.out; have := HK3.out; omega⟩, ⟨by (try simp only [hl4_1]); (try simp only [hl4_2]); (try simp only [hl4_3]); (with_reducible repeat (first | apply Kd.S_alloc | apply Kd.S_drewN | apply Kd.S_drew)); exact Kd.S_mono HO350.out (fun _ hk => hk.1)⟩, ⟨by (try simp only [hl4_1]); (try simp only [hl4_2]); (try simp only [hl4_3]); (with_reducible repeat (first | apply Kd.R_alloc | apply Kd.R_drewN | apply Kd.R_drew)); exact Kd.R_mono HO_4.out (fun _ hk => trivial)⟩, ⟨by (try simp only [hl4_1]); (try simp only [hl4_2]); (try simp only [hl4_3]); (with_reducible repeat (first | refine blk_drewN ?_ _ | refine blk_drew ?_ | refine blk_alloc ?_ _)); exact BK334.out⟩, ⟨Bq⟩⟩
                              · rw [if_neg c66] at H
                                exact absurd H (by simp)
                    · rw [if_neg c21] at H
                      exact absurd H (by simp)
                  · rw [if_neg c20] at H
                    exact absurd H (by simp)
                · rw [if_neg c19] at H
                  have c19b0 : decide (x27_2 < (l0.length : Int)) = false := decide_eq_false c19; (try simp only [hl4_1, hl4_2] at c19b0); clear c19; have H' := am H; clear H
                  go_wp2
                  go_loopg [82] k2 (fun kq v82 w' => ∃ (x3_3 : List (List Int)) (x82_3 : Int), v82 = .int .i64 x82_3 ∧ Aside0 (impl_groups.l4 kq x3_3 x4_2 (x4_2.length : Int) x82_3 = some r) ∧ Aside0 (kq ≤ k2) ∧ Aside0 (Kd.S (Kd.slice 3 (Kd.int .i64)) 31 w' w.heap.size (fun k_ => some k_ ≠ ((.slice Ao11 x4_2.length co11) : Value).ownBlock) u3 x3_3) ∧ Aside0 (Kd.R (Kd.int .i64) 3 w' w.heap.size (fun _ => True) (.slice Ao11 x4_2.length co11) x4_2) ∧ Aside0 (w'.heap[gb334]? = some (.cells #[(.slice A0 l0.length c0)] 27 (0, 0))) ∧ Aside0 (Below w.heap.size w w'))
                  case atStart => exact ⟨(x3_2), (0), wZ, H', ⟨Nat.le_refl _⟩, ⟨by (try simp only [hl4_1]); (try simp only [hl4_2]); (with_reducible repeat (first | apply Kd.S_alloc | apply Kd.S_drewN | apply Kd.S_drew)); exact HO_3.out⟩, ⟨by (try simp only [hl4_1]); (try simp only [hl4_2]); (with_reducible repeat (first | apply Kd.R_alloc | apply Kd.R_drewN | apply Kd.R_drew)); exact HO_4.out⟩, ⟨by (try simp only [hl4_1]); (try simp only [hl4_2]); (with_reducible repeat (first | refine blk_drewN ?_ _ | refine blk_drew ?_ | refine blk_alloc ?_ _)); exact BK334.out⟩, ⟨Bq⟩⟩
                  case round =>
                    clear H'
                    try clear c1
                    try clear p1
                    try clear q1
                    try clear hx1
                    try clear hf1
                    try clear c2
                    try clear c2b0
                    try clear c2b1
                    try clear p2
                    try clear q2
                    try clear hx2
                    try clear hf2
                    try clear c3
                    try clear c3b0
                    try clear c3b1
                    try clear p3
                    try clear q3
                    try clear hx3
                    try clear c4
                    try clear p4
                    try clear q4
                    try clear hx4
                    try clear hf4
                    try clear c5
                    try clear c6
                    try clear p6
                    try clear q6
                    try clear c12
                    try clear c12b0
                    try clear c13
                    try clear c13b0
                    try clear c14
                    try clear c14b0
                    try clear p15
                    try clear q15
                    try clear hx15
                    try clear hf15
                    try clear c19
                    try clear c19b0
                    try clear c20
                    try clear c20b0
                    try clear c21
                    try clear c21b0
                    try clear c22
                    try clear c22b0
                    try clear p23
                    try clear q23
                    try clear hx23
                    try clear hf23
                    try clear c31
                    try clear c33
                    try clear c33b0
                    try clear c33b1
                    try clear c34
                    try clear p34
                    try clear q34
                    try clear hx34
                    try clear c35
                    try clear p35
                    try clear q35
                    try clear hx35
                    try clear c38
                    try clear c38b0
                    try clear c39
                    try clear c39b0
                    try clear c40
                    try clear c40b0
                    try clear c41
                    try clear c41b0
                    try clear c42
                    try clear c42b0
                    try clear c44
                    try clear p45
                    try clear q45
                    try clear hx45
                    try clear hf45
                    try clear c46
                    try clear c47
                    try clear c56
                    try clear c59
                    try clear c59b0
                    try clear c59b1
                    try clear c60
                    try clear p64
                    try clear c65
                    try clear q65
                    try clear c66
                    try clear c67
                    try clear hcz18_0
                    try clear hcz32_0
                    try clear hcz35_0
                    try clear hcz37_0
                    try clear hcz48_0
                    try clear hcz52_0
                    try clear hcz55_0
                    try clear hcz57_0
                    try clear hcz61_0
                    try clear hcz64_0
                    try clear hcz68_0
                    try clear hfz18_0
                    try clear hfz32_0
                    try clear hfz35_0
                    try clear hfz37_0
                    try clear hfz48_0
                    try clear hfz52_0
                    try clear hfz55_0
                    try clear hfz57_0
                    try clear hfz61_0
                    try clear hfz64_0
                    try clear hfz68_0
                    try clear hx15_0
                    try clear hx23_0
                    try clear hx342_0
                    try clear hx351_0
                    try clear hx352_0
                    try clear hx45_0
                    try clear p1
                    try clear p15
                    try clear p2
                    try clear p23
                    try clear p3
                    try clear p34
                    try clear p342
                    try clear p351
                    try clear p352
                    try clear p45
                    try clear p6
                    try clear q1
                    try clear q15
                    try clear q2
                    try clear q23
                    try clear q3
                    try clear q34
                    try clear q342
                    try clear q351
                    try clear q352
                    try clear q45
                    try clear q65
                    obtain ⟨x3_3, x82_3, rfl, HA, HK3, HO_3, HO_80, BK334, HB⟩ := hrel; cases gk with
                    | zero => exact absurd HA.out (by simp [impl_groups.l4])
                    | succ k3 =>
                      have H := HA.out; clear HA
                      simp only [impl_groups.l4] at H
                      by_cases c71 : x82_3 < (x4_2.length : Int)
                      · rw [if_pos c71] at H
                        have c71b0 : decide (x82_3 < (x4_2.length : Int)) = true := decide_eq_true c71; (try simp only [hl4_1, hl4_2] at c71b0); clear c71
                        by_cases c72 : 0 ≤ x82_3
                        · rw [if_pos c72] at H
                          have c72b0 : decide (0 ≤ x82_3) = true := decide_eq_true c72; clear c72
                          by_cases c73 : x82_3 < (x4_2.length : Int)
                          · rw [if_pos c73] at H
                            have c73b0 : decide (x82_3 < (x4_2.length : Int)) = true := decide_eq_true c73; (try simp only [hl4_1, hl4_2] at c73b0); clear c73
                            by_cases c74 : 0 ≤ (rd x4_2 x82_3)
                            · rw [if_pos c74] at H
                              have c74b0 : decide (0 ≤ (rd x4_2 x82_3)) = true := decide_eq_true c74; clear c74
                              by_cases c75 : (rd x4_2 x82_3) < (x3_3.length : Int)
                              · rw [if_pos c75] at H
                                have c75b0 : decide ((rd x4_2 x82_3) < (x3_3.length : Int)) = true := decide_eq_true c75; (try simp only [hl4_1, hl4_2] at c75b0); clear c75
                                by_cases c76 : (rd_L3 x3_3 (rd x4_2 x82_3)).length < 17592186044416
                                · rw [if_pos c76] at H
                                  have LMc76 := am c76; clear c76; obtain ⟨y363, hy363⟩ : ∃ y_ : List Int, y_ = ((rd_L3 x3_3 (rd x4_2 x82_3)) ++ [x82_3]) := ⟨_, rfl⟩
                                  replace H : (impl_groups.l4 k3 (x3_3.set ((rd x4_2 x82_3) : Int).toNat y363) x4_2 (x4_2.length : Int) (wrap64 (x82_3 + 1))) = some r := by first | (rw [hy363]; with_reducible exact H) | (have H2_ := (Option.bind_some _ _).symm.trans H; rw [hy363]; with_reducible exact H2_) | (have H2_ := (Option.bind_some _ _).symm.trans H; with_reducible exact H2_) | with_reducible exact H | (rw [hy363]; exact H) | exact H
                                  have Ny363 := am hy363; clear hy363; obtain ⟨y366, hy366⟩ : ∃ y_ : List (List Int), y_ = (x3_3.set ((rd x4_2 x82_3) : Int).toNat y363) := ⟨_, rfl⟩
                                  replace H : (impl_groups.l4 k3 y366 x4_2 (x4_2.length : Int) (wrap64 (x82_3 + 1))) = some r := by first | (rw [hy366]; with_reducible exact H) | (have H2_ := (Option.bind_some _ _).symm.trans H; rw [hy366]; with_reducible exact H2_) | (have H2_ := (Option.bind_some _ _).symm.trans H; with_reducible exact H2_) | with_reducible exact H | (rw [hy366]; exact H) | exact H
                                  have Ny366 := am hy366; clear hy366; have H' := am H; clear H; obtain ⟨ad361, e361, hx361_0⟩ := Kd.at_int (Kd.R_reads' HO_80.out).2.2 x82_3 dT dT; cases e361; have p361 := eT (0 ≤ (x82_3 : Int)); have q361 := eT (x82_3 < (x4_2.length : Int)); obtain ⟨Ao78, co78, eo78⟩ := Kd.S_slice HO_3.out; subst eo78; have p362 : 0 ≤ ((rd x4_2 x82_3) : Int) := dT; have q362 : (rd x4_2 x82_3) < (x3_3.length : Int) := dT; obtain ⟨ad362, A362_0, c362_0, e362, hx362_0, hl362_0, hi362_0⟩ := at_L3 (Kd.S_reads' HO_3.out).2.2 (rd x4_2 x82_3) p362 q362; cases e362; obtain ⟨ce362, hce362, hMe362, hcc362⟩ := Kd.S_get HO_3.out [] (rd x4_2 x82_3) p362 (by first | exact q362 | exact dT | (have e_ := (Kd.S_reads' HO_3.out).1; omega)); obtain ⟨ve362_0, rfl, ge362_0⟩ := hMe362; have hv362_0 := hcc362 0 _ rfl; rw [Nat.add_zero, show ((Kd.slice 3 (Kd.int .i64))).sz = 1 from rfl, Nat.mul_one] at hv362_0; replace hv362_0 := Option.some.inj (hv362_0.symm.trans hx362_0); rw [hv362_0] at ge362_0; have HL362_0 := am (show Kd.R (Kd.int .i64) 3 _ _ _ _ (rd_L3 x3_3 (rd x4_2 x82_3)) from ge362_0); clear hv362_0 ge362_0; have HX362_0 := am hx362_0; clear hcc362 hce362; have HR362_0 := am hi362_0; have HC362_0 := am hl362_0; clear hi362_0 hl362_0; replace p362 := eq_true p362; replace q362 := eq_true q362; obtain ⟨go79, co79, eo79, gb79, gl79, cl79, HG79⟩ := Kd.S_form HO_3.out (by have h_ : ((rd x4_2 x82_3) : Int) < ((x3_3.length : Int) : Int) := dT; have h2_ : 0 ≤ ((rd x4_2 x82_3) : Int) := (dT); omega)
                                  (first | cases eo79 | (injection eo79 with ea_ en_ ec_; (first | subst ea_ | (injection ea_ with ea_; subst ea_)); subst ec_; clear en_))
                                  have GB79 := am gb79; have GG79 := am HG79; clear gb79 gl79 HG79
                                  (first | simp only [add_plain] at hx362_0 | skip)
                                  obtain ⟨oki79, ce79, hcl79, hM79, hcc79, _, _, hH79⟩ := Kd.S_elem HO_3.out [] ((rd x4_2 x82_3) : Int) (dT) (by have h_ : ((rd x4_2 x82_3) : Int) < ((x3_3.length : Int) : Int) := dT; first | exact h_ | (have e_ := (Kd.S_reads' HO_3.out).1; omega) | simpa using h_); obtain ⟨ve79_0, rfl, ge79_0⟩ := hM79; have hv79 := hcc79 0 _ rfl; have hX79 := HX362_0.out
                                  (try simp only [add_plain] at hX79)
                                  (try simp only [Nat.add_zero] at hv79)
                                  (try rw [show ((Kd.slice 3 (Kd.int .i64))).sz = 1 from rfl, Nat.mul_one] at hv79)
                                  replace hv79 := Option.some.inj (hv79.symm.trans hX79); subst hv79; clear hX79 hcc79 hcl79; have UU79 := am (show Kd.R (Kd.int .i64) 3 _ w.heap.size oki79 (.slice A362_0 (rd_L3 x3_3 (rd x4_2 x82_3)).length c362_0) (rd_L3 x3_3 (rd x4_2 x82_3)) from ge79_0); have HH79 := am hH79; have HN79 := am (Kd.S_reads' HO_3.out).1; clear hH79 ge79_0
                                  go_wp2_with (first | ((with_reducible refine gate_builtin (b := .append) (xs := #[.tmp 92, .tmp 94]) rfl ?_); at_builtin; refine Kd.R_append (Kd.int .i64) (w0 := w) w.heap.size rfl (.tmp 92) (.tmp 94) 31 3 (.int .i64 0) 8 rfl Try.underlying31 info3 rfl (by decide) (by omega) (.slice A362_0 (rd_L3 x3_3 (rd x4_2 x82_3)).length c362_0) (rd_L3 x3_3 (rd x4_2 x82_3)) x82_3 [.int .i64 x82_3] (fun k_ => oki79 k_ ∨ ((fun k_ => some k_ ≠ (.slice (some ad361) x4_2.length co11 : Value).ownBlock)) k_ ∧ wr.heap.size ≤ k_) (fun _ => False) rfl rfl ?aP (fun _ hk => hk.elim) ?aF ?aO ?aB ?aS ?aL ?_; (case aP => exact rfl); (case aB => exact (Bq)); (case aF => exact (fun k_ hk => .inr ⟨Kd.fresh' (Kd.R_lt (Rz HO_80.out)) k_ hk, hk⟩)); (case aO => exact (Rz (Kd.R_mono UU79.out (fun _ hk => .inl hk)))); (case aS => exact (below_size (w := w) (Bq))); (case aL => have := LMc76.out; omega); intro v364 w80 ho hb hg hat; rw [← Ny363.out] at ho; have n0_ := am (Kd.R_grown2 (Rz HO_80.out) rfl hg (fun k_ e_ => (HL362_0.out.1 k_ e_).1)); have n1_ := am (blk_grown (g := gb334) (o := .cells #[.slice A0 l0.length c0] 27 (0, 0)) (Kz BK334.out) hg (Kd.R_ne HL362_0.out BK334.out (by decide))); have n2_ := am (hb); have n3_ := am (Kd.H_grown (Kd.H_widen (by repeat (first | exact HH79.out | refine Kd.H_alloc ?_ _ | refine Kd.H_drewN ?_ _ | refine Kd.H_drew ?_))) hg (fun k_ e_ => .inl (UU79.out.1 k_ e_))); have n4_ := am (ho); clear HO_80 BK334 HB HH79 HO_3 UU79 HL362_0; revert n0_ n1_ n2_ n3_ n4_; intro HO_80 BK334 HB HH79 HO365; clear ho hb hg hat; have p77 : 0 ≤ ((rd x4_2 x82_3) : Int) := dT; have q77 : ((rd x4_2 x82_3) : Int) < ((x3_3.length : Int) : Int) := dT; replace p77 := eq_true p77; replace q77 := eq_true q77; obtain ⟨Ao83, co83, eo83⟩ := Kd.R_slice HO365.out; subst eo83; obtain ⟨_, _, hraw81, _, _, hcc81, _⟩ := Kd.H_raw HH79.out (dT) (by have h_ : ((rd x4_2 x82_3) : Int) < ((x3_3.length : Int) : Int) := dT; first | exact h_ | (have e_ := (HN79.out); omega) | simpa using h_); obtain ⟨_, hfr81⟩ := Kd.H_at HH79.out (dT) (by have h_ : ((rd x4_2 x82_3) : Int) < ((x3_3.length : Int) : Int) := dT; first | exact h_ | (have e_ := (HN79.out); omega) | simpa using h_); have hx81_0 := hcc81 0 _ rfl; have hf81_0 := hfr81 0; (try simp only [Nat.add_zero] at hx81_0 hf81_0); (try rw [show ((Kd.slice 3 (Kd.int .i64))).sz = 1 from rfl, Nat.mul_one] at hx81_0); (try rw [show ((Kd.slice 3 (Kd.int .i64))).sz = 1 from rfl, Nat.mul_one] at hf81_0); have HP81 := Kd.S_seg0 HH79.out (dT) (by have h_ : ((rd x4_2 x82_3) : Int) < ((x3_3.length : Int) : Int) := dT; first | exact h_ | (have e_ := (HN79.out); omega) | simpa using h_) (seg := [.slice Ao83 y363.length co83]) (j := 0) (show 1 ≤ 1 from by decide) (x' := y363) (Kd.M_row HO365.out) (fun _ hk => hk); (try simp only [show ((Kd.slice 3 (Kd.int .i64))).sz = 1 from rfl, Nat.mul_one, Nat.add_zero] at HP81); clear hcc81 hfr81) | ((with_reducible refine gate_store (t := 31) (p := 96) rfl ?_); refine store_event (t := 31) (p := 96) (v := ?vo_w82) (w1 := (w80.setCell ⟨go79, ((rd x4_2 x82_3) : Int).toNat, none⟩ (.slice Ao83 y363.length co83))) ?hg ?ho ?hn ?hr ?_; (case ho => rfl); (case hg => rfl); (case hn => rfl); (case hr => first | (go_simp; done) | (go_simp; rfl)); intro w82 hw; have hg : w80.grownBy w82 (some go79) := (by rw [hw]; exact HP81.2); have hp_ : Kd.S (Kd.slice 3 (Kd.int .i64)) 31 w82 w.heap.size (fun k_ => some k_ ≠ (.slice (some ad361) x4_2.length co11 : Value).ownBlock) (.slice (some ⟨go79, 0, none⟩) x3_3.length co78) y366 := (by rw [hw, Ny366.out]; exact HP81.1); clear HP81; have n0_ := am (Kd.R_over' (v := (.slice (some ⟨go79, 0, none⟩) x3_3.length co78)) (Rz HO_80.out) (Kd.R_typed hraw81) (by decide) hg); have n1_ := am (blk_grown (g := gb334) (o := .cells #[.slice A0 l0.length c0] 27 (0, 0)) (Kz BK334.out) hg (Kd.R_ne hraw81 BK334.out (by decide))); have n2_ := am ((by rw [hw]; exact below_set HB.out GB79.out : Below w.heap.size w w82)); have n3_ := am (hp_); clear HO_80 BK334 HB HO365 HH79; revert n0_ n1_ n2_ n3_; intro HO_80 BK334 HB HO_3; clear hg hw hp_ hraw81))
                                  go_roundg k3
                                  case measure => have := HK1.out; have := HK2.out; have := HK3.out; omega
                                  case rel => exact ⟨(y366), (wrap64 (x82_3 + 1)), wZ, H', ⟨by have := HK1.out; have := HK2.out; have := HK3.out; omega⟩, ⟨by (try simp only [hl4_1]); (try simp only [hl4_2]); (with_reducible repeat (first | apply Kd.S_alloc | apply Kd.S_drewN | apply Kd.S_drew)); exact HO_3.out⟩, ⟨by (try simp only [hl4_1]); (try simp only [hl4_2]); (with_reducible repeat (first | apply Kd.R_alloc | apply Kd.R_drewN | apply Kd.R_drew)); exact HO_80.out⟩, ⟨by (try simp only [hl4_1]); (try simp only [hl4_2]); (with_reducible repeat (first | refine blk_drewN ?_ _ | refine blk_drew ?_ | refine blk_alloc ?_ _)); exact BK334.out⟩, ⟨Bq⟩⟩
                                · rw [if_neg c76] at H
                                  exact absurd H (by simp)
                              · rw [if_neg c75] at H
                                exact absurd H (by simp)
                            · rw [if_neg c74] at H
                              exact absurd H (by simp)
                          · rw [if_neg c73] at H
                            exact absurd H (by simp)
                        · rw [if_neg c72] at H
                          exact absurd H (by simp)
                      · rw [if_neg c71] at H
                        have c71b0 : decide (x82_3 < (x4_2.length : Int)) = false := decide_eq_false c71; (try simp only [hl4_1, hl4_2] at c71b0); clear c71; obtain rfl := Option.some.inj H
                        go_wp2
                        go_ret
                        exact ⟨_, eZ, by (with_reducible repeat (first | apply Kd.S_alloc | apply Kd.S_drewN | apply Kd.S_drew)); exact Kd.S_mono HO_3.out (fun _ hk => trivial), Bq⟩
    · rw [if_neg c3] at H
      exact absurd H (by simp)
  · rw [if_neg c2] at H
    exact absurd H (by simp)

-- NOT PRINTED: function 151 (slices_IndexFunc_int_int_151)

-- NOT PRINTED: function 127 (slices_ContainsFunc_int_int_127)

open Go Go.Maps Go.Proofs.YtephjmmkggcmeaaGp
theorem cellsK : Keyed Try.prog 3 := int_keyed Try.underlying3
theorem cellsZ (w : World) : (zeroValue 4).run Try.prog w = .ok (.bool false) w := by kernel_rfl
def okC (x : Int) : Bool := decide (-9223372036854775808 ≤ x) && decide (x ≤ 9223372036854775807)
theorem okC_wf {x : Int} (h : okC x = true) : (Lit.int .i64 x).wf = true := h
def impl_cellCount.l0 : Nat → List (List Int) → List Int → List Int → Int → Int → Option (Int)
 | 0, _, _, _, _, _ => none
 | k + 1, x0, x5, x8, x9, x10 => if x10 < x9 then (if 0 ≤ x10 then (if x10 < (x8.length : Int) then (if 0 ≤ (rd x8 x10) then (if (rd x8 x10) < (x0.length : Int) then (if 0 < ((rd_L3 x0 (rd x8 x10)).length : Int) then (if 1 < ((rd_L3 x0 (rd x8 x10)).length : Int) then (if okC (rd (rd_L3 x0 (rd x8 x10)) 0) = true then (if okC (rd (rd_L3 x0 (rd x8 x10)) 1) = true then (impl_cellCount.l0 k x0 (rd (rd_L3 x0 (rd x8 x10)) 1 :: rd (rd_L3 x0 (rd x8 x10)) 0 :: x5) x8 x9 (wrap64 (x10 + 1))) else (none)) else (none)) else (none)) else (none)) else (none)) else (none)) else (none)) else (none)) else (some ((Go.Proofs.YtephjmmkggcmeaaGp.nubI x5).length : Int))
def impl_cellCount.f (k : Nat) (l0 : List (List Int)) (l1 : List Int) : Option (Int) := if l1.length ≤ 1000000 then (impl_cellCount.l0 k l0 ([] : List Int) l1 (l1.length : Int) 0) else (none)
def impl_cellCount.T5 : Bool × List (List Nat × List Nat) := (true, [([], []), ([], []), ([], []), ([1, 2], [1, 2]), ([3], [3]), ([4], [4]), ([5], [5]), ([], []), ([], []), ([], []), ([8, 9], [8, 9]), ([10], [10]), ([11], [11]), ([12], [12]), ([0, 6, 11, 13], [0, 6]), ([14], [14]), ([0, 15, 14, 0, 1, 2, 3, 4, 5, 6, 11, 13, 14], [0, 15]), ([7, 13, 16, 0, 1, 2, 3, 4, 5, 6, 11, 13, 14, 15, 16], [7, 13]), ([17], [17]), ([7, 18, 17, 0, 1, 2, 3, 4, 5, 6, 7, 8, 9, 10, 11, 12, 13, 14, 15, 16, 17], [7, 18])])
def impl_cellCount.B5 : List Nat := [0, 0, 0, 6, 14, 30, 62, 0, 0, 0, 768, 1792, 3840, 7936, 16255, 32639, 65407, 131071, 262143, 524287]
theorem impl_cellCount.tab5 : rtab .any (opsOf Try.f69 5) = impl_cellCount.T5 := by kernel_rfl
theorem impl_cellCount.bits5 : waitsOk impl_cellCount.T5.2 impl_cellCount.B5 = true := by kernel_rfl
theorem impl_cellCount.calls (k : Nat) (A0 : Option Addr) (c0 : Nat) (l0 : List (List Int)) (A1 : Option Addr) (c1 : Nat) (l1 : List Int) (r : Int) (w : World) (hr0 : Kd.C (Kd.slice 3 (Kd.int .i64)) w A0 l0.length l0) (hc0 : l0.length ≤ c0) (hr1 : Kd.C (Kd.int .i64) w A1 l1.length l1) (hc1 : l1.length ≤ c1) (h : impl_cellCount.f k l0 l1 = some r) :
  Calls Try.prog 69 #[.slice A0 l0.length c0, .slice A1 l1.length c1] w fun e w' => e = .returned (.int .i64 r) ∧ Below w.heap.size w w' := by
 unfold impl_cellCount.f at h
 split at h
 case isFalse => cases h
 case isTrue hl =>
 have HL : Aside0 (l1.length ≤ 1000000) := ⟨hl⟩; clear hl; have HR0 := am hr0; have HC0 := am hc0; clear hr0 hc0; have HR1 := am hr1; have HC1 := am hc1; clear hr1 hc1; have HB := am (Below.refl w.heap.size w); have H' := am h; clear h; have hmm := @run_makeMap Try.prog
 go_enter Try.func69, Try.ntmps69
 go_wp2
 go_loopg [11] k (fun kq v10 w' => ∃ (x5_1 : List Int) (x10_1 : Int) (m : Nat) (D : DataW Unit), v10 = .int .i64 x10_1 ∧ Aside0 (x10_1 = (m : Int)) ∧ Aside0 (impl_cellCount.l0 kq l0 x5_1 l1 (l1.length : Int) x10_1 = some r) ∧ Aside0 (kq ≤ k) ∧ Aside0 (w'.ownsMap Try.prog 3 (plainElem (H := Unit) Try.prog 4) w.heap.size (2 * m) D) ∧ Aside0 (SetIs .i64 D x5_1) ∧ Aside0 (Below w.heap.size w w'))
 case atStart => exact ⟨([] : List Int), 0, 0, .map [], rfl, ⟨rfl⟩, H', ⟨Nat.le_refl _⟩, ⟨World.ownsMap_made _ _ _ _⟩, ⟨SetIs.empty _⟩, ⟨(Below.refl _ _).alloc (Nat.le_refl _) _⟩⟩
 case round =>
  clear H' hmm; obtain ⟨x5_1, x10_1, m, D, rfl, HM, HA, HK1, HO, HS, HB⟩ := hrel; cases gk with
  | zero => exact absurd HA.out (by simp [impl_cellCount.l0])
  | succ k1 =>
   have H := HA.out; clear HA
   simp only [impl_cellCount.l0] at H
   by_cases c3 : x10_1 < (l1.length : Int)
   · rw [if_pos c3] at H
     have c3b0 : decide (x10_1 < (l1.length : Int)) = true := decide_eq_true c3; clear c3
     by_cases c4 : 0 ≤ x10_1
     · rw [if_pos c4] at H
       have c4b0 : decide (0 ≤ x10_1) = true := decide_eq_true c4; clear c4
       by_cases c5 : x10_1 < (l1.length : Int)
       · rw [if_pos c5] at H
         have c5b0 : decide (x10_1 < (l1.length : Int)) = true := decide_eq_true c5; clear c5
         by_cases c6 : 0 ≤ (rd l1 x10_1)
         · rw [if_pos c6] at H
           have c6b0 : decide (0 ≤ (rd l1 x10_1)) = true := decide_eq_true c6; clear c6
           by_cases c7 : (rd l1 x10_1) < (l0.length : Int)
           · rw [if_pos c7] at H
             have c7b0 : decide ((rd l1 x10_1) < (l0.length : Int)) = true := decide_eq_true c7; clear c7
             by_cases c8 : 0 < ((rd_L3 l0 (rd l1 x10_1)).length : Int)
             · rw [if_pos c8] at H
               have c8b0 : decide (0 < ((rd_L3 l0 (rd l1 x10_1)).length : Int)) = true := decide_eq_true c8; have c8b1 : decide (0 < (rd_L3 l0 (rd l1 x10_1)).length) = true := decide_eq_true (by omega); clear c8
               by_cases c10 : 1 < ((rd_L3 l0 (rd l1 x10_1)).length : Int)
               · rw [if_pos c10] at H
                 have c10b0 : decide (1 < ((rd_L3 l0 (rd l1 x10_1)).length : Int)) = true := decide_eq_true c10; have c10b1 : decide (1 < (rd_L3 l0 (rd l1 x10_1)).length) = true := decide_eq_true (by omega); clear c10
                 by_cases c11 : okC (rd (rd_L3 l0 (rd l1 x10_1)) 0) = true
                 · rw [if_pos c11] at H
                   have HQ0 : Aside0 (keyOf Try.prog 3 (.int .i64 (rd (rd_L3 l0 (rd l1 x10_1)) 0)) = some (.int .i64 (rd (rd_L3 l0 (rd l1 x10_1)) 0))) := ⟨keyOf_int_mk Try.underlying3 (okC_wf c11)⟩; clear c11
                   by_cases c12 : okC (rd (rd_L3 l0 (rd l1 x10_1)) 1) = true
                   · rw [if_pos c12] at H
                     have HQ1 : Aside0 (keyOf Try.prog 3 (.int .i64 (rd (rd_L3 l0 (rd l1 x10_1)) 1)) = some (.int .i64 (rd (rd_L3 l0 (rd l1 x10_1)) 1))) := ⟨keyOf_int_mk Try.underlying3 (okC_wf c12)⟩; clear c12
                     have HN : Aside0 (2 * m + 1 < maxLen) := ⟨by
                       have h1 := HM.out; have h2 := HL.out; have h3 := of_decide_eq_true c5b0
                       unfold maxLen; omega⟩
                     have H' := am H; clear H; have p529 : 0 ≤ (x10_1 : Int) := of_decide_eq_true c4b0; have q529 : x10_1 < (l1.length : Int) := of_decide_eq_true c5b0; obtain ⟨ad529, e529, hx529_0⟩ := Kd.at_int HR1.out x10_1 p529 q529; cases e529; replace hx529_0 := (HB.out.cell (World.block_lt_of_cell? w _ hx529_0)).trans hx529_0; replace p529 := eq_true p529; replace q529 := eq_true q529
                     go_wp2
                     have n0_ := am (World.ownsMap.drew HO.out); have n1_ := am (below_drew1 HB.out); clear HO HB; revert n0_ n1_; intro HO HB; have p530 : 0 ≤ ((rd l1 x10_1) : Int) := of_decide_eq_true c6b0; have q530 : (rd l1 x10_1) < (l0.length : Int) := of_decide_eq_true c7b0; obtain ⟨ad530, A530_0, c530_0, e530, hx530_0, hl530_0, hi530_0⟩ := at_L3 HR0.out (rd l1 x10_1) p530 q530; have hw530_0 := hx530_0; cases e530; replace hx530_0 := (HB.out.cell (World.block_lt_of_cell? w _ hx530_0)).trans hx530_0; have HR530_0 := am hi530_0; have HC530_0 := am hl530_0; clear hi530_0 hl530_0; replace p530 := eq_true p530; replace q530 := eq_true q530; have p531 : 0 ≤ (0 : Int) := (by omega); have q531 : 0 < ((rd_L3 l0 (rd l1 x10_1)).length : Int) := of_decide_eq_true c8b0; obtain ⟨ad531, e531, hx531_0⟩ := Kd.at_int HR530_0.out 0 p531 q531; have hw531_0 := hx531_0
                     (try rw [show ((0 : Int)).toNat = 0 from rfl] at hw531_0)
                     (try rw [show 0 * 1 = 0 from rfl] at hw531_0)
                     (try rw [Addr.add_zero'] at hw531_0)
                     cases e531; have qi531 : (0 < (rd_L3 l0 (rd l1 x10_1)).length) = True := eq_true (of_decide_eq_true c8b1)
                     (try rw [show ((0 : Int)).toNat = 0 from rfl] at hx531_0)
                     (try rw [Addr.add_zero'] at hx531_0)
                     replace hx531_0 := (HB.out.cell (World.block_lt_of_cell? w _ hx531_0)).trans hx531_0; replace p531 := eq_true p531; replace q531 := eq_true q531; have p536 : 0 ≤ (1 : Int) := (by omega); have q536 : 1 < ((rd_L3 l0 (rd l1 x10_1)).length : Int) := of_decide_eq_true c10b0; obtain ⟨ad536, e536, hx536_0⟩ := Kd.at_int HR530_0.out 1 p536 q536; have hw536_0 := hx536_0
                     (try rw [show ((1 : Int)).toNat = 1 from rfl] at hw536_0)
                     (try rw [show 1 * 1 = 1 from rfl] at hw536_0)
                     (try simp only [Nat.reduceMul, Nat.reduceEqDiff, Go.Addr.add, ↓reduceIte] at hw536_0)
                     cases e536
                     (try simp only [show (1 : Int).toNat = 1 from rfl, Nat.reduceMul, Nat.reduceEqDiff, Go.Addr.add, ↓reduceIte] at hx536_0)
                     have qi536 : (1 < (rd_L3 l0 (rd l1 x10_1)).length) = True := eq_true (of_decide_eq_true c10b1)
                     (try rw [show ((1 : Int)).toNat = 1 from rfl] at hx536_0)
                     replace hx536_0 := (HB.out.cell (World.block_lt_of_cell? w _ hx536_0)).trans hx536_0; replace p536 := eq_true p536; replace q536 := eq_true q536; refine start_ (n := 20) (S := fun w' => w'.cell? (ad530.add ((rd l1 x10_1)).toNat) = some (.slice (some ad531) (rd_L3 l0 (rd l1 x10_1)).length c530_0) ∧ w'.cell? ad531 = some (.int .i64 (rd (rd_L3 l0 (rd l1 x10_1)) 0)) ∧ w'.cell? ⟨ad531.block, ad531.off + 1, none⟩ = some (.int .i64 (rd (rd_L3 l0 (rd l1 x10_1)) 1))) (ds := []) (bA 20 0) (by kernel_rfl) rfl rfl ⟨((HB.out.cell (World.block_lt_of_cell? w _ hw530_0)).trans hw530_0), ((HB.out.cell (World.block_lt_of_cell? w _ hw531_0)).trans hw531_0), ((HB.out.cell (World.block_lt_of_cell? w _ hw536_0)).trans hw536_0)⟩ (fun hHeld => ?_); refine with_tabW impl_cellCount.tab5 impl_cellCount.bits5 (fun HT_ HW_ => ?_); generalize wr.drew = w12 at HO HB HR530_0 hx530_0 hx531_0 hx536_0 hHeld ⊢; refine pZ 0 (some 15) (bA 20 1) HT_.out ?_; refine pZ 1 (some 16) (bA 20 3) HT_.out ?_; refine pZ 2 (some 17) (bA 20 7) HT_.out ?_; refine pZ 3 (some 18) (bA 20 15) HT_.out ?_; refine pZ 7 (some 22) (bA 20 143) HT_.out ?_; refine pZ 8 (some 23) (bA 20 399) HT_.out ?_; refine pZ 9 (some 24) (bA 20 911) HT_.out ?_; refine pZ 10 (some 25) (bA 20 1935) HT_.out ?_; refine tZ3 4 (some 19) (bA 20 1951) HT_.out HW_.out hHeld ?_; refine pZ 5 (some 20) (bA 20 1983) HT_.out ?_; refine tZ3 6 (some 21) (bA 20 2047) HT_.out HW_.out hHeld ?_; refine tZ3 11 (some 26) (bA 20 4095) HT_.out HW_.out hHeld ?_; refine pZ 12 (some 27) (bA 20 8191) HT_.out ?_; refine tZ3 13 (some 28) (bA 20 16383) HT_.out HW_.out hHeld ?_; refine oZ 14 (some 29) (bA 20 32767) HT_.out (fun K hK => ?_); refine entry_step (by rfl) rfl _ _ _ rfl 3 4 cellsK Try.underlying117 _ cellsZ (plainElem (H := Unit) Try.prog 4) w.heap.size (2 * m) D HO.out (by have := HN.out; omega) _ _ rfl rfl HQ0.out ?_; intro v0_ st w14 hent hgr; have n1_ := am (HB.out.grown hgr HB.out.size (fun j hj => by cases hj; exact Nat.le_refl _)); have HE := am hent; clear HB hent hgr HO; revert n1_; intro HB; refine hK.out _ _ ⟨((HB.out.cell (World.block_lt_of_cell? w _ hw530_0)).trans hw530_0), ((HB.out.cell (World.block_lt_of_cell? w _ hw531_0)).trans hw531_0), ((HB.out.cell (World.block_lt_of_cell? w _ hw536_0)).trans hw536_0)⟩ (fun hHeld => ?_); clear hK K; refine norm_ (a' := ?_) ?_ ?_; rotate_left; show Act.put _ (some 29) _ = _; simp only [aP, i64_w, i32_w]; rfl; refine pZ 15 (some 30) (bA 20 65535) HT_.out ?_; refine oZ 16 none (bA 20 131071) HT_.out (fun K hK => ?_); refine estore_step (by rfl) rfl _ _ _ _ rfl 3 (plainElem (H := Unit) Try.prog 4) w.heap.size (2 * m) D _ st w14 HE.out rfl _ rfl rfl rfl _ [] (plainElem_bool Try.underlying4 true) ?_; intro w16 hown hgr; have n1_ := am (HB.out.grown hgr HB.out.size (fun j hj => by cases hj; exact Nat.le_refl _)); have HO := am hown; clear HB hown hgr HE; revert n1_; intro HB; refine hK.out _ _ ⟨((HB.out.cell (World.block_lt_of_cell? w _ hw530_0)).trans hw530_0), ((HB.out.cell (World.block_lt_of_cell? w _ hw531_0)).trans hw531_0), ((HB.out.cell (World.block_lt_of_cell? w _ hw536_0)).trans hw536_0)⟩ (fun hHeld => ?_); clear hK K
                     refine oZ 17 (some 31) (bA 20 262143) HT_.out (fun K hK => ?_); refine entry_step (by rfl) rfl _ _ _ rfl 3 4 cellsK Try.underlying117 _ cellsZ (plainElem (H := Unit) Try.prog 4) w.heap.size (2 * m + 1) _ HO.out HN.out _ _ rfl rfl HQ1.out ?_; intro v1_ st1 w17 hent hgr; have n1_ := am (HB.out.grown hgr HB.out.size (fun j hj => by cases hj; exact Nat.le_refl _)); have HE := am hent; clear HB hent hgr HO; revert n1_; intro HB; refine hK.out _ _ ⟨((HB.out.cell (World.block_lt_of_cell? w _ hw530_0)).trans hw530_0), ((HB.out.cell (World.block_lt_of_cell? w _ hw531_0)).trans hw531_0), ((HB.out.cell (World.block_lt_of_cell? w _ hw536_0)).trans hw536_0)⟩ (fun hHeld => ?_); clear hK K; refine norm_ (a' := ?_) ?_ ?_; rotate_left; show Act.put _ (some 31) _ = _; simp only [aP, i64_w, i32_w]; rfl; refine pZ 18 (some 32) (bA 20 524287) HT_.out ?_; refine oZ 19 none (bA 20 1048575) HT_.out (fun K hK => ?_); refine estore_step (by rfl) rfl _ _ _ _ rfl 3 (plainElem (H := Unit) Try.prog 4) w.heap.size (2 * m + 1) _ _ st1 w17 HE.out rfl _ rfl rfl rfl _ [] (plainElem_bool Try.underlying4 true) ?_; intro w19 hown hgr; have n1_ := am (HB.out.grown hgr HB.out.size (fun j hj => by cases hj; exact Nat.le_refl _)); have HO := am hown; clear HB hown hgr HE; revert n1_; intro HB; refine hK.out _ _ ⟨((HB.out.cell (World.block_lt_of_cell? w _ hw530_0)).trans hw530_0), ((HB.out.cell (World.block_lt_of_cell? w _ hw531_0)).trans hw531_0), ((HB.out.cell (World.block_lt_of_cell? w _ hw536_0)).trans hw536_0)⟩ (fun hHeld => ?_); clear hK K; refine done_ (done_of HT_.out (by kernel_rfl)) ?_
                     try go_wp2
                     go_roundg k1
                     case measure => have := HK1.out; omega
                     case rel => exact ⟨_, (wrap64 (x10_1 + 1)), m + 1, _, rfl, ⟨by have h1 := HM.out; have h2 := HL.out; have h3 := of_decide_eq_true c5b0; unfold wrap64; omega⟩, H', ⟨by have := HK1.out; omega⟩, ⟨HO.out.mono (by omega)⟩, ⟨(HS.out.put _).put _⟩, ⟨HB.out⟩⟩
                   · rw [if_neg c12] at H
                     exact absurd H (by simp)
                 · rw [if_neg c11] at H
                   exact absurd H (by simp)
               · rw [if_neg c10] at H
                 exact absurd H (by simp)
             · rw [if_neg c8] at H
               exact absurd H (by simp)
           · rw [if_neg c7] at H
             exact absurd H (by simp)
         · rw [if_neg c6] at H
           exact absurd H (by simp)
       · rw [if_neg c5] at H
         exact absurd H (by simp)
     · rw [if_neg c4] at H
       exact absurd H (by simp)
   · rw [if_neg c3] at H
     have c3b0 : decide (x10_1 < (l1.length : Int)) = false := decide_eq_false c3; clear c3; have HRr := Option.some.inj H; clear H
     have hlen := fun ty => HO.out.len (t := 117) Try.underlying117 ty
     go_wp2
     go_ret
     exact ⟨by rw [HS.out.2.2.2, HRr]; rfl, HB.out⟩

-- NOT PRINTED: function 128 (impl_placed_1)

def impl_placed_1.f (k : Nat) (l0 : List Int) (l1_0 : List (List Int)) : Option (Bool) := (impl_cellCount.f k l1_0 l0).bind fun t372 => (some (decide (t372 < (l0.length : Int))))
theorem impl_placed_1.calls (k : Nat) (A0 : Option Addr) (c0 : Nat) (l0 : List Int) (g1 : Nat) (A1_0 : Option Addr) (c1_0 : Nat) (l1_0 : List (List Int)) (r : Bool) (w : World) (hr0 : Kd.C (Kd.int .i64) w A0 l0.length l0) (hc0 : l0.length ≤ c0) (hb1 : w.heap[g1]? = some (.cells #[.slice A1_0 l1_0.length c1_0] 27 (0, 0))) (hr1_0 : Kd.C (Kd.slice 3 (Kd.int .i64)) w A1_0 l1_0.length l1_0) (hc1_0 : l1_0.length ≤ c1_0) (h : impl_placed_1.f k l0 l1_0 = some r) :
    Calls Try.prog 128 #[.slice A0 l0.length c0, .pointer (some ⟨g1, 0, none⟩)] w fun e w' => e = .returned (.bool r) ∧ Below w.heap.size w w' := by
  have HR0 := am hr0; have HC0 := am hc0; clear hr0 hc0; have HR1_0 := am hr1_0; have HC1_0 := am hc1_0; clear hr1_0 hc1_0; have BK1 := am hb1; clear hb1; have HB := am (Below.refl w.heap.size w); have H : ((impl_cellCount.f k l1_0 l0).bind fun t372 => (some (decide (t372 < (l0.length : Int))))) = some r := h; clear h; replace H := Option.bind_eq_some_iff.mp H; obtain ⟨t372, A30, H⟩ := H; (try dsimp -simprocs only at H); have A3 := am A30; clear A30; obtain rfl := Option.some.inj H; obtain ⟨hcz4_0, hfz4_0⟩ := cf1 (w := w) BK1
  go_enter Try.func128, Try.ntmps128
  go_wp2_with (first | ((with_reducible refine gate_callee (f := 69) rfl ?_); refine gL (some 6) Try.func69 #[.slice A1_0 l1_0.length c1_0, .slice A0 l0.length c0] ?_; (with_reducible refine (impl_cellCount.calls k _ _ l1_0 _ _ l0 t372 _ ?side1 ?side2 ?side3 ?side4 A3.out).mono ?_); (case side1 => exact Cz HR1_0.out); (case side2 => exact HC1_0.out); (case side3 => exact Cz HR0.out); (case side4 => exact HC0.out); rintro e w5 ⟨rfl, hb⟩; refine ⟨_, rfl, ?_⟩; have n0_ := Kb BK1 hb; have n1_ := Bc HB hb; clear BK1 HB; revert n0_ n1_; intro BK1 HB; (try clear hb); (try clear hb2); (try clear hk); (try clear hi)))
  go_ret
  exact ⟨eZ, Bq⟩

def slices_IndexFunc_int_int_at_impl_placed_1.l0 : Nat → List (List Int) → Int → Int → List (List Int) → Option (Int)
  | 0, _, _, _, _ => none
  | k + 1, x0, x7, x8, x3000 => if x8 < x7 then (if 0 ≤ x8 then (if x8 < (x0.length : Int) then ((impl_placed_1.f k (rd_L3 x0 x8) x3000).bind fun t374 => (if t374 = true then (some x8) else (slices_IndexFunc_int_int_at_impl_placed_1.l0 k x0 x7 (wrap64 (x8 + 1)) x3000))) else (none)) else (none)) else (some (-1))
def slices_IndexFunc_int_int_at_impl_placed_1.f (k : Nat) (l0 : List (List Int))  (l2_0 : List (List Int)) : Option (Int) := slices_IndexFunc_int_int_at_impl_placed_1.l0 k l0 (l0.length : Int) 0 l2_0
theorem slices_IndexFunc_int_int_at_impl_placed_1.calls (k : Nat) (A0 : Option Addr) (c0 : Nat) (l0 : List (List Int))  (g2 : Nat) (A2_0 : Option Addr) (c2_0 : Nat) (l2_0 : List (List Int)) (r : Int) (w : World) (hr0 : Kd.C (Kd.slice 3 (Kd.int .i64)) w A0 l0.length l0) (hc0 : l0.length ≤ c0) (hb2 : w.heap[g2]? = some (.cells #[.slice A2_0 l2_0.length c2_0] 27 (0, 0))) (hr2_0 : Kd.C (Kd.slice 3 (Kd.int .i64)) w A2_0 l2_0.length l2_0) (hc2_0 : l2_0.length ≤ c2_0) (h : slices_IndexFunc_int_int_at_impl_placed_1.f k l0 l2_0 = some r) :
    Calls Try.prog 151 #[.slice A0 l0.length c0, .func (.func 128) #[] #[.pointer (some ⟨g2, 0, none⟩)]] w fun e w' => e = .returned (.int .i64 r) ∧ Below w.heap.size w w' := by
  have HR0 := am hr0; have HC0 := am hc0; clear hr0 hc0; have HR2_0 := am hr2_0; have HC2_0 := am hc2_0; clear hr2_0 hc2_0; have BK2 := am hb2; clear hb2; have HB := am (Below.refl w.heap.size w); have H : (slices_IndexFunc_int_int_at_impl_placed_1.l0 k l0 (l0.length : Int) 0 l2_0) = some r := h; clear h; have H' := am H; clear H
  go_enter Try.func151, Try.ntmps151
  go_wp2
  go_loopg [8] k (fun kq v8 w' => ∃ (x8_1 : Int), v8 = .int .i64 x8_1 ∧ Aside0 (slices_IndexFunc_int_int_at_impl_placed_1.l0 kq l0 (l0.length : Int) x8_1 l2_0 = some r) ∧ Aside0 (kq ≤ k) ∧ Aside0 (w'.heap[g2]? = some (.cells #[(.slice A2_0 l2_0.length c2_0)] 27 (0, 0))) ∧ Aside0 (Below w.heap.size w w'))
  case atStart => exact ⟨(0), wZ, H', ⟨Nat.le_refl _⟩, ⟨Kz BK2.out⟩, ⟨Bq⟩⟩
  case round =>
    clear H'
    try clear c1
    try clear c2
    try clear p2
    obtain ⟨x8_1, rfl, HA, HK1, BK2, HB⟩ := hrel; cases gk with
    | zero => exact absurd HA.out (by simp [slices_IndexFunc_int_int_at_impl_placed_1.l0])
    | succ k1 =>
      have H := HA.out; clear HA
      simp only [slices_IndexFunc_int_int_at_impl_placed_1.l0] at H
      by_cases c4 : x8_1 < (l0.length : Int)
      · rw [if_pos c4] at H
        have c4b0 : decide (x8_1 < (l0.length : Int)) = true := decide_eq_true c4; clear c4
        by_cases c5 : 0 ≤ x8_1
        · rw [if_pos c5] at H
          have c5b0 : decide (0 ≤ x8_1) = true := decide_eq_true c5; clear c5
          by_cases c6 : x8_1 < (l0.length : Int)
          · rw [if_pos c6] at H
            have c6b0 : decide (x8_1 < (l0.length : Int)) = true := decide_eq_true c6; clear c6; replace H := Option.bind_eq_some_iff.mp H; obtain ⟨t374, A70, H⟩ := H; (try dsimp -simprocs only at H); have A7 := am A70; clear A70
            by_cases c8 : t374 = true
            · subst c8
              rw [if_pos rfl] at H; obtain rfl := Option.some.inj H; have p373 : 0 ≤ (x8_1 : Int) := dT; have q373 : x8_1 < (l0.length : Int) := dT; obtain ⟨ad373, A373_0, c373_0, e373, hx373_0, hl373_0, hi373_0⟩ := at_L3 HR0.out x8_1 p373 q373; cases e373; replace hx373_0 := (HB.out.cell (World.block_lt_of_cell? w _ hx373_0)).trans hx373_0; have HR373_0 := am hi373_0; have HC373_0 := am hl373_0; clear hi373_0 hl373_0; replace p373 := eq_true p373; replace q373 := eq_true q373
              go_wp2_with (first | (go_at_call 128; (with_reducible refine (impl_placed_1.calls k1 _ _ (rd_L3 l0 x8_1) g2 A2_0 c2_0 l2_0 true _ ?side1 ?side2 ?side3 ?side4 ?side5 A7.out).mono ?_); (case side1 => exact Cz (Kd.C_below HR373_0.out HB.out)); (case side2 => exact HC373_0.out); (case side3 => exact Kz BK2.out); (case side4 => exact Cz (Kd.C_below HR2_0.out HB.out)); (case side5 => exact HC2_0.out); rintro e w9 ⟨rfl, hb⟩; have n0_ := Kb BK2 hb; have n1_ := Bc HB hb; clear BK2 HB; revert n0_ n1_; intro BK2 HB; (try clear hb); (try clear hb2); (try clear hk); (try clear hi)))
              go_ret
              exact ⟨eZ, Bq⟩
            · replace c8 := Bool.eq_false_iff.mpr c8
              subst c8
              rw [if_neg (show ¬ (false = true) by decide)] at H; have H' := am H; clear H; have p373 : 0 ≤ (x8_1 : Int) := dT; have q373 : x8_1 < (l0.length : Int) := dT; obtain ⟨ad373, A373_0, c373_0, e373, hx373_0, hl373_0, hi373_0⟩ := at_L3 HR0.out x8_1 p373 q373; cases e373; replace hx373_0 := (HB.out.cell (World.block_lt_of_cell? w _ hx373_0)).trans hx373_0; have HR373_0 := am hi373_0; have HC373_0 := am hl373_0; clear hi373_0 hl373_0; replace p373 := eq_true p373; replace q373 := eq_true q373
              go_wp2_with (first | (go_at_call 128; (with_reducible refine (impl_placed_1.calls k1 _ _ (rd_L3 l0 x8_1) g2 A2_0 c2_0 l2_0 false _ ?side1 ?side2 ?side3 ?side4 ?side5 A7.out).mono ?_); (case side1 => exact Cz (Kd.C_below HR373_0.out HB.out)); (case side2 => exact HC373_0.out); (case side3 => exact Kz BK2.out); (case side4 => exact Cz (Kd.C_below HR2_0.out HB.out)); (case side5 => exact HC2_0.out); rintro e w10 ⟨rfl, hb⟩; have n0_ := Kb BK2 hb; have n1_ := Bc HB hb; clear BK2 HB; revert n0_ n1_; intro BK2 HB; (try clear hb); (try clear hb2); (try clear hk); (try clear hi)))
              go_roundg k1
              case measure => have := HK1.out; omega
              case rel => exact ⟨(wrap64 (x8_1 + 1)), wZ, H', ⟨by have := HK1.out; omega⟩, ⟨Kz BK2.out⟩, ⟨Bq⟩⟩
          · rw [if_neg c6] at H
            exact absurd H (by simp)
        · rw [if_neg c5] at H
          exact absurd H (by simp)
      · rw [if_neg c4] at H
        have c4b0 : decide (x8_1 < (l0.length : Int)) = false := decide_eq_false c4; clear c4; obtain rfl := Option.some.inj H
        go_wp2
        go_ret
        exact ⟨eZ, Bq⟩

def slices_ContainsFunc_int_int_at_impl_placed_1.f (k : Nat) (l0 : List (List Int))  (l2_0 : List (List Int)) : Option (Bool) := (slices_IndexFunc_int_int_at_impl_placed_1.f k l0 l2_0).bind fun t375 => (some (decide (t375 ≥ 0)))
theorem slices_ContainsFunc_int_int_at_impl_placed_1.calls (k : Nat) (A0 : Option Addr) (c0 : Nat) (l0 : List (List Int))  (g2 : Nat) (A2_0 : Option Addr) (c2_0 : Nat) (l2_0 : List (List Int)) (r : Bool) (w : World) (hr0 : Kd.C (Kd.slice 3 (Kd.int .i64)) w A0 l0.length l0) (hc0 : l0.length ≤ c0) (hb2 : w.heap[g2]? = some (.cells #[.slice A2_0 l2_0.length c2_0] 27 (0, 0))) (hr2_0 : Kd.C (Kd.slice 3 (Kd.int .i64)) w A2_0 l2_0.length l2_0) (hc2_0 : l2_0.length ≤ c2_0) (h : slices_ContainsFunc_int_int_at_impl_placed_1.f k l0 l2_0 = some r) :
    Calls Try.prog 127 #[.slice A0 l0.length c0, .func (.func 128) #[] #[.pointer (some ⟨g2, 0, none⟩)]] w fun e w' => e = .returned (.bool r) ∧ Below w.heap.size w w' := by
  have HR0 := am hr0; have HC0 := am hc0; clear hr0 hc0; have HR2_0 := am hr2_0; have HC2_0 := am hc2_0; clear hr2_0 hc2_0; have BK2 := am hb2; clear hb2; have HB := am (Below.refl w.heap.size w); have H : ((slices_IndexFunc_int_int_at_impl_placed_1.f k l0 l2_0).bind fun t375 => (some (decide (t375 ≥ 0)))) = some r := h; clear h; replace H := Option.bind_eq_some_iff.mp H; obtain ⟨t375, A40, H⟩ := H; (try dsimp -simprocs only at H); have A4 := am A40; clear A40; obtain rfl := Option.some.inj H
  go_enter Try.func127, Try.ntmps127
  go_wp2_with (first | ((with_reducible refine gate_callee (f := 151) rfl ?_); refine gL (some 7) Try.func151 #[.slice A0 l0.length c0, .func (.func 128) #[] #[.pointer (some ⟨g2, 0, none⟩)]] ?_; (with_reducible refine (slices_IndexFunc_int_int_at_impl_placed_1.calls k _ _ l0  g2 A2_0 c2_0 l2_0 t375 _ ?side1 ?side2 ?side3 ?side4 ?side5 A4.out).mono ?_); (case side1 => exact Cz HR0.out); (case side2 => exact HC0.out); (case side3 => exact Kz BK2.out); (case side4 => exact Cz HR2_0.out); (case side5 => exact HC2_0.out); rintro e w5 ⟨rfl, hb⟩; refine ⟨_, rfl, ?_⟩; have n0_ := Kb BK2 hb; have n1_ := Bc HB hb; clear BK2 HB; revert n0_ n1_; intro BK2 HB; (try clear hb); (try clear hb2); (try clear hk); (try clear hi)))
  go_ret
  exact ⟨eZ, Bq⟩

def impl_placed.f (k : Nat) (l0 : List (List Int)) : Option (Bool) := (impl_groups.f k l0).bind fun t377 => ((slices_ContainsFunc_int_int_at_impl_placed_1.f k t377 l0).bind fun t380 => (some (!t380)))
theorem impl_placed.calls (k : Nat) (A0 : Option Addr) (c0 : Nat) (l0 : List (List Int)) (r : Bool) (w : World) (hr0 : Kd.C (Kd.slice 3 (Kd.int .i64)) w A0 l0.length l0) (hc0 : l0.length ≤ c0) (h : impl_placed.f k l0 = some r) :
    Calls Try.prog 75 #[.slice A0 l0.length c0] w fun e w' => e = .returned (.bool r) ∧ Below w.heap.size w w' := by
  have HR0 := am hr0; have HC0 := am hc0; clear hr0 hc0; have HB := am (Below.refl w.heap.size w); have H : ((impl_groups.f k l0).bind fun t377 => ((slices_ContainsFunc_int_int_at_impl_placed_1.f k t377 l0).bind fun t380 => (some (!t380)))) = some r := h; clear h; replace H := Option.bind_eq_some_iff.mp H; obtain ⟨t377, A20, H⟩ := H; (try dsimp -simprocs only at H); have A2 := am A20; clear A20; replace H := Option.bind_eq_some_iff.mp H; obtain ⟨t380, A30, H⟩ := H; (try dsimp -simprocs only at H); have A3 := am A30; clear A30; obtain rfl := Option.some.inj H
  go_enter Try.func75, Try.ntmps75
  go_wp2_with (first | ((with_reducible refine gate_dst (N := 1) rfl ?_); refine bE 1 #[.slice A0 l0.length c0] 27 ?_; intro gb376 hg w4 hbox hb; have n0_ := Bb HB hb; have n1_ := am (hbox); have n2_ := Gl HB hg; have n3_ := Gl HB hg; clear HB; revert n0_ n1_ n2_ n3_; intro HB BK376 GW376 GE376; clear hb hbox hg; obtain ⟨hcz5_0, hfz5_0⟩ := cf1 (w := w4) BK376) | ((with_reducible refine gate_callee (f := 61) rfl ?_); refine gL (some 4) Try.func61 #[.slice A0 l0.length c0] ?_; (with_reducible refine (impl_groups.calls k _ _ l0 t377 _ ?side1 ?side2 A2.out).mono ?_); (case side1 => exact Cz (Kd.C_below HR0.out HB.out)); (case side2 => exact HC0.out); rintro e w6 ⟨v378, rfl, ho0, hb⟩; refine ⟨_, rfl, ?_⟩; have n0_ := am (Kd.S_lower ho0 (below_size (w := w) (Bq))); have n1_ := Kb BK376 hb; have n2_ := Bc HB hb; clear BK376 HB; revert n0_ n1_ n2_; intro HO379 BK376 HB; (try clear hb); (try clear hb2); (try clear hk); (try clear hi); (try clear ho0); obtain ⟨Ao7, co7, eo7⟩ := Kd.S_slice HO379.out; subst eo7) | ((with_reducible refine gate_callee (f := 127) rfl ?_); refine gL (some 6) Try.func127 #[.slice Ao7 t377.length co7, .func (.func 128) #[] #[.pointer (some ⟨gb376, 0, none⟩)]] ?_; (with_reducible refine (slices_ContainsFunc_int_int_at_impl_placed_1.calls k _ _ t377  gb376 A0 c0 l0 t380 _ ?side1 ?side2 ?side3 ?side4 ?side5 A3.out).mono ?_); (case side1 => exact Cz ((Kd.S_reads' HO379.out).2.2)); (case side2 => exact (Kd.S_reads' HO379.out).2.1); (case side3 => exact Kz BK376.out); (case side4 => exact Cz (Kd.C_below HR0.out HB.out)); (case side5 => exact HC0.out); rintro e w8 ⟨rfl, hb⟩; refine ⟨_, rfl, ?_⟩; have n0_ := am (Kd.S_below (by (with_reducible repeat (first | apply Kd.S_alloc | apply Kd.S_drewN | apply Kd.S_drew)); exact HO379.out) hb); have n1_ := Kb BK376 hb; have n2_ := Bc HB hb; clear HO379 BK376 HB; revert n0_ n1_ n2_; intro HO379 BK376 HB; (try clear hb); (try clear hb2); (try clear hk); (try clear hi)))
  go_ret
  exact ⟨eZ, Bq⟩

-- NOT PRINTED: function 74 (impl_FirstCuckooSeed_1)

def impl_FirstCuckooSeed_1.f (k : Nat) (a0 : Int) (l1_0 : List ByteArray) (a2_0 : Int) : Option (Bool) := (impl_pairs.f k a0 l1_0 a2_0).bind fun bt385 => ((impl_placed.f k bt385.1).bind fun t389 => (some t389))
theorem impl_FirstCuckooSeed_1.calls (k : Nat) (a0 : Int) (g1 : Nat) (A1_0 : Option Addr) (c1_0 : Nat) (l1_0 : List ByteArray) (g2 : Nat) (a2_0 : Int) (r : Bool) (w : World) (hb1 : w.heap[g1]? = some (.cells #[.slice A1_0 l1_0.length c1_0] 24 (0, 0))) (hr1_0 : Kd.C Kd.string w A1_0 l1_0.length l1_0) (hc1_0 : l1_0.length ≤ c1_0) (hb2 : w.heap[g2]? = some (.cells #[.int .i64 a2_0] 3 (0, 0))) (h : impl_FirstCuckooSeed_1.f k a0 l1_0 a2_0 = some r) :
    Calls Try.prog 74 #[.int .i64 a0, .pointer (some ⟨g1, 0, none⟩), .pointer (some ⟨g2, 0, none⟩)] w fun e w' => e = .returned (.bool r) ∧ Below w.heap.size w w' := by
  have HR1_0 := am hr1_0; have HC1_0 := am hc1_0; clear hr1_0 hc1_0; have BK1 := am hb1; clear hb1; have BK2 := am hb2; clear hb2; have HB := am (Below.refl w.heap.size w); have H : ((impl_pairs.f k a0 l1_0 a2_0).bind fun bt385 => ((impl_placed.f k bt385.1).bind fun t389 => (some t389))) = some r := h; clear h; replace H := Option.bind_eq_some_iff.mp H; obtain ⟨⟨t385, t386⟩, A40, H⟩ := H; (try dsimp -simprocs only at H); have A4 := am A40; clear A40; replace H := Option.bind_eq_some_iff.mp H; obtain ⟨t389, A50, H⟩ := H; (try dsimp -simprocs only at H); have A5 := am A50; clear A50; obtain rfl := Option.some.inj H; obtain ⟨hcz6_0, hfz6_0⟩ := cf1 (w := w) BK1; obtain ⟨hcz7_0, hfz7_0⟩ := cf1 (w := w) BK2
  go_enter Try.func74, Try.ntmps74
  go_wp2_with (first | ((with_reducible refine gate_callee (f := 60) rfl ?_); refine gL (some 11) Try.func60 #[.int .i64 a0, .slice A1_0 l1_0.length c1_0, .int .i64 a2_0] ?_; (with_reducible refine (impl_pairs.calls k a0 _ _ l1_0 a2_0 t385 t386 _ ?side1 ?side2 A4.out).mono ?_); (case side1 => exact Cz HR1_0.out); (case side2 => exact HC1_0.out); rintro e w8 ⟨v387, rfl, ho0, hb⟩; refine ⟨_, rfl, ?_⟩; have n0_ := am (Kd.S_lower (Kd.S_newB ho0 (g := g2) (o := .cells #[.int .i64 a2_0] 3 (0, 0)) (Kz BK2.out)) (below_size (w := w) (Bq))); have n1_ := Kb BK1 hb; have n2_ := Kb BK2 hb; have n3_ := Bc HB hb; clear BK1 BK2 HB; revert n0_ n1_ n2_ n3_; intro HO388 BK1 BK2 HB; (try clear hb); (try clear hb2); (try clear hk); (try clear hi); (try clear ho0); obtain ⟨Ao9, co9, eo9⟩ := Kd.S_slice HO388.out; subst eo9) | ((with_reducible refine gate_callee (f := 75) rfl ?_); refine gL (some 15) Try.func75 #[.slice Ao9 t385.length co9] ?_; (with_reducible refine (impl_placed.calls k _ _ t385 t389 _ ?side1 ?side2 A5.out).mono ?_); (case side1 => exact Cz ((Kd.S_reads' HO388.out).2.2)); (case side2 => exact (Kd.S_reads' HO388.out).2.1); rintro e w10 ⟨rfl, hb⟩; refine ⟨_, rfl, ?_⟩; have n0_ := am (Kd.S_below (by (with_reducible repeat (first | apply Kd.S_alloc | apply Kd.S_drewN | apply Kd.S_drew)); exact HO388.out) hb); have n1_ := Kb BK1 hb; have n2_ := Kb BK2 hb; have n3_ := Bc HB hb; clear HO388 BK1 BK2 HB; revert n0_ n1_ n2_ n3_; intro HO388 BK1 BK2 HB; (try clear hb); (try clear hb2); (try clear hk); (try clear hi)))
  go_ret
  exact ⟨eZ, Bq⟩

mutual
def impl_firstSeed_at_impl_FirstCuckooSeed_1.j0 : Nat → Int → Int → Bool → List ByteArray → Int → Option (Int × Bool)
  | 0, _, _, _, _, _ => none
  | k + 1, x0, x1, x25, x4000, x5000 => if x25 = true then (some (0, false)) else (impl_firstSeed_at_impl_FirstCuckooSeed_1.l0 k x1 x0 x4000 x5000)
def impl_firstSeed_at_impl_FirstCuckooSeed_1.l0 : Nat → Int → Int → List ByteArray → Int → Option (Int × Bool)
  | 0, _, _, _, _ => none
  | k + 1, x1, x8, x4000, x5000 => if x8 < x1 then ((impl_FirstCuckooSeed_1.f k x8 x4000 x5000).bind fun t390 => (if t390 = true then (some (x8, true)) else (impl_firstSeed_at_impl_FirstCuckooSeed_1.l0 k x1 (wrap64 (x8 + 1)) x4000 x5000))) else (some (0, false))
end
def impl_firstSeed_at_impl_FirstCuckooSeed_1.f (k : Nat) (a0 : Int) (a1 : Int)  (l3_0 : List ByteArray) (a4_0 : Int) : Option (Int × Bool) := if a0 < 0 then (impl_firstSeed_at_impl_FirstCuckooSeed_1.j0 k a0 a1 true l3_0 a4_0) else (if a0 > a1 then (impl_firstSeed_at_impl_FirstCuckooSeed_1.j0 k a0 a1 true l3_0 a4_0) else (if a1 > 10000 then (impl_firstSeed_at_impl_FirstCuckooSeed_1.j0 k a0 a1 true l3_0 a4_0) else (impl_firstSeed_at_impl_FirstCuckooSeed_1.j0 k a0 a1 (decide (a1 > (wrap64 (a0 + 100)))) l3_0 a4_0)))
theorem impl_firstSeed_at_impl_FirstCuckooSeed_1.calls (k : Nat) (a0 : Int) (a1 : Int)  (g3 : Nat) (A3_0 : Option Addr) (c3_0 : Nat) (l3_0 : List ByteArray) (g4 : Nat) (a4_0 : Int) (r1 : Int) (r2 : Bool) (w : World) (hb3 : w.heap[g3]? = some (.cells #[.slice A3_0 l3_0.length c3_0] 24 (0, 0))) (hr3_0 : Kd.C Kd.string w A3_0 l3_0.length l3_0) (hc3_0 : l3_0.length ≤ c3_0) (hb4 : w.heap[g4]? = some (.cells #[.int .i64 a4_0] 3 (0, 0))) (h : impl_firstSeed_at_impl_FirstCuckooSeed_1.f k a0 a1 l3_0 a4_0 = some (r1, r2)) :
    Calls Try.prog 73 #[.int .i64 a0, .int .i64 a1, .func (.func 74) #[] #[.pointer (some ⟨g3, 0, none⟩), .pointer (some ⟨g4, 0, none⟩)]] w fun e w' => e = .returned (.tuple #[.int .i64 r1, .bool r2]) ∧ Below w.heap.size w w' := by
  have HR3_0 := am hr3_0; have HC3_0 := am hc3_0; clear hr3_0 hc3_0; have BK3 := am hb3; clear hb3; have BK4 := am hb4; clear hb4; have HB := am (Below.refl w.heap.size w); have H : (if a0 < 0 then (impl_firstSeed_at_impl_FirstCuckooSeed_1.j0 k a0 a1 true l3_0 a4_0) else (if a0 > a1 then (impl_firstSeed_at_impl_FirstCuckooSeed_1.j0 k a0 a1 true l3_0 a4_0) else (if a1 > 10000 then (impl_firstSeed_at_impl_FirstCuckooSeed_1.j0 k a0 a1 true l3_0 a4_0) else (impl_firstSeed_at_impl_FirstCuckooSeed_1.j0 k a0 a1 (decide (a1 > (wrap64 (a0 + 100)))) l3_0 a4_0)))) = some (r1, r2) := h; clear h; have HC6 := am H; clear H
  go_enter Try.func73, Try.ntmps73
  go_upto_region 1 with (fail)
  go_cut [25] (fun v25 wc => ∃ (kq : Nat) (x25_5 : Bool), v25 = .bool x25_5 ∧ Aside0 (impl_firstSeed_at_impl_FirstCuckooSeed_1.j0 kq a0 a1 x25_5 l3_0 a4_0 = some (r1, r2)) ∧ Aside0 (kq ≤ k) ∧ Aside0 (wc.heap[g3]? = some (.cells #[(.slice A3_0 l3_0.length c3_0)] 24 (0, 0))) ∧ Aside0 (wc.heap[g4]? = some (.cells #[.int .i64 a4_0] 3 (0, 0))) ∧ Aside0 (Below w.heap.size w wc))
  case first =>
    have H := HC6.out; clear HC6
    by_cases c7 : a0 < 0
    · rw [if_pos c7] at H
      have c7b0 : decide (a0 < 0) = true := decide_eq_true c7; clear c7
      (first | rw [c7b0] | (simp only [i64_w, i32_w]; rw [c7b0]) | skip)
      have H' := am H; clear H
      go_wp2
      go_meet
      case rel => exact ⟨_, (true), wZ, H', ⟨by first | omega | exact Nat.le_refl _⟩, ⟨Kz BK3.out⟩, ⟨Kz BK4.out⟩, ⟨Bq⟩⟩
    · rw [if_neg c7] at H
      have c7b0 : decide (a0 < 0) = false := decide_eq_false c7; clear c7
      (first | rw [c7b0] | (simp only [i64_w, i32_w]; rw [c7b0]) | skip)
      by_cases c8 : a0 > a1
      · rw [if_pos c8] at H
        have c8b0 : decide (a1 < a0) = true := decide_eq_true c8; clear c8; have H' := am H; clear H
        go_wp2
        go_meet
        case rel => exact ⟨_, (true), wZ, H', ⟨by first | omega | exact Nat.le_refl _⟩, ⟨Kz BK3.out⟩, ⟨Kz BK4.out⟩, ⟨Bq⟩⟩
      · rw [if_neg c8] at H
        have c8b0 : decide (a1 < a0) = false := decide_eq_false c8; clear c8
        by_cases c9 : a1 > 10000
        · rw [if_pos c9] at H
          have c9b0 : decide (10000 < a1) = true := decide_eq_true c9; clear c9; have H' := am H; clear H
          go_wp2
          go_meet
          case rel => exact ⟨_, (true), wZ, H', ⟨by first | omega | exact Nat.le_refl _⟩, ⟨Kz BK3.out⟩, ⟨Kz BK4.out⟩, ⟨Bq⟩⟩
        · rw [if_neg c9] at H
          have c9b0 : decide (10000 < a1) = false := decide_eq_false c9; clear c9; have H' := am H; clear H
          go_wp2
          go_meet
          case rel => exact ⟨_, (decide (a1 > (wrap64 (a0 + 100)))), wZ, H', ⟨by first | omega | exact Nat.le_refl _⟩, ⟨Kz BK3.out⟩, ⟨Kz BK4.out⟩, ⟨Bq⟩⟩
  case rest =>
    clear HC6
    try clear p2
    try clear c3
    try clear p6
    try clear c7
    try clear c7b0
    try clear c8
    try clear c8b0
    try clear c9
    try clear c9b0
    obtain ⟨kq, x25_5, rfl, HA, HJ5, BK3, BK4, HB⟩ := hcut; cases kq with
    | zero => exact absurd HA.out (by simp [impl_firstSeed_at_impl_FirstCuckooSeed_1.j0])
    | succ kj5 =>
      have H := HA.out; clear HA
      simp only [impl_firstSeed_at_impl_FirstCuckooSeed_1.j0] at H
      by_cases c10 : x25_5 = true
      · subst c10
        rw [if_pos rfl] at H
        simp only [Option.some.injEq, Prod.mk.injEq] at H
        obtain ⟨rfl, rfl⟩ := H
        go_wp2
        go_ret2
        exact ⟨eZ, Bq⟩
      · replace c10 := Bool.eq_false_iff.mpr c10
        subst c10
        rw [if_neg (show ¬ (false = true) by decide)] at H; have H' := am H; clear H
        go_wp2
        go_loopg [8] kj5 (fun kq v8 w' => ∃ (x8_2 : Int), v8 = .int .i64 x8_2 ∧ Aside0 (impl_firstSeed_at_impl_FirstCuckooSeed_1.l0 kq a1 x8_2 l3_0 a4_0 = some (r1, r2)) ∧ Aside0 (kq ≤ kj5) ∧ Aside0 (w'.heap[g3]? = some (.cells #[(.slice A3_0 l3_0.length c3_0)] 24 (0, 0))) ∧ Aside0 (w'.heap[g4]? = some (.cells #[.int .i64 a4_0] 3 (0, 0))) ∧ Aside0 (Below w.heap.size w w'))
        case atStart => exact ⟨(a0), wZ, H', ⟨Nat.le_refl _⟩, ⟨Kz BK3.out⟩, ⟨Kz BK4.out⟩, ⟨Bq⟩⟩
        case round =>
          clear H'
          try clear c1
          try clear p2
          try clear c3
          try clear p6
          try clear c7
          try clear c7b0
          try clear c8
          try clear c8b0
          try clear c9
          try clear c9b0
          try clear c10
          try clear p2
          try clear p6
          obtain ⟨x8_2, rfl, HA, HK2, BK3, BK4, HB⟩ := hrel; cases gk with
          | zero => exact absurd HA.out (by simp [impl_firstSeed_at_impl_FirstCuckooSeed_1.l0])
          | succ k2 =>
            have H := HA.out; clear HA
            simp only [impl_firstSeed_at_impl_FirstCuckooSeed_1.l0] at H
            by_cases c11 : x8_2 < a1
            · rw [if_pos c11] at H
              have c11b0 : decide (x8_2 < a1) = true := decide_eq_true c11; clear c11; replace H := Option.bind_eq_some_iff.mp H; obtain ⟨t390, A120, H⟩ := H; (try dsimp -simprocs only at H); have A12 := am A120; clear A120
              by_cases c13 : t390 = true
              · subst c13
                rw [if_pos rfl] at H
                simp only [Option.some.injEq, Prod.mk.injEq] at H
                obtain ⟨rfl, rfl⟩ := H
                go_wp2_with (first | (go_at_call 74; (with_reducible refine (impl_FirstCuckooSeed_1.calls k2 x8_2 g3 A3_0 c3_0 l3_0 g4 a4_0 true _ ?side1 ?side2 ?side3 ?side4 A12.out).mono ?_); (case side1 => exact Kz BK3.out); (case side2 => exact Cz (Kd.C_below HR3_0.out HB.out)); (case side3 => exact HC3_0.out); (case side4 => exact Kz BK4.out); rintro e w14 ⟨rfl, hb⟩; have n0_ := Kb BK3 hb; have n1_ := Kb BK4 hb; have n2_ := Bc HB hb; clear BK3 BK4 HB; revert n0_ n1_ n2_; intro BK3 BK4 HB; (try clear hb); (try clear hb2); (try clear hk); (try clear hi)))
                go_ret2
                exact ⟨eZ, Bq⟩
              · replace c13 := Bool.eq_false_iff.mpr c13
                subst c13
                rw [if_neg (show ¬ (false = true) by decide)] at H; have H' := am H; clear H
                go_wp2_with (first | (go_at_call 74; (with_reducible refine (impl_FirstCuckooSeed_1.calls k2 x8_2 g3 A3_0 c3_0 l3_0 g4 a4_0 false _ ?side1 ?side2 ?side3 ?side4 A12.out).mono ?_); (case side1 => exact Kz BK3.out); (case side2 => exact Cz (Kd.C_below HR3_0.out HB.out)); (case side3 => exact HC3_0.out); (case side4 => exact Kz BK4.out); rintro e w15 ⟨rfl, hb⟩; have n0_ := Kb BK3 hb; have n1_ := Kb BK4 hb; have n2_ := Bc HB hb; clear BK3 BK4 HB; revert n0_ n1_ n2_; intro BK3 BK4 HB; (try clear hb); (try clear hb2); (try clear hk); (try clear hi)))
                go_roundg k2
                case measure => have := HJ5.out; have := HK2.out; omega
                case rel => exact ⟨(wrap64 (x8_2 + 1)), wZ, H', ⟨by have := HJ5.out; have := HK2.out; omega⟩, ⟨Kz BK3.out⟩, ⟨Kz BK4.out⟩, ⟨Bq⟩⟩
            · rw [if_neg c11] at H
              have c11b0 : decide (x8_2 < a1) = false := decide_eq_false c11; clear c11
              simp only [Option.some.injEq, Prod.mk.injEq] at H
              obtain ⟨rfl, rfl⟩ := H
              go_wp2
              go_ret2
              exact ⟨eZ, Bq⟩

def impl_FirstCuckooSeed.f (k : Nat) (l0 : List ByteArray) (a1 : Int) (a2 : Int) (a3 : Int) : Option (Int × Bool) := (impl_AreKeys.f k l0).bind fun t393 => (if t393 = true then ((impl_cellsOk.f a1).bind fun t394 => (if t394 = true then ((impl_firstSeed_at_impl_FirstCuckooSeed_1.f k a2 a3 l0 a1).bind fun bt395 => (some (bt395.1, bt395.2))) else (some (0, false)))) else (some (0, false)))
theorem impl_FirstCuckooSeed.calls (k : Nat) (A0 : Option Addr) (c0 : Nat) (l0 : List ByteArray) (a1 : Int) (a2 : Int) (a3 : Int) (r1 : Int) (r2 : Bool) (w : World) (hr0 : Kd.C Kd.string w A0 l0.length l0) (hc0 : l0.length ≤ c0) (h : impl_FirstCuckooSeed.f k l0 a1 a2 a3 = some (r1, r2)) :
    Calls Try.prog 20 #[.slice A0 l0.length c0, .int .i64 a1, .int .i64 a2, .int .i64 a3] w fun e w' => e = .returned (.tuple #[.int .i64 r1, .bool r2]) ∧ Below w.heap.size w w' := by
  have HR0 := am hr0; have HC0 := am hc0; clear hr0 hc0; have HB := am (Below.refl w.heap.size w); have H : ((impl_AreKeys.f k l0).bind fun t393 => (if t393 = true then ((impl_cellsOk.f a1).bind fun t394 => (if t394 = true then ((impl_firstSeed_at_impl_FirstCuckooSeed_1.f k a2 a3 l0 a1).bind fun bt395 => (some (bt395.1, bt395.2))) else (some (0, false)))) else (some (0, false)))) = some (r1, r2) := h; clear h; replace H := Option.bind_eq_some_iff.mp H; obtain ⟨t393, A50, H⟩ := H; (try dsimp -simprocs only at H); have A5 := am A50; clear A50
  by_cases c6 : t393 = true
  · subst c6
    rw [if_pos rfl] at H; replace H := Option.bind_eq_some_iff.mp H; obtain ⟨t394, A70, H⟩ := H; (try dsimp -simprocs only at H); have A7 := am A70; clear A70
    by_cases c8 : t394 = true
    · subst c8
      rw [if_pos rfl] at H; replace H := Option.bind_eq_some_iff.mp H; obtain ⟨⟨t395, t396⟩, A90, H⟩ := H; (try dsimp -simprocs only at H); have A9 := am A90; clear A90
      simp only [Option.some.injEq, Prod.mk.injEq] at H
      obtain ⟨rfl, rfl⟩ := H
      go_enter Try.func20, Try.ntmps20
      go_wp2_with (first | ((with_reducible refine gate_dst (N := 4) rfl ?_); refine bE 4 #[.slice A0 l0.length c0] 24 ?_; intro gb391 hg w10 hbox hb; have n0_ := Bb HB hb; have n1_ := am (hbox); have n2_ := Gl HB hg; have n3_ := Gl HB hg; clear HB; revert n0_ n1_ n2_ n3_; intro HB BK391 GW391 GE391; clear hb hbox hg) | ((with_reducible refine gate_dst (N := 5) rfl ?_); refine bE 5 #[.int .i64 a1] 3 ?_; intro gb392 hg w11 hbox hb; have n0_ := Kb BK391 hb; have n1_ := Bc HB hb; have n2_ := am (hbox); have n3_ := Gm HB hg; have n4_ := Gm HB hg; have n5_ := Nl BK391 hg; have n6_ := Ng BK391 hg; clear BK391 HB; revert n0_ n1_ n2_ n3_ n4_ n5_ n6_; intro BK391 HB BK392 GW392 GE392 NB391_392 NB392_391; clear hb hbox hg; have hnb12 := NB391_392.out; have hnc12 := NB392_391.out; obtain ⟨hcz13_0, hfz13_0⟩ := cf1 (w := w11) BK391) | ((with_reducible refine gate_callee (f := 72) rfl ?_); refine gL (some 11) Try.func72 #[.slice A0 l0.length c0] ?_; (with_reducible refine (impl_AreKeys.calls k _ _ l0 true _ ?side1 ?side2 A5.out).mono ?_); (case side1 => exact Cz (Kd.C_below HR0.out HB.out)); (case side2 => exact HC0.out); rintro e w' ⟨rfl, ⟨nd, rfl⟩⟩; refine ⟨_, rfl, ?_⟩; obtain ⟨hcz14_0, hfz14_0⟩ := cf1 (w := w11) BK392) | (go_at_call 67; (with_reducible refine (impl_cellsOk.calls a1 true _ A7.out).mono ?_); rintro e w' ⟨rfl, ⟨nd, rfl⟩⟩) | ((with_reducible refine gate_callee (f := 73) rfl ?_); refine gL (some 21) Try.func73 #[.int .i64 a2, .int .i64 a3, .func (.func 74) #[] #[.pointer (some ⟨gb391, 0, none⟩), .pointer (some ⟨gb392, 0, none⟩)]] ?_; (with_reducible refine (impl_firstSeed_at_impl_FirstCuckooSeed_1.calls k a2 a3  gb391 A0 c0 l0 gb392 a1 t395 t396 _ ?side1 ?side2 ?side3 ?side4 A9.out).mono ?_); (case side1 => exact Kz BK391.out); (case side2 => exact Cz (Kd.C_below HR0.out (Bq))); (case side3 => exact HC0.out); (case side4 => exact Kz BK392.out); rintro e w15 ⟨rfl, hb⟩; refine ⟨_, rfl, ?_⟩; have n0_ := Kb BK391 hb; have n1_ := Kb BK392 hb; have n2_ := Bc HB hb; clear BK391 BK392 HB; revert n0_ n1_ n2_; intro BK391 BK392 HB; (try clear hb); (try clear hb2); (try clear hk); (try clear hi)))
      go_ret2
      exact ⟨eZ, Bq⟩
    · replace c8 := Bool.eq_false_iff.mpr c8
      subst c8
      rw [if_neg (show ¬ (false = true) by decide)] at H
      simp only [Option.some.injEq, Prod.mk.injEq] at H
      obtain ⟨rfl, rfl⟩ := H
      go_enter Try.func20, Try.ntmps20
      go_wp2_with (first | ((with_reducible refine gate_dst (N := 4) rfl ?_); refine bE 4 #[.slice A0 l0.length c0] 24 ?_; intro gb391 hg w16 hbox hb; have n0_ := Bb HB hb; have n1_ := am (hbox); have n2_ := Gl HB hg; have n3_ := Gl HB hg; clear HB; revert n0_ n1_ n2_ n3_; intro HB BK391 GW391 GE391; clear hb hbox hg) | ((with_reducible refine gate_dst (N := 5) rfl ?_); refine bE 5 #[.int .i64 a1] 3 ?_; intro gb392 hg w17 hbox hb; have n0_ := Kb BK391 hb; have n1_ := Bc HB hb; have n2_ := am (hbox); have n3_ := Gm HB hg; have n4_ := Gm HB hg; have n5_ := Nl BK391 hg; have n6_ := Ng BK391 hg; clear BK391 HB; revert n0_ n1_ n2_ n3_ n4_ n5_ n6_; intro BK391 HB BK392 GW392 GE392 NB391_392 NB392_391; clear hb hbox hg; have hnb18 := NB391_392.out; have hnc18 := NB392_391.out; obtain ⟨hcz19_0, hfz19_0⟩ := cf1 (w := w17) BK391) | ((with_reducible refine gate_callee (f := 72) rfl ?_); refine gL (some 11) Try.func72 #[.slice A0 l0.length c0] ?_; (with_reducible refine (impl_AreKeys.calls k _ _ l0 true _ ?side1 ?side2 A5.out).mono ?_); (case side1 => exact Cz (Kd.C_below HR0.out HB.out)); (case side2 => exact HC0.out); rintro e w' ⟨rfl, ⟨nd, rfl⟩⟩; refine ⟨_, rfl, ?_⟩; obtain ⟨hcz20_0, hfz20_0⟩ := cf1 (w := w17) BK392) | (go_at_call 67; (with_reducible refine (impl_cellsOk.calls a1 false _ A7.out).mono ?_); rintro e w' ⟨rfl, ⟨nd, rfl⟩⟩))
      go_ret2
      exact ⟨eZ, Bq⟩
  · replace c6 := Bool.eq_false_iff.mpr c6
    subst c6
    rw [if_neg (show ¬ (false = true) by decide)] at H
    simp only [Option.some.injEq, Prod.mk.injEq] at H
    obtain ⟨rfl, rfl⟩ := H
    go_enter Try.func20, Try.ntmps20
    go_wp2_with (first | ((with_reducible refine gate_dst (N := 4) rfl ?_); refine bE 4 #[.slice A0 l0.length c0] 24 ?_; intro gb391 hg w21 hbox hb; have n0_ := Bb HB hb; have n1_ := am (hbox); have n2_ := Gl HB hg; have n3_ := Gl HB hg; clear HB; revert n0_ n1_ n2_ n3_; intro HB BK391 GW391 GE391; clear hb hbox hg) | ((with_reducible refine gate_dst (N := 5) rfl ?_); refine bE 5 #[.int .i64 a1] 3 ?_; intro gb392 hg w22 hbox hb; have n0_ := Kb BK391 hb; have n1_ := Bc HB hb; have n2_ := am (hbox); have n3_ := Gm HB hg; have n4_ := Gm HB hg; have n5_ := Nl BK391 hg; have n6_ := Ng BK391 hg; clear BK391 HB; revert n0_ n1_ n2_ n3_ n4_ n5_ n6_; intro BK391 HB BK392 GW392 GE392 NB391_392 NB392_391; clear hb hbox hg; have hnb23 := NB391_392.out; have hnc23 := NB392_391.out; obtain ⟨hcz24_0, hfz24_0⟩ := cf1 (w := w22) BK391) | ((with_reducible refine gate_callee (f := 72) rfl ?_); refine gL (some 11) Try.func72 #[.slice A0 l0.length c0] ?_; (with_reducible refine (impl_AreKeys.calls k _ _ l0 false _ ?side1 ?side2 A5.out).mono ?_); (case side1 => exact Cz (Kd.C_below HR0.out HB.out)); (case side2 => exact HC0.out); rintro e w' ⟨rfl, ⟨nd, rfl⟩⟩; refine ⟨_, rfl, ?_⟩))
    go_ret2
    exact ⟨eZ, Bq⟩

def spec_l1In.f (a0 : Int) (a1 : Int) (a2 : Int) : Option (Bool) := if a0 ≥ a1 then (some (decide (a0 ≤ a2))) else (some false)
theorem spec_l1In.calls (a0 : Int) (a1 : Int) (a2 : Int) (r : Bool) (w : World) (h : spec_l1In.f a0 a1 a2 = some r) :
    Calls Try.prog 76 #[.int .i64 a0, .int .i64 a1, .int .i64 a2] w fun e w' => e = .returned (.bool r) ∧ Drawn0 w w' := by
  have H : (if a0 ≥ a1 then (some (decide (a0 ≤ a2))) else (some false)) = some r := h; clear h
  by_cases c4 : a0 ≥ a1
  · rw [if_pos c4] at H
    have c4b0 : decide (a1 ≤ a0) = true := decide_eq_true c4; clear c4; obtain rfl := Option.some.inj H
    go_enter Try.func76, Try.ntmps76
    go_wp2
    go_ret
    exact ⟨by first | rfl | (simp; done) | (simp [*]; done), by repeat (first | exact Drawn0.refl _ | apply Drawn0.step)⟩
  · rw [if_neg c4] at H
    have c4b0 : decide (a1 ≤ a0) = false := decide_eq_false c4; clear c4; obtain rfl := Option.some.inj H
    go_enter Try.func76, Try.ntmps76
    go_wp2
    go_ret
    exact ⟨by first | rfl | (simp; done) | (simp [*]; done), by repeat (first | exact Drawn0.refl _ | apply Drawn0.step)⟩

def spec_cuSize.f (a0 : Int) (a1 : Int) : Option (Bool) := (spec_l1In.f a0 0 9999).bind fun t397 => (if t397 = true then ((spec_l1In.f a1 1 64).bind fun t398 => (some t398)) else (some false))
theorem spec_cuSize.calls (a0 : Int) (a1 : Int) (r : Bool) (w : World) (h : spec_cuSize.f a0 a1 = some r) :
    Calls Try.prog 122 #[.int .i64 a0, .int .i64 a1] w fun e w' => e = .returned (.bool r) ∧ Drawn0 w w' := by
  have H : ((spec_l1In.f a0 0 9999).bind fun t397 => (if t397 = true then ((spec_l1In.f a1 1 64).bind fun t398 => (some t398)) else (some false))) = some r := h; clear h; replace H := Option.bind_eq_some_iff.mp H; obtain ⟨t397, A30, H⟩ := H; (try dsimp -simprocs only at H); have A3 := am A30; clear A30
  by_cases c4 : t397 = true
  · subst c4
    rw [if_pos rfl] at H; replace H := Option.bind_eq_some_iff.mp H; obtain ⟨t398, A50, H⟩ := H; (try dsimp -simprocs only at H); have A5 := am A50; clear A50; obtain rfl := Option.some.inj H
    go_enter Try.func122, Try.ntmps122
    go_wp2_with (first | ((with_reducible refine gate_callee (f := 76) rfl ?_); refine gL (some 6) Try.func76 #[.int .i64 a0, .int .i64 0, .int .i64 9999] ?_; (with_reducible refine (spec_l1In.calls a0 0 9999 true _ A3.out).mono ?_); rintro e w' ⟨rfl, ⟨nd, rfl⟩⟩; refine ⟨_, rfl, ?_⟩) | (go_at_call 76; (with_reducible refine (spec_l1In.calls a1 1 64 t398 _ A5.out).mono ?_); rintro e w' ⟨rfl, ⟨nd, rfl⟩⟩))
    go_ret
    exact ⟨by first | rfl | (simp; done) | (simp [*]; done), by repeat (first | exact Drawn0.refl _ | apply Drawn0.step)⟩
  · replace c4 := Bool.eq_false_iff.mpr c4
    subst c4
    rw [if_neg (show ¬ (false = true) by decide)] at H; obtain rfl := Option.some.inj H
    go_enter Try.func122, Try.ntmps122
    go_wp2_with (first | ((with_reducible refine gate_callee (f := 76) rfl ?_); refine gL (some 6) Try.func76 #[.int .i64 a0, .int .i64 0, .int .i64 9999] ?_; (with_reducible refine (spec_l1In.calls a0 0 9999 false _ A3.out).mono ?_); rintro e w' ⟨rfl, ⟨nd, rfl⟩⟩; refine ⟨_, rfl, ?_⟩))
    go_ret
    exact ⟨by first | rfl | (simp; done) | (simp [*]; done), by repeat (first | exact Drawn0.refl _ | apply Drawn0.step)⟩

end Go.Proofs.Ytephjmmkggcmeaa.PL
