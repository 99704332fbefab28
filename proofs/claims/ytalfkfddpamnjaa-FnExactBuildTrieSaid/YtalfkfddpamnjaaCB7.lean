import Derived.Test.YtalfkfddpamnjaaCB2
import Derived.Test.YtalfkfddpamnjaaCB3
import Derived.Test.YtalfkfddpamnjaaCB5
import Derived.Test.YtalfkfddpamnjaaCB6
-- printed by a program of this session (wip/gp) out of the translation; Lean checks it
namespace Go.Proofs.Ytalfkfddpamnjaa.PA
open Go.RowKit Go.Proofs.YtalfkfddpamnjaaW.PrintWords Go.Proofs.YtalfkfddpamnjaaW.PrintLast Go.Proofs.YtalfkfddpamnjaaW.PrintMore Go.Proofs.YtalfkfddpamnjaaSq
attribute [local go_sem] max2_int min2_int max_two min_two max_three min_three max_four min_four   -- for this text's walks alone
attribute [local go_sem] Go.Proofs.YtalfkfddpamnjaaGp.str_geq Go.Proofs.YtalfkfddpamnjaaGp.str_gtr Go.Proofs.YtalfkfddpamnjaaGp.str_leq
set_option linter.unusedVariables false
set_option linter.unusedSimpArgs false

def laws_szStringS.l0 : Nat → List ByteArray → Int → Int → Option (Int)
 | 0, _, _, _ => none
 | k + 1, x0, x1, x5 => if x5 < (x0.length : Int) then (if 0 ≤ x5 then (if (wrap64 (x1 - ((rdOf ByteArray.empty x0 x5).size : Int))) < 0 then (some (-1)) else (laws_szStringS.l0 k x0 (wrap64 (x1 - ((rdOf ByteArray.empty x0 x5).size : Int))) (wrap64 (x5 + 1)))) else (none)) else (some x1)
def laws_szStringS.f (k : Nat) (l0 : List ByteArray) (a1 : Int) : Option (Int) := if (wrap64 (a1 - (l0.length : Int))) < 0 then (some (-1)) else (laws_szStringS.l0 k l0 (wrap64 (a1 - (l0.length : Int))) 0)
theorem laws_szStringS.mono_l : ∀ k, (∀ y0 y1 y2, LeO (laws_szStringS.l0 k y0 y1 y2) (laws_szStringS.l0 (k + 1) y0 y1 y2))
 | 0 => fun _ _ _ r h => by simp [laws_szStringS.l0] at h
 | k + 1 => by
  have ih0 := laws_szStringS.mono_l k
  ·intro y0 y1 y2
   unfold laws_szStringS.l0
   repeat' first | (with_reducible first | exact ih0 _ _ _ | exact LeO.refl _ | exact LeO.none _ | refine LeO.ite ?_ ?_ | refine LeO.bind ?_ (fun _ => ?_)) | exact LeO.none _ | refine LeO.ite ?_ ?_ | refine LeO.bind ?_ (fun _ => ?_)
theorem laws_szStringS.mono : ∀ a0 a1 k, LeO (laws_szStringS.f k a0 a1) (laws_szStringS.f (k + 1) a0 a1) := by
 intro a0 a1 k; have ih0 := laws_szStringS.mono_l k
 unfold laws_szStringS.f
 repeat' first | (with_reducible first | exact ih0 _ _ _ | exact LeO.refl _ | exact LeO.none _ | refine LeO.ite ?_ ?_ | refine LeO.bind ?_ (fun _ => ?_)) | exact LeO.none _ | refine LeO.ite ?_ ?_ | refine LeO.bind ?_ (fun _ => ?_)
set_option maxHeartbeats 8000000 in
set_option maxRecDepth 100000 in
theorem laws_szStringS.calls (k : Nat) (A0 : Option Addr) (c0 : Nat) (l0 : List ByteArray) (a1 : Int) (r : Int) (w : World) (hr0 : Kd.C Kd.string w A0 l0.length l0) (hc0 : l0.length ≤ c0) (h : laws_szStringS.f k l0 a1 = some r) :
  Calls Try.prog 21 #[.slice A0 l0.length c0, .int .i64 a1] w fun e w' => e = .returned (.int .i64 r) ∧ Drawn0 w w' := by
 have HR0 := Aside0.mk hr0; have HC0 := Aside0.mk hc0; clear hr0 hc0; have H : (if (wrap64 (a1 - (l0.length : Int))) < 0 then (some (-1)) else (laws_szStringS.l0 k l0 (wrap64 (a1 - (l0.length : Int))) 0)) = some r := h; clear h
 by_cases c3 : (wrap64 (a1 - (l0.length : Int))) < 0
 ·rw [if_pos c3] at H
  have c3b0 : decide ((wrap64 (a1 - (l0.length : Int))) < 0) = true := decide_eq_true c3; clear c3; obtain rfl := Option.some.inj H
  go_enter Try.func21, Try.ntmps21
  go_wp2
  go_ret
  exact ⟨by first | rfl | (simp; done) | (simp [*]; done), by repeat (first | exact Drawn0.refl _ | apply Drawn0.step)⟩
 ·rw [if_neg c3] at H
  have c3b0 : decide ((wrap64 (a1 - (l0.length : Int))) < 0) = false := decide_eq_false c3; clear c3; have H' := Aside0.mk H; clear H
  go_enter Try.func21, Try.ntmps21
  go_wp2
  go_loopg [1, 5] k (fun kq v1 v5 w' => ∃ (x1_1 : Int) (x5_1 : Int), v1 = .int .i64 x1_1 ∧ v5 = .int .i64 x5_1 ∧ Aside0 (laws_szStringS.l0 kq l0 x1_1 x5_1 = some r) ∧ Aside0 (kq ≤ k) ∧ Drawn0 w w')
  case atStart => exact ⟨(wrap64 (a1 - (l0.length : Int))), (0), (by first | rfl | (simp; done) | (simp [*]; done)), (by first | rfl | (simp; done) | (simp [*]; done)), H', ⟨Nat.le_refl _⟩, by repeat (first | exact Drawn0.refl _ | apply Drawn0.step)⟩
  case round =>
   clear H'
   try clear c2
   try clear p2
   try clear c3
   try clear c3b0
   obtain ⟨x1_1, x5_1, rfl, rfl, HA, HK1, ⟨m1, rfl⟩⟩ := hrel; cases gk with
   | zero => exact absurd HA.out (by simp [laws_szStringS.l0])
   | succ k1 =>
    have H := HA.out; clear HA
    simp only [laws_szStringS.l0] at H
    by_cases c4 : x5_1 < (l0.length : Int)
    ·rw [if_pos c4] at H
     have c4b0 : decide (x5_1 < (l0.length : Int)) = true := decide_eq_true c4; clear c4
     by_cases c5 : 0 ≤ x5_1
     ·rw [if_pos c5] at H
      have c5b0 : decide (0 ≤ x5_1) = true := decide_eq_true c5; clear c5
      by_cases c6 : (wrap64 (x1_1 - ((rdOf ByteArray.empty l0 x5_1).size : Int))) < 0
      ·rw [if_pos c6] at H
       have c6b0 : decide ((wrap64 (x1_1 - ((rdOf ByteArray.empty l0 x5_1).size : Int))) < 0) = true := decide_eq_true c6; clear c6; obtain rfl := Option.some.inj H; have p622 : 0 ≤ (x5_1 : Int) := dT; have q622 : x5_1 < (l0.length : Int) := dT; obtain ⟨ad622, e622, hx622_0⟩ := Kd.at_string HR0.out x5_1 p622 q622; cases e622; replace p622 := eq_true p622; replace q622 := eq_true q622
       go_wp2
       go_ret
       exact ⟨by first | rfl | (simp; done) | (simp [*]; done), by repeat (first | exact Drawn0.refl _ | apply Drawn0.step)⟩
      ·rw [if_neg c6] at H
       have c6b0 : decide ((wrap64 (x1_1 - ((rdOf ByteArray.empty l0 x5_1).size : Int))) < 0) = false := decide_eq_false c6; clear c6; have H' := Aside0.mk H; clear H; have p622 : 0 ≤ (x5_1 : Int) := dT; have q622 : x5_1 < (l0.length : Int) := dT; obtain ⟨ad622, e622, hx622_0⟩ := Kd.at_string HR0.out x5_1 p622 q622; cases e622; replace p622 := eq_true p622; replace q622 := eq_true q622
       go_wp2
       go_roundg k1
       case measure => have := HK1.out; omega
       case rel => exact ⟨(wrap64 (x1_1 - ((rdOf ByteArray.empty l0 x5_1).size : Int))), (wrap64 (x5_1 + 1)), (by first | rfl | (simp; done) | (simp [*]; done)), (by first | rfl | (simp; done) | (simp [*]; done)), H', ⟨by have := HK1.out; omega⟩, by repeat (first | exact Drawn0.refl _ | apply Drawn0.step)⟩
     ·rw [if_neg c5] at H
      exact absurd H (by simp)
    ·rw [if_neg c4] at H
     have c4b0 : decide (x5_1 < (l0.length : Int)) = false := decide_eq_false c4; clear c4; obtain rfl := Option.some.inj H
     go_wp2
     go_ret
     exact ⟨by first | rfl | (simp; done) | (simp [*]; done), by repeat (first | exact Drawn0.refl _ | apply Drawn0.step)⟩

def spec_BuildTrie.f (k : Nat) (l0 : List ByteArray) : Option (Int × List Int × Int × List Int × ByteArray × Bool) := (spec_biKeys.f k l0).bind fun t624 => (if t624 = true then ((spec_trOf.f k l0).bind fun bt625 => (some (bt625.1, bt625.2.1, bt625.2.2.1, bt625.2.2.2.1, bt625.2.2.2.2, true))) else (some (0, ([] : List Int), 0, ([] : List Int), (⟨#[]⟩ : ByteArray), false)))
theorem spec_BuildTrie.mono : ∀ a0 k, LeO (spec_BuildTrie.f k a0) (spec_BuildTrie.f (k + 1) a0) := by
 intro a0 k
 unfold spec_BuildTrie.f
 repeat' first | (with_reducible first | exact spec_biKeys.mono _ _ | exact spec_trOf.mono _ _ | exact LeO.refl _ | exact LeO.none _ | refine LeO.ite ?_ ?_ | refine LeO.bind ?_ (fun _ => ?_)) | exact LeO.none _ | refine LeO.ite ?_ ?_ | refine LeO.bind ?_ (fun _ => ?_)
set_option maxHeartbeats 8000000 in
set_option maxRecDepth 100000 in
theorem spec_BuildTrie.calls (k : Nat) (A0 : Option Addr) (c0 : Nat) (l0 : List ByteArray) (r1 : Int) (r2 : List Int) (r3 : Int) (r4 : List Int) (r5 : ByteArray) (r6 : Bool) (w : World) (hr0 : Kd.C Kd.string w A0 l0.length l0) (hc0 : l0.length ≤ c0) (h : spec_BuildTrie.f k l0 = some (r1, r2, r3, r4, r5, r6)) :
  Calls Try.prog 22 #[.slice A0 l0.length c0] w fun e w' => ∃ v1_ v3_ : Value, e = .returned (.tuple #[.agg #[.int .i64 r1, v1_, .int .i64 r3, v3_, .string r5], .bool r6]) ∧ Kd.R (Kd.int .i64) 3 w' w.heap.size (fun k_ => some k_ ≠ (v3_ : Value).ownBlock) v1_ r2 ∧ Kd.R (Kd.int .i64) 3 w' w.heap.size (fun k_ => some k_ ≠ (v1_ : Value).ownBlock) v3_ r4 ∧ Below w.heap.size w w' := by
 have hu32 := Try.underlying32; have HR0 := Aside0.mk hr0; have HC0 := Aside0.mk hc0; clear hr0 hc0; have HB := Aside0.mk (Below.refl w.heap.size w); have H : ((spec_biKeys.f k l0).bind fun t624 => (if t624 = true then ((spec_trOf.f k l0).bind fun bt625 => (some (bt625.1, bt625.2.1, bt625.2.2.1, bt625.2.2.2.1, bt625.2.2.2.2, true))) else (some (0, ([] : List Int), 0, ([] : List Int), (⟨#[]⟩ : ByteArray), false)))) = some (r1, r2, r3, r4, r5, r6) := h; clear h; replace H := Option.bind_eq_some_iff.mp H; obtain ⟨t624, A20, H⟩ := H; replace H : (if t624 = true then ((spec_trOf.f k l0).bind fun bt625 => (some (bt625.1, bt625.2.1, bt625.2.2.1, bt625.2.2.2.1, bt625.2.2.2.2, true))) else (some (0, ([] : List Int), 0, ([] : List Int), (⟨#[]⟩ : ByteArray), false))) = some (r1, r2, r3, r4, r5, r6) := H; have A2 := Aside0.mk A20; clear A20
 by_cases c3 : t624 = true
 ·subst c3
  have H1 : ((spec_trOf.f k l0).bind fun bt625 => (some (bt625.1, bt625.2.1, bt625.2.2.1, bt625.2.2.2.1, bt625.2.2.2.2, true))) = some (r1, r2, r3, r4, r5, r6) := by rw [if_pos rfl] at H; exact H
  clear H; have H := H1; clear H1; replace H := Option.bind_eq_some_iff.mp H; obtain ⟨⟨t625, t626, t629, t630, t633⟩, A40, H⟩ := H; replace H : (some (t625, t626, t629, t630, t633, true)) = some (r1, r2, r3, r4, r5, r6) := H; have A4 := Aside0.mk A40; clear A40
  simp only [Option.some.injEq, Prod.mk.injEq] at H
  obtain ⟨rfl, rfl, rfl, rfl, rfl, rfl⟩ := H
  go_enter Try.func22, Try.ntmps22
  go_wp2_with (first | ((with_reducible refine gate_dst (N := 2) rfl ?_); refine bE 2 #[.int .i64 0, .slice none 0 0, .int .i64 0, .slice none 0 0, .string (⟨#[]⟩ : ByteArray)] 32 ?_; intro gb623 hg w5 hbox hb; have n0_ := Bb HB hb; have n1_ := Aside0.mk (hbox); have n2_ := Gl HB hg; have n3_ := Gl HB hg; clear HB; revert n0_ n1_ n2_ n3_; intro HB BK623 GW623 GE623; clear hb hbox hg) | ((with_reducible refine gate_callee (f := 53) rfl ?_); refine gL (some 5) Try.func53 #[.slice A0 l0.length c0] ?_; (with_reducible refine (spec_biKeys.calls k _ _ l0 true _ ?side1 ?side2 A2.out).mono ?_); (case side1 => exact Cz (Kd.C_below HR0.out HB.out)); (case side2 => exact HC0.out); rintro e w' ⟨rfl, ⟨nd, rfl⟩⟩; refine ⟨_, rfl, ?_⟩; (try (rw [drewN_self w5]; generalize hq_ : World.drewN w5 _ = w5; have n0_ : Aside0 (w5.heap[gb623]? = some (.cells #[.int .i64 0, .slice none 0 0, .int .i64 0, .slice none 0 0, .string (⟨#[]⟩ : ByteArray)] 32 (0, 0))) := ⟨by rw [← hq_]; exact (Kz BK623.out)⟩; have n1_ : Aside0 (Below w.heap.size w w5) := ⟨by rw [← hq_]; exact (Bq)⟩; clear BK623 HB hq_; revert n0_ n1_; intro BK623 HB))) | ((with_reducible refine gate_callee (f := 54) rfl ?_); refine gL (some 9) Try.func54 #[.slice A0 l0.length c0] ?_; (with_reducible refine (spec_trOf.calls k _ _ l0 t625 t626 t629 t630 t633 _ ?side1 ?side2 A4.out).mono ?_); (case side1 => exact Cz (Kd.C_below HR0.out HB.out)); (case side2 => exact HC0.out); rintro e w6 ⟨v627, v631, rfl, ho0, ho1, hb⟩; refine ⟨_, rfl, ?_⟩; have n0_ := Rm ho0 HB; have n1_ := Rm ho1 HB; have n2_ := Kb BK623 hb; have n3_ := Bc HB hb; clear BK623 HB; revert n0_ n1_ n2_ n3_; intro HO628 HO632 BK623 HB; (try clear hb); (try clear hb2); (try clear hk); (try clear hi); (try clear ho0); (try clear ho1); obtain ⟨hcz7_0, hcz7_1, hcz7_2, hcz7_3, hcz7_4, hfz7_0, hfz7_1, hfz7_2, hfz7_3, hfz7_4⟩ := cf5 (w := w6) BK623; obtain ⟨Ao8, co8, eo8⟩ := Kd.R_slice HO628.out; subst eo8; obtain ⟨Ao9, co9, eo9⟩ := Kd.R_slice HO632.out; subst eo9))
  refine bodyPost_ret (results_ct rfl _ _ gb623 32 #[.int .i64 t625, .slice Ao8 t626.length co8, .int .i64 t629, .slice Ao9 t630.length co9, .string t633] (0, 0) _ rfl (by (with_reducible repeat (first | refine blk_drewN ?_ _ | refine blk_drew ?_ | refine blk_alloc ?_ _)); refine blk_put (cs := #[.int .i64 t625, .slice Ao8 t626.length co8, .int .i64 t629, .slice Ao9 t630.length co9, .string (⟨#[]⟩ : ByteArray)]) ?_ 4 _ rfl; (with_reducible repeat (first | refine blk_drewN ?_ _ | refine blk_drew ?_ | refine blk_alloc ?_ _)); refine blk_put (cs := #[.int .i64 t625, .slice Ao8 t626.length co8, .int .i64 t629, .slice none 0 0, .string (⟨#[]⟩ : ByteArray)]) ?_ 3 _ rfl; (with_reducible repeat (first | refine blk_drewN ?_ _ | refine blk_drew ?_ | refine blk_alloc ?_ _)); refine blk_put (cs := #[.int .i64 t625, .slice Ao8 t626.length co8, .int .i64 0, .slice none 0 0, .string (⟨#[]⟩ : ByteArray)]) ?_ 2 _ rfl; (with_reducible repeat (first | refine blk_drewN ?_ _ | refine blk_drew ?_ | refine blk_alloc ?_ _)); refine blk_put (cs := #[.int .i64 t625, .slice none 0 0, .int .i64 0, .slice none 0 0, .string (⟨#[]⟩ : ByteArray)]) ?_ 1 _ rfl; (with_reducible repeat (first | refine blk_drewN ?_ _ | refine blk_drew ?_ | refine blk_alloc ?_ _)); refine blk_put (cs := #[.int .i64 0, .slice none 0 0, .int .i64 0, .slice none 0 0, .string (⟨#[]⟩ : ByteArray)]) ?_ 0 _ rfl; (with_reducible repeat (first | refine blk_drewN ?_ _ | refine blk_drew ?_ | refine blk_alloc ?_ _)); exact BK623.out) Try.underlying32 rfl (by kernel_rfl)) rfl ?_; exact ⟨_, _, by first | rfl | (simp [errW_none, errW_some] <;> rfl) | (simp [*, errW_none, errW_some] <;> rfl), Rz (Kd.R_mono (Kd.R_far (p := ⟨gb623, 4, none⟩) (Kd.R_far (p := ⟨gb623, 3, none⟩) (Kd.R_far (p := ⟨gb623, 2, none⟩) (Kd.R_far (p := ⟨gb623, 1, none⟩) (Kd.R_far (p := ⟨gb623, 0, none⟩) (Kd.R_types HO628.out BK623.out (by decide)) (fun _ hk => hk.2) (.int .i64 t625)) (fun _ hk => hk.2) (.slice Ao8 t626.length co8)) (fun _ hk => hk.2) (.int .i64 t629)) (fun _ hk => hk.2) (.slice Ao9 t630.length co9)) (fun _ hk => hk.2) (.string t633)) (fun _ hk => hk.1)), Rz (Kd.R_mono (Kd.R_far (p := ⟨gb623, 4, none⟩) (Kd.R_far (p := ⟨gb623, 3, none⟩) (Kd.R_far (p := ⟨gb623, 2, none⟩) (Kd.R_far (p := ⟨gb623, 1, none⟩) (Kd.R_far (p := ⟨gb623, 0, none⟩) (Kd.R_types HO632.out BK623.out (by decide)) (fun _ hk => hk.2) (.int .i64 t625)) (fun _ hk => hk.2) (.slice Ao8 t626.length co8)) (fun _ hk => hk.2) (.int .i64 t629)) (fun _ hk => hk.2) (.slice Ao9 t630.length co9)) (fun _ hk => hk.2) (.string t633)) (fun _ hk => hk.1)), Bq⟩
 ·replace c3 := Bool.eq_false_iff.mpr c3
  subst c3
  have H1 : (some (0, ([] : List Int), 0, ([] : List Int), (⟨#[]⟩ : ByteArray), false)) = some (r1, r2, r3, r4, r5, r6) := by rw [if_neg (show ¬ (false = true) by decide)] at H; exact H
  clear H; have H := H1; clear H1
  simp only [Option.some.injEq, Prod.mk.injEq] at H
  obtain ⟨rfl, rfl, rfl, rfl, rfl, rfl⟩ := H
  go_enter Try.func22, Try.ntmps22
  go_wp2_with (first | ((with_reducible refine gate_dst (N := 2) rfl ?_); refine bE 2 #[.int .i64 0, .slice none 0 0, .int .i64 0, .slice none 0 0, .string (⟨#[]⟩ : ByteArray)] 32 ?_; intro gb623 hg w10 hbox hb; have n0_ := Bb HB hb; have n1_ := Aside0.mk (hbox); have n2_ := Gl HB hg; have n3_ := Gl HB hg; clear HB; revert n0_ n1_ n2_ n3_; intro HB BK623 GW623 GE623; clear hb hbox hg) | ((with_reducible refine gate_callee (f := 53) rfl ?_); refine gL (some 5) Try.func53 #[.slice A0 l0.length c0] ?_; (with_reducible refine (spec_biKeys.calls k _ _ l0 false _ ?side1 ?side2 A2.out).mono ?_); (case side1 => exact Cz (Kd.C_below HR0.out HB.out)); (case side2 => exact HC0.out); rintro e w' ⟨rfl, ⟨nd, rfl⟩⟩; refine ⟨_, rfl, ?_⟩; (try (rw [drewN_self w10]; generalize hq_ : World.drewN w10 _ = w10; have n0_ : Aside0 (w10.heap[gb623]? = some (.cells #[.int .i64 0, .slice none 0 0, .int .i64 0, .slice none 0 0, .string (⟨#[]⟩ : ByteArray)] 32 (0, 0))) := ⟨by rw [← hq_]; exact (Kz BK623.out)⟩; have n1_ : Aside0 (Below w.heap.size w w10) := ⟨by rw [← hq_]; exact (Bq)⟩; clear BK623 HB hq_; revert n0_ n1_; intro BK623 HB)); obtain ⟨hcz11_0, hcz11_1, hcz11_2, hcz11_3, hcz11_4, hfz11_0, hfz11_1, hfz11_2, hfz11_3, hfz11_4⟩ := cf5 (w := w10) BK623))
  refine bodyPost_ret (results_ct rfl _ _ gb623 32 #[.int .i64 0, .slice none 0 0, .int .i64 0, .slice none 0 0, .string (⟨#[]⟩ : ByteArray)] (0, 0) _ rfl (by (with_reducible repeat (first | refine blk_drewN ?_ _ | refine blk_drew ?_ | refine blk_alloc ?_ _)); refine blk_put (cs := #[.int .i64 0, .slice none 0 0, .int .i64 0, .slice none 0 0, .string (⟨#[]⟩ : ByteArray)]) ?_ 4 _ rfl; (with_reducible repeat (first | refine blk_drewN ?_ _ | refine blk_drew ?_ | refine blk_alloc ?_ _)); refine blk_put (cs := #[.int .i64 0, .slice none 0 0, .int .i64 0, .slice none 0 0, .string (⟨#[]⟩ : ByteArray)]) ?_ 3 _ rfl; (with_reducible repeat (first | refine blk_drewN ?_ _ | refine blk_drew ?_ | refine blk_alloc ?_ _)); refine blk_put (cs := #[.int .i64 0, .slice none 0 0, .int .i64 0, .slice none 0 0, .string (⟨#[]⟩ : ByteArray)]) ?_ 2 _ rfl; (with_reducible repeat (first | refine blk_drewN ?_ _ | refine blk_drew ?_ | refine blk_alloc ?_ _)); refine blk_put (cs := #[.int .i64 0, .slice none 0 0, .int .i64 0, .slice none 0 0, .string (⟨#[]⟩ : ByteArray)]) ?_ 1 _ rfl; (with_reducible repeat (first | refine blk_drewN ?_ _ | refine blk_drew ?_ | refine blk_alloc ?_ _)); refine blk_put (cs := #[.int .i64 0, .slice none 0 0, .int .i64 0, .slice none 0 0, .string (⟨#[]⟩ : ByteArray)]) ?_ 0 _ rfl; (with_reducible repeat (first | refine blk_drewN ?_ _ | refine blk_drew ?_ | refine blk_alloc ?_ _)); exact BK623.out) Try.underlying32 rfl (by kernel_rfl)) rfl ?_; exact ⟨_, _, by first | rfl | (simp [errW_none, errW_some] <;> rfl) | (simp [*, errW_none, errW_some] <;> rfl), by first | exact Kd.R_nil _ _ _ _ _ | exact Kd.N_nil _ _ _ _ _ | exact Kd.V_nil _ _ _ _ _ | exact Kd.Q_nil _ _ _ _ _ | exact Kd.S_nil _ _ _ _ _, by first | exact Kd.R_nil _ _ _ _ _ | exact Kd.N_nil _ _ _ _ _ | exact Kd.V_nil _ _ _ _ _ | exact Kd.Q_nil _ _ _ _ _ | exact Kd.S_nil _ _ _ _ _, Bq⟩

def laws_toStringS.l0 : Nat → List ByteArray → List ByteArray → Int → Option (List ByteArray)
 | 0, _, _, _ => none
 | k + 1, x0, x3, x4 => if x4 < (x0.length : Int) then (if 0 ≤ x4 then (if x4 < (x3.length : Int) then (laws_toStringS.l0 k x0 (x3.set (x4 : Int).toNat (rdOf ByteArray.empty x0 x4)) (wrap64 (x4 + 1))) else (none)) else (none)) else (some x3)
def laws_toStringS.f (k : Nat) (l0 : List ByteArray) : Option (List ByteArray) := if 0 ≤ (l0.length : Int) then (if ((l0.length : Int) : Int).toNat ≤ 17592186044416 then (laws_toStringS.l0 k l0 (List.replicate ((l0.length : Int) : Int).toNat (⟨#[]⟩ : ByteArray)) 0) else (none)) else (none)
theorem laws_toStringS.mono_l : ∀ k, (∀ y0 y1 y2, LeO (laws_toStringS.l0 k y0 y1 y2) (laws_toStringS.l0 (k + 1) y0 y1 y2))
 | 0 => fun _ _ _ r h => by simp [laws_toStringS.l0] at h
 | k + 1 => by
  have ih0 := laws_toStringS.mono_l k
  ·intro y0 y1 y2
   unfold laws_toStringS.l0
   repeat' first | (with_reducible first | exact ih0 _ _ _ | exact LeO.refl _ | exact LeO.none _ | refine LeO.ite ?_ ?_ | refine LeO.bind ?_ (fun _ => ?_)) | exact LeO.none _ | refine LeO.ite ?_ ?_ | refine LeO.bind ?_ (fun _ => ?_)
theorem laws_toStringS.mono : ∀ a0 k, LeO (laws_toStringS.f k a0) (laws_toStringS.f (k + 1) a0) := by
 intro a0 k; have ih0 := laws_toStringS.mono_l k
 unfold laws_toStringS.f
 repeat' first | (with_reducible first | exact ih0 _ _ _ | exact LeO.refl _ | exact LeO.none _ | refine LeO.ite ?_ ?_ | refine LeO.bind ?_ (fun _ => ?_)) | exact LeO.none _ | refine LeO.ite ?_ ?_ | refine LeO.bind ?_ (fun _ => ?_)
set_option maxHeartbeats 8000000 in
set_option maxRecDepth 100000 in
theorem laws_toStringS.calls (k : Nat) (A0 : Option Addr) (c0 : Nat) (l0 : List ByteArray) (r : List ByteArray) (w : World) (hr0 : Kd.C Kd.string w A0 l0.length l0) (hc0 : l0.length ≤ c0) (h : laws_toStringS.f k l0 = some r) :
  Calls Try.prog 23 #[.slice A0 l0.length c0] w fun e w' => ∃ v0_ : Value, e = .returned (v0_) ∧ Kd.R Kd.string 9 w' w.heap.size (fun _ => True) v0_ r ∧ Below w.heap.size w w' := by
 have HR0 := Aside0.mk hr0; have HC0 := Aside0.mk hc0; clear hr0 hc0; have HB := Aside0.mk (Below.refl w.heap.size w); have H : (if 0 ≤ (l0.length : Int) then (if ((l0.length : Int) : Int).toNat ≤ 17592186044416 then (laws_toStringS.l0 k l0 (List.replicate ((l0.length : Int) : Int).toNat (⟨#[]⟩ : ByteArray)) 0) else (none)) else (none)) = some r := h; clear h
 by_cases c2 : 0 ≤ (l0.length : Int)
 ·rw [if_pos c2] at H
  have c2b0 := eq_true c2; have c2b1 : decide (0 ≤ (l0.length : Int)) = true := decide_eq_true c2; clear c2
  by_cases c3 : ((l0.length : Int) : Int).toNat ≤ 17592186044416
  ·rw [if_pos c3] at H
   have c3b0 := eq_true c3; have c3b1 : decide (((l0.length : Int) : Int).toNat ≤ 17592186044416) = true := decide_eq_true c3; clear c3; obtain ⟨y634, hy634⟩ : ∃ y_ : List ByteArray, y_ = (List.replicate ((l0.length : Int) : Int).toNat (⟨#[]⟩ : ByteArray)) := ⟨_, rfl⟩
   replace H : (laws_toStringS.l0 k l0 y634 0) = some r := by first | (rw [hy634]; with_reducible exact H) | (have H2_ := (Option.bind_some _ _).symm.trans H; rw [hy634]; with_reducible exact H2_) | (have H2_ := (Option.bind_some _ _).symm.trans H; with_reducible exact H2_) | with_reducible exact H | (rw [hy634]; exact H) | exact H
   have Ny634 := Aside0.mk hy634; clear hy634; have H' := Aside0.mk H; clear H
   go_enter Try.func23, Try.ntmps23
   go_wp2_with (first | ((with_reducible refine gate_dst (N := 7) rfl ?_); refine Kd.R_make Kd.string _ 9 rfl (N := 7) rfl 38 _ _ rfl (l0.length : Int) rfl rfl Try.underlying38 (.string ⟨#[]⟩) 16 info9 rfl (by decide) (by omega) (⟨#[]⟩ : ByteArray) (ok := fun _ => True) (okp := fun _ => True) rfl (fun _ hk => hk) trivial (dT) (Nat.le_trans (Nat.mul_le_mul_right _ (dT : (l0.length : Int).toNat ≤ 17592186044416)) (by omega)) (Below.refl _ _) (Nat.le_refl _) ?_; intro v635 w4 ho5 hb hg_ hnew_; clear hg_ hnew_; (first | rw [← Ny634.out] at ho5 | (simp only [Int.reduceToNat] at ho5; rw [← Ny634.out] at ho5)); have n0_ := Rl ho5 HB; have n1_ := Bb HB hb; clear HB; revert n0_ n1_; intro HO636 HB; clear hb ho5))
   (try simp only [Act.put, List.setIfInBounds_toArray, List.set_cons_zero, List.set_cons_succ])
   go_loopg [4] k (fun kq v4 w' => ∃ (x3_1 : List ByteArray) (x4_1 : Int), v4 = .int .i64 x4_1 ∧ Aside0 (laws_toStringS.l0 kq l0 x3_1 x4_1 = some r) ∧ Aside0 (kq ≤ k) ∧ Aside0 (Kd.R Kd.string 9 w' w.heap.size (fun _ => True) v635 x3_1) ∧ Aside0 (Below w.heap.size w w'))
   case atStart => exact ⟨(y634), (0), (by first | rfl | (simp; done) | (simp [*]; done)), H', ⟨Nat.le_refl _⟩, ⟨Rz HO636.out⟩, ⟨Bz HB.out⟩⟩
   case round =>
    clear H'
    try clear c2
    try clear c2b0
    try clear c2b1
    try clear p2
    try clear c3
    try clear c3b0
    try clear c3b1
    obtain ⟨x3_1, x4_1, rfl, HA, HK1, HO_3, HB⟩ := hrel; cases gk with
    | zero => exact absurd HA.out (by simp [laws_toStringS.l0])
    | succ k1 =>
     have H := HA.out; clear HA
     simp only [laws_toStringS.l0] at H
     by_cases c6 : x4_1 < (l0.length : Int)
     ·rw [if_pos c6] at H
      have c6b0 : decide (x4_1 < (l0.length : Int)) = true := decide_eq_true c6; clear c6
      by_cases c7 : 0 ≤ x4_1
      ·rw [if_pos c7] at H
       have c7b0 : decide (0 ≤ x4_1) = true := decide_eq_true c7; clear c7
       by_cases c8 : x4_1 < (x3_1.length : Int)
       ·rw [if_pos c8] at H
        have c8b0 : decide (x4_1 < (x3_1.length : Int)) = true := decide_eq_true c8; clear c8; obtain ⟨y638, hy638⟩ : ∃ y_ : List ByteArray, y_ = (x3_1.set (x4_1 : Int).toNat (rdOf ByteArray.empty l0 x4_1)) := ⟨_, rfl⟩
        replace H : (laws_toStringS.l0 k1 l0 y638 (wrap64 (x4_1 + 1))) = some r := by first | (rw [hy638]; with_reducible exact H) | (have H2_ := (Option.bind_some _ _).symm.trans H; rw [hy638]; with_reducible exact H2_) | (have H2_ := (Option.bind_some _ _).symm.trans H; with_reducible exact H2_) | with_reducible exact H | (rw [hy638]; exact H) | exact H
        have Ny638 := Aside0.mk hy638; clear hy638; have H' := Aside0.mk H; clear H; have p637 : 0 ≤ (x4_1 : Int) := dT; have q637 : x4_1 < (l0.length : Int) := dT; obtain ⟨ad637, e637, hx637_0⟩ := Kd.at_string HR0.out x4_1 p637 q637; cases e637; replace hx637_0 := (HB.out.cell (World.block_lt_of_cell? w _ hx637_0)).trans hx637_0; replace p637 := eq_true p637; replace q637 := eq_true q637; have p9 : 0 ≤ (x4_1 : Int) := dT; have q9 : (x4_1 : Int) < ((x3_1.length : Int) : Int) := dT; obtain ⟨go9, co9, eo9, gb9, gl9, cl9, HG9⟩ := Kd.R_form HO_3.out (by omega)
        (first | cases eo9 | (injection eo9 with ea_ en_ ec_; (first | subst ea_ | (injection ea_ with ea_; subst ea_)); subst ec_; clear en_))
        have GB9 := Aside0.mk gb9; have GG9 := Aside0.mk HG9; clear gb9 gl9 HG9; obtain ⟨hx9_0, hf9_0⟩ := Kd.R_celln (⟨#[]⟩ : ByteArray) HO_3.out (x4_1 : Int) p9 q9; replace p9 := eq_true p9; replace q9 := eq_true q9; have HP10 := Kd.R_putg HO_3.out (x4_1 : Int) (rdOf ByteArray.empty l0 x4_1)
        go_wp2_with (first | ((with_reducible refine gate_store (t := 9) (p := 20) rfl ?_); refine store_event (t := 9) (p := 20) (v := ?vo_w11) (w1 := (wr.setCell ⟨go9, (x4_1 : Int).toNat, none⟩ (.string (rdOf ByteArray.empty l0 x4_1)))) ?hg ?ho ?hn ?hr ?_; (case ho => rfl); (case hg => rfl); (case hn => rfl); (case hr => first | (go_simp; done) | (go_simp; rfl)); intro w11 hw; have hg : wr.grownBy w11 (some go9) := (by rw [hw]; exact HP10.2); have hp_ : Kd.R Kd.string 9 w11 w.heap.size (fun _ => True) (.slice (some ⟨go9, 0, none⟩) x3_1.length co9) y638 := (by rw [hw, Ny638.out]; exact HP10.1); clear HP10; have n0_ := Aside0.mk (hp_); have n1_ := Aside0.mk ((by rw [hw]; exact below_set (HB.out) GB9.out : Below w.heap.size w w11)); clear HO_3 HB; revert n0_ n1_; intro HO_3 HB; clear hg hw hp_))
        go_roundg k1
        case measure => have := HK1.out; omega
        case rel => exact ⟨(y638), (wrap64 (x4_1 + 1)), (by first | rfl | (simp; done) | (simp [*]; done)), H', ⟨by have := HK1.out; omega⟩, ⟨Rz HO_3.out⟩, ⟨Bz HB.out⟩⟩
       ·rw [if_neg c8] at H
        exact absurd H (by simp)
      ·rw [if_neg c7] at H
       exact absurd H (by simp)
     ·rw [if_neg c6] at H
      have c6b0 : decide (x4_1 < (l0.length : Int)) = false := decide_eq_false c6; clear c6; obtain rfl := Option.some.inj H
      go_wp2
      go_ret
      exact ⟨_, by first | rfl | (simp [errW_none, errW_some] <;> rfl) | (simp [*, errW_none, errW_some] <;> rfl), Rz HO_3.out, Bz HB.out⟩
  ·rw [if_neg c3] at H
   exact absurd H (by simp)
 ·rw [if_neg c2] at H
  exact absurd H (by simp)

def impl_BuildTrie.f (k : Nat) (l0 : List ByteArray) : Option (Int × List Int × Int × List Int × ByteArray × Bool) := (impl_AreKeys.f k l0).bind fun t640 => (if t640 = true then ((impl_trie.f k l0).bind fun bt641 => (some (bt641.1, bt641.2.1, bt641.2.2.1, bt641.2.2.2.1, bt641.2.2.2.2, true))) else (some (0, ([] : List Int), 0, ([] : List Int), (⟨#[]⟩ : ByteArray), false)))
theorem impl_BuildTrie.mono : ∀ a0 k, LeO (impl_BuildTrie.f k a0) (impl_BuildTrie.f (k + 1) a0) := by
 intro a0 k
 unfold impl_BuildTrie.f
 repeat' first | (with_reducible first | exact impl_AreKeys.mono _ _ | exact impl_trie.mono _ _ | exact LeO.refl _ | exact LeO.none _ | refine LeO.ite ?_ ?_ | refine LeO.bind ?_ (fun _ => ?_)) | exact LeO.none _ | refine LeO.ite ?_ ?_ | refine LeO.bind ?_ (fun _ => ?_)
set_option maxHeartbeats 8000000 in
set_option maxRecDepth 100000 in
theorem impl_BuildTrie.calls (k : Nat) (A0 : Option Addr) (c0 : Nat) (l0 : List ByteArray) (r1 : Int) (r2 : List Int) (r3 : Int) (r4 : List Int) (r5 : ByteArray) (r6 : Bool) (w : World) (hr0 : Kd.C Kd.string w A0 l0.length l0) (hc0 : l0.length ≤ c0) (h : impl_BuildTrie.f k l0 = some (r1, r2, r3, r4, r5, r6)) :
  Calls Try.prog 24 #[.slice A0 l0.length c0] w fun e w' => ∃ v1_ v3_ : Value, e = .returned (.tuple #[.agg #[.int .i64 r1, v1_, .int .i64 r3, v3_, .string r5], .bool r6]) ∧ Kd.R (Kd.int .i64) 3 w' w.heap.size (fun k_ => some k_ ≠ (v3_ : Value).ownBlock) v1_ r2 ∧ Kd.R (Kd.int .i64) 3 w' w.heap.size (fun k_ => some k_ ≠ (v1_ : Value).ownBlock) v3_ r4 ∧ Below w.heap.size w w' := by
 have hu32 := Try.underlying32; have HR0 := Aside0.mk hr0; have HC0 := Aside0.mk hc0; clear hr0 hc0; have HB := Aside0.mk (Below.refl w.heap.size w); have H : ((impl_AreKeys.f k l0).bind fun t640 => (if t640 = true then ((impl_trie.f k l0).bind fun bt641 => (some (bt641.1, bt641.2.1, bt641.2.2.1, bt641.2.2.2.1, bt641.2.2.2.2, true))) else (some (0, ([] : List Int), 0, ([] : List Int), (⟨#[]⟩ : ByteArray), false)))) = some (r1, r2, r3, r4, r5, r6) := h; clear h; replace H := Option.bind_eq_some_iff.mp H; obtain ⟨t640, A20, H⟩ := H; replace H : (if t640 = true then ((impl_trie.f k l0).bind fun bt641 => (some (bt641.1, bt641.2.1, bt641.2.2.1, bt641.2.2.2.1, bt641.2.2.2.2, true))) else (some (0, ([] : List Int), 0, ([] : List Int), (⟨#[]⟩ : ByteArray), false))) = some (r1, r2, r3, r4, r5, r6) := H; have A2 := Aside0.mk A20; clear A20
 by_cases c3 : t640 = true
 ·subst c3
  have H1 : ((impl_trie.f k l0).bind fun bt641 => (some (bt641.1, bt641.2.1, bt641.2.2.1, bt641.2.2.2.1, bt641.2.2.2.2, true))) = some (r1, r2, r3, r4, r5, r6) := by rw [if_pos rfl] at H; exact H
  clear H; have H := H1; clear H1; replace H := Option.bind_eq_some_iff.mp H; obtain ⟨⟨t641, t642, t645, t646, t649⟩, A40, H⟩ := H; replace H : (some (t641, t642, t645, t646, t649, true)) = some (r1, r2, r3, r4, r5, r6) := H; have A4 := Aside0.mk A40; clear A40
  simp only [Option.some.injEq, Prod.mk.injEq] at H
  obtain ⟨rfl, rfl, rfl, rfl, rfl, rfl⟩ := H
  go_enter Try.func24, Try.ntmps24
  go_wp2_with (first | ((with_reducible refine gate_dst (N := 2) rfl ?_); refine bE 2 #[.int .i64 0, .slice none 0 0, .int .i64 0, .slice none 0 0, .string (⟨#[]⟩ : ByteArray)] 32 ?_; intro gb639 hg w5 hbox hb; have n0_ := Bb HB hb; have n1_ := Aside0.mk (hbox); have n2_ := Gl HB hg; have n3_ := Gl HB hg; clear HB; revert n0_ n1_ n2_ n3_; intro HB BK639 GW639 GE639; clear hb hbox hg) | ((with_reducible refine gate_callee (f := 55) rfl ?_); refine gL (some 5) Try.func55 #[.slice A0 l0.length c0] ?_; (with_reducible refine (impl_AreKeys.calls k _ _ l0 true _ ?side1 ?side2 A2.out).mono ?_); (case side1 => exact Cz (Kd.C_below HR0.out HB.out)); (case side2 => exact HC0.out); rintro e w' ⟨rfl, ⟨nd, rfl⟩⟩; refine ⟨_, rfl, ?_⟩; (try (rw [drewN_self w5]; generalize hq_ : World.drewN w5 _ = w5; have n0_ : Aside0 (w5.heap[gb639]? = some (.cells #[.int .i64 0, .slice none 0 0, .int .i64 0, .slice none 0 0, .string (⟨#[]⟩ : ByteArray)] 32 (0, 0))) := ⟨by rw [← hq_]; exact (Kz BK639.out)⟩; have n1_ : Aside0 (Below w.heap.size w w5) := ⟨by rw [← hq_]; exact (Bq)⟩; clear BK639 HB hq_; revert n0_ n1_; intro BK639 HB))) | ((with_reducible refine gate_callee (f := 56) rfl ?_); refine gL (some 9) Try.func56 #[.slice A0 l0.length c0] ?_; (with_reducible refine (impl_trie.calls k _ _ l0 t641 t642 t645 t646 t649 _ ?side1 ?side2 A4.out).mono ?_); (case side1 => exact Cz (Kd.C_below HR0.out HB.out)); (case side2 => exact HC0.out); rintro e w6 ⟨v643, v647, rfl, ho0, ho1, hb⟩; refine ⟨_, rfl, ?_⟩; have n0_ := Rm ho0 HB; have n1_ := Rm ho1 HB; have n2_ := Kb BK639 hb; have n3_ := Bc HB hb; clear BK639 HB; revert n0_ n1_ n2_ n3_; intro HO644 HO648 BK639 HB; (try clear hb); (try clear hb2); (try clear hk); (try clear hi); (try clear ho0); (try clear ho1); obtain ⟨hcz7_0, hcz7_1, hcz7_2, hcz7_3, hcz7_4, hfz7_0, hfz7_1, hfz7_2, hfz7_3, hfz7_4⟩ := cf5 (w := w6) BK639; obtain ⟨Ao8, co8, eo8⟩ := Kd.R_slice HO644.out; subst eo8; obtain ⟨Ao9, co9, eo9⟩ := Kd.R_slice HO648.out; subst eo9))
  refine bodyPost_ret (results_ct rfl _ _ gb639 32 #[.int .i64 t641, .slice Ao8 t642.length co8, .int .i64 t645, .slice Ao9 t646.length co9, .string t649] (0, 0) _ rfl (by (with_reducible repeat (first | refine blk_drewN ?_ _ | refine blk_drew ?_ | refine blk_alloc ?_ _)); refine blk_put (cs := #[.int .i64 t641, .slice Ao8 t642.length co8, .int .i64 t645, .slice Ao9 t646.length co9, .string (⟨#[]⟩ : ByteArray)]) ?_ 4 _ rfl; (with_reducible repeat (first | refine blk_drewN ?_ _ | refine blk_drew ?_ | refine blk_alloc ?_ _)); refine blk_put (cs := #[.int .i64 t641, .slice Ao8 t642.length co8, .int .i64 t645, .slice none 0 0, .string (⟨#[]⟩ : ByteArray)]) ?_ 3 _ rfl; (with_reducible repeat (first | refine blk_drewN ?_ _ | refine blk_drew ?_ | refine blk_alloc ?_ _)); refine blk_put (cs := #[.int .i64 t641, .slice Ao8 t642.length co8, .int .i64 0, .slice none 0 0, .string (⟨#[]⟩ : ByteArray)]) ?_ 2 _ rfl; (with_reducible repeat (first | refine blk_drewN ?_ _ | refine blk_drew ?_ | refine blk_alloc ?_ _)); refine blk_put (cs := #[.int .i64 t641, .slice none 0 0, .int .i64 0, .slice none 0 0, .string (⟨#[]⟩ : ByteArray)]) ?_ 1 _ rfl; (with_reducible repeat (first | refine blk_drewN ?_ _ | refine blk_drew ?_ | refine blk_alloc ?_ _)); refine blk_put (cs := #[.int .i64 0, .slice none 0 0, .int .i64 0, .slice none 0 0, .string (⟨#[]⟩ : ByteArray)]) ?_ 0 _ rfl; (with_reducible repeat (first | refine blk_drewN ?_ _ | refine blk_drew ?_ | refine blk_alloc ?_ _)); exact BK639.out) Try.underlying32 rfl (by kernel_rfl)) rfl ?_; exact ⟨_, _, by first | rfl | (simp [errW_none, errW_some] <;> rfl) | (simp [*, errW_none, errW_some] <;> rfl), Rz (Kd.R_mono (Kd.R_far (p := ⟨gb639, 4, none⟩) (Kd.R_far (p := ⟨gb639, 3, none⟩) (Kd.R_far (p := ⟨gb639, 2, none⟩) (Kd.R_far (p := ⟨gb639, 1, none⟩) (Kd.R_far (p := ⟨gb639, 0, none⟩) (Kd.R_types HO644.out BK639.out (by decide)) (fun _ hk => hk.2) (.int .i64 t641)) (fun _ hk => hk.2) (.slice Ao8 t642.length co8)) (fun _ hk => hk.2) (.int .i64 t645)) (fun _ hk => hk.2) (.slice Ao9 t646.length co9)) (fun _ hk => hk.2) (.string t649)) (fun _ hk => hk.1)), Rz (Kd.R_mono (Kd.R_far (p := ⟨gb639, 4, none⟩) (Kd.R_far (p := ⟨gb639, 3, none⟩) (Kd.R_far (p := ⟨gb639, 2, none⟩) (Kd.R_far (p := ⟨gb639, 1, none⟩) (Kd.R_far (p := ⟨gb639, 0, none⟩) (Kd.R_types HO648.out BK639.out (by decide)) (fun _ hk => hk.2) (.int .i64 t641)) (fun _ hk => hk.2) (.slice Ao8 t642.length co8)) (fun _ hk => hk.2) (.int .i64 t645)) (fun _ hk => hk.2) (.slice Ao9 t646.length co9)) (fun _ hk => hk.2) (.string t649)) (fun _ hk => hk.1)), Bq⟩
 ·replace c3 := Bool.eq_false_iff.mpr c3
  subst c3
  have H1 : (some (0, ([] : List Int), 0, ([] : List Int), (⟨#[]⟩ : ByteArray), false)) = some (r1, r2, r3, r4, r5, r6) := by rw [if_neg (show ¬ (false = true) by decide)] at H; exact H
  clear H; have H := H1; clear H1
  simp only [Option.some.injEq, Prod.mk.injEq] at H
  obtain ⟨rfl, rfl, rfl, rfl, rfl, rfl⟩ := H
  go_enter Try.func24, Try.ntmps24
  go_wp2_with (first | ((with_reducible refine gate_dst (N := 2) rfl ?_); refine bE 2 #[.int .i64 0, .slice none 0 0, .int .i64 0, .slice none 0 0, .string (⟨#[]⟩ : ByteArray)] 32 ?_; intro gb639 hg w10 hbox hb; have n0_ := Bb HB hb; have n1_ := Aside0.mk (hbox); have n2_ := Gl HB hg; have n3_ := Gl HB hg; clear HB; revert n0_ n1_ n2_ n3_; intro HB BK639 GW639 GE639; clear hb hbox hg) | ((with_reducible refine gate_callee (f := 55) rfl ?_); refine gL (some 5) Try.func55 #[.slice A0 l0.length c0] ?_; (with_reducible refine (impl_AreKeys.calls k _ _ l0 false _ ?side1 ?side2 A2.out).mono ?_); (case side1 => exact Cz (Kd.C_below HR0.out HB.out)); (case side2 => exact HC0.out); rintro e w' ⟨rfl, ⟨nd, rfl⟩⟩; refine ⟨_, rfl, ?_⟩; (try (rw [drewN_self w10]; generalize hq_ : World.drewN w10 _ = w10; have n0_ : Aside0 (w10.heap[gb639]? = some (.cells #[.int .i64 0, .slice none 0 0, .int .i64 0, .slice none 0 0, .string (⟨#[]⟩ : ByteArray)] 32 (0, 0))) := ⟨by rw [← hq_]; exact (Kz BK639.out)⟩; have n1_ : Aside0 (Below w.heap.size w w10) := ⟨by rw [← hq_]; exact (Bq)⟩; clear BK639 HB hq_; revert n0_ n1_; intro BK639 HB)); obtain ⟨hcz11_0, hcz11_1, hcz11_2, hcz11_3, hcz11_4, hfz11_0, hfz11_1, hfz11_2, hfz11_3, hfz11_4⟩ := cf5 (w := w10) BK639))
  refine bodyPost_ret (results_ct rfl _ _ gb639 32 #[.int .i64 0, .slice none 0 0, .int .i64 0, .slice none 0 0, .string (⟨#[]⟩ : ByteArray)] (0, 0) _ rfl (by (with_reducible repeat (first | refine blk_drewN ?_ _ | refine blk_drew ?_ | refine blk_alloc ?_ _)); refine blk_put (cs := #[.int .i64 0, .slice none 0 0, .int .i64 0, .slice none 0 0, .string (⟨#[]⟩ : ByteArray)]) ?_ 4 _ rfl; (with_reducible repeat (first | refine blk_drewN ?_ _ | refine blk_drew ?_ | refine blk_alloc ?_ _)); refine blk_put (cs := #[.int .i64 0, .slice none 0 0, .int .i64 0, .slice none 0 0, .string (⟨#[]⟩ : ByteArray)]) ?_ 3 _ rfl; (with_reducible repeat (first | refine blk_drewN ?_ _ | refine blk_drew ?_ | refine blk_alloc ?_ _)); refine blk_put (cs := #[.int .i64 0, .slice none 0 0, .int .i64 0, .slice none 0 0, .string (⟨#[]⟩ : ByteArray)]) ?_ 2 _ rfl; (with_reducible repeat (first | refine blk_drewN ?_ _ | refine blk_drew ?_ | refine blk_alloc ?_ _)); refine blk_put (cs := #[.int .i64 0, .slice none 0 0, .int .i64 0, .slice none 0 0, .string (⟨#[]⟩ : ByteArray)]) ?_ 1 _ rfl; (with_reducible repeat (first | refine blk_drewN ?_ _ | refine blk_drew ?_ | refine blk_alloc ?_ _)); refine blk_put (cs := #[.int .i64 0, .slice none 0 0, .int .i64 0, .slice none 0 0, .string (⟨#[]⟩ : ByteArray)]) ?_ 0 _ rfl; (with_reducible repeat (first | refine blk_drewN ?_ _ | refine blk_drew ?_ | refine blk_alloc ?_ _)); exact BK639.out) Try.underlying32 rfl (by kernel_rfl)) rfl ?_; exact ⟨_, _, by first | rfl | (simp [errW_none, errW_some] <;> rfl) | (simp [*, errW_none, errW_some] <;> rfl), by first | exact Kd.R_nil _ _ _ _ _ | exact Kd.N_nil _ _ _ _ _ | exact Kd.V_nil _ _ _ _ _ | exact Kd.Q_nil _ _ _ _ _ | exact Kd.S_nil _ _ _ _ _, by first | exact Kd.R_nil _ _ _ _ _ | exact Kd.N_nil _ _ _ _ _ | exact Kd.V_nil _ _ _ _ _ | exact Kd.Q_nil _ _ _ _ _ | exact Kd.S_nil _ _ _ _ _, Bq⟩

def laws_eqStringS.l0 : Nat → List ByteArray → List ByteArray → Int → Option (Bool)
 | 0, _, _, _ => none
 | k + 1, x0, x1, x5 => if x5 < (x0.length : Int) then (if 0 ≤ x5 then (if x5 < (x1.length : Int) then (if (rdOf ByteArray.empty x0 x5).toList = (rdOf ByteArray.empty x1 x5).toList then (laws_eqStringS.l0 k x0 x1 (wrap64 (x5 + 1))) else (some false)) else (none)) else (none)) else (some true)
def laws_eqStringS.f (k : Nat) (l0 : List ByteArray) (l1 : List ByteArray) : Option (Bool) := if (l0.length : Int) = (l1.length : Int) then (laws_eqStringS.l0 k l0 l1 0) else (some false)
theorem laws_eqStringS.mono_l : ∀ k, (∀ y0 y1 y2, LeO (laws_eqStringS.l0 k y0 y1 y2) (laws_eqStringS.l0 (k + 1) y0 y1 y2))
 | 0 => fun _ _ _ r h => by simp [laws_eqStringS.l0] at h
 | k + 1 => by
  have ih0 := laws_eqStringS.mono_l k
  ·intro y0 y1 y2
   unfold laws_eqStringS.l0
   repeat' first | (with_reducible first | exact ih0 _ _ _ | exact LeO.refl _ | exact LeO.none _ | refine LeO.ite ?_ ?_ | refine LeO.bind ?_ (fun _ => ?_)) | exact LeO.none _ | refine LeO.ite ?_ ?_ | refine LeO.bind ?_ (fun _ => ?_)
theorem laws_eqStringS.mono : ∀ a0 a1 k, LeO (laws_eqStringS.f k a0 a1) (laws_eqStringS.f (k + 1) a0 a1) := by
 intro a0 a1 k; have ih0 := laws_eqStringS.mono_l k
 unfold laws_eqStringS.f
 repeat' first | (with_reducible first | exact ih0 _ _ _ | exact LeO.refl _ | exact LeO.none _ | refine LeO.ite ?_ ?_ | refine LeO.bind ?_ (fun _ => ?_)) | exact LeO.none _ | refine LeO.ite ?_ ?_ | refine LeO.bind ?_ (fun _ => ?_)
set_option maxHeartbeats 8000000 in
set_option maxRecDepth 100000 in
theorem laws_eqStringS.calls (k : Nat) (A0 : Option Addr) (c0 : Nat) (l0 : List ByteArray) (A1 : Option Addr) (c1 : Nat) (l1 : List ByteArray) (r : Bool) (w : World) (hr0 : Kd.C Kd.string w A0 l0.length l0) (hc0 : l0.length ≤ c0) (hr1 : Kd.C Kd.string w A1 l1.length l1) (hc1 : l1.length ≤ c1) (h : laws_eqStringS.f k l0 l1 = some r) :
  Calls Try.prog 25 #[.slice A0 l0.length c0, .slice A1 l1.length c1] w fun e w' => e = .returned (.bool r) ∧ Drawn0 w w' := by
 have HR0 := Aside0.mk hr0; have HC0 := Aside0.mk hc0; clear hr0 hc0; have HR1 := Aside0.mk hr1; have HC1 := Aside0.mk hc1; clear hr1 hc1; have H : (if (l0.length : Int) = (l1.length : Int) then (laws_eqStringS.l0 k l0 l1 0) else (some false)) = some r := h; clear h
 by_cases c3 : (l0.length : Int) = (l1.length : Int)
 ·rw [if_pos c3] at H
  have c3b0 : ((l0.length : Int) == (l1.length : Int)) = true := beq_iff_eq.mpr c3; have c3b1 : ((l0.length : Int) != (l1.length : Int)) = false := bne_eq_false_iff_eq.mpr c3
  have c3b2 : (l0.length == l1.length) = true := by first | simpa using c3 | (simp at c3 ⊢; omega)
  clear c3; have H' := Aside0.mk H; clear H
  go_enter Try.func25, Try.ntmps25
  go_wp2
  repeat (go_quiet (fail); try go_wp2)
  go_loopg [5] k (fun kq v5 w' => ∃ (x5_1 : Int), v5 = .int .i64 x5_1 ∧ Aside0 (laws_eqStringS.l0 kq l0 l1 x5_1 = some r) ∧ Aside0 (kq ≤ k) ∧ Drawn0 w w')
  case atStart => exact ⟨(0), (by first | rfl | (simp; done) | (simp [*]; done)), H', ⟨Nat.le_refl _⟩, by repeat (first | exact Drawn0.refl _ | apply Drawn0.step)⟩
  case round =>
   clear H'
   try clear c1
   try clear c2
   try clear p2
   try clear c3
   try clear c3b0
   try clear c3b1
   try clear c3b2
   obtain ⟨x5_1, rfl, HA, HK1, ⟨m1, rfl⟩⟩ := hrel; cases gk with
   | zero => exact absurd HA.out (by simp [laws_eqStringS.l0])
   | succ k1 =>
    have H := HA.out; clear HA
    simp only [laws_eqStringS.l0] at H
    by_cases c4 : x5_1 < (l0.length : Int)
    ·rw [if_pos c4] at H
     have c4b0 : decide (x5_1 < (l0.length : Int)) = true := decide_eq_true c4; clear c4
     by_cases c5 : 0 ≤ x5_1
     ·rw [if_pos c5] at H
      have c5b0 : decide (0 ≤ x5_1) = true := decide_eq_true c5; clear c5
      by_cases c6 : x5_1 < (l1.length : Int)
      ·rw [if_pos c6] at H
       have c6b0 : decide (x5_1 < (l1.length : Int)) = true := decide_eq_true c6; clear c6
       by_cases c7 : (rdOf ByteArray.empty l0 x5_1).toList = (rdOf ByteArray.empty l1 x5_1).toList
       ·rw [if_pos c7] at H
        have c7b0 : ((rdOf ByteArray.empty l0 x5_1).toList == (rdOf ByteArray.empty l1 x5_1).toList) = true := beq_iff_eq.mpr c7; have c7b1 : ((rdOf ByteArray.empty l0 x5_1).toList != (rdOf ByteArray.empty l1 x5_1).toList) = false := bne_eq_false_iff_eq.mpr c7; clear c7; have H' := Aside0.mk H; clear H; have p650 : 0 ≤ (x5_1 : Int) := dT; have q650 : x5_1 < (l0.length : Int) := dT; obtain ⟨ad650, e650, hx650_0⟩ := Kd.at_string HR0.out x5_1 p650 q650; cases e650; replace p650 := eq_true p650; replace q650 := eq_true q650; have p651 : 0 ≤ (x5_1 : Int) := dT; have q651 : x5_1 < (l1.length : Int) := dT; obtain ⟨ad651, e651, hx651_0⟩ := Kd.at_string HR1.out x5_1 p651 q651; cases e651; replace p651 := eq_true p651; replace q651 := eq_true q651
        go_wp2
        repeat (go_quiet (fail); try go_wp2)
        go_roundg k1
        case measure => have := HK1.out; omega
        case rel => exact ⟨(wrap64 (x5_1 + 1)), (by first | rfl | (simp; done) | (simp [*]; done)), H', ⟨by have := HK1.out; omega⟩, by repeat (first | exact Drawn0.refl _ | apply Drawn0.step)⟩
       ·rw [if_neg c7] at H
        have c7b0 : ((rdOf ByteArray.empty l0 x5_1).toList == (rdOf ByteArray.empty l1 x5_1).toList) = false := beq_eq_false_iff_ne.mpr c7; have c7b1 : ((rdOf ByteArray.empty l0 x5_1).toList != (rdOf ByteArray.empty l1 x5_1).toList) = true := bne_iff_ne.mpr c7; obtain rfl := Option.some.inj H; have p650 : 0 ≤ (x5_1 : Int) := dT; have q650 : x5_1 < (l0.length : Int) := dT; obtain ⟨ad650, e650, hx650_0⟩ := Kd.at_string HR0.out x5_1 p650 q650; cases e650; replace p650 := eq_true p650; replace q650 := eq_true q650; have p651 : 0 ≤ (x5_1 : Int) := dT; have q651 : x5_1 < (l1.length : Int) := dT; obtain ⟨ad651, e651, hx651_0⟩ := Kd.at_string HR1.out x5_1 p651 q651; cases e651; replace p651 := eq_true p651; replace q651 := eq_true q651
        go_wp2
        repeat (go_quiet (fail); try go_wp2)
        go_ret
        exact ⟨by first | rfl | (simp; done) | (simp [*]; done), by repeat (first | exact Drawn0.refl _ | apply Drawn0.step)⟩
      ·rw [if_neg c6] at H
       exact absurd H (by simp)
     ·rw [if_neg c5] at H
      exact absurd H (by simp)
    ·rw [if_neg c4] at H
     have c4b0 : decide (x5_1 < (l0.length : Int)) = false := decide_eq_false c4; clear c4; obtain rfl := Option.some.inj H
     go_wp2
     repeat (go_quiet (fail); try go_wp2)
     go_ret
     exact ⟨by first | rfl | (simp; done) | (simp [*]; done), by repeat (first | exact Drawn0.refl _ | apply Drawn0.step)⟩
 ·rw [if_neg c3] at H
  have c3b0 : ((l0.length : Int) == (l1.length : Int)) = false := beq_eq_false_iff_ne.mpr c3; have c3b1 : ((l0.length : Int) != (l1.length : Int)) = true := bne_iff_ne.mpr c3
  have c3b2 : (l0.length == l1.length) = false := by first | simpa using c3 | (simp at c3 ⊢; omega)
  obtain rfl := Option.some.inj H
  go_enter Try.func25, Try.ntmps25
  go_wp2
  repeat (go_quiet (fail); try go_wp2)
  go_ret
  exact ⟨by first | rfl | (simp; done) | (simp [*]; done), by repeat (first | exact Drawn0.refl _ | apply Drawn0.step)⟩

def laws_markText.l0 : Nat → Int → ByteArray → Option (ByteArray)
 | 0, _, _ => none
 | k + 1, x0, x3 => if x0 > 0 then ((some (([(wrap64 (48 + (Int.tmod x0 10))) % 256] : List Int) : List Int)).bind fun y652 => (if (strOfNums y652).size + x3.size ≤ 9223372036854775807 then (laws_markText.l0 k (wrap64 (Int.tdiv x0 10)) ((strOfNums y652) ++ x3)) else (none))) else (if 1 + x3.size ≤ 9223372036854775807 then (some ((⟨#[109]⟩ : ByteArray) ++ x3)) else (none))
def laws_markText.f (k : Nat) (a0 : Int) : Option (ByteArray) := if a0 ≤ 0 then (some (⟨#[109, 48]⟩ : ByteArray)) else (laws_markText.l0 k a0 (⟨#[]⟩ : ByteArray))
theorem laws_markText.mono_l : ∀ k, (∀ y0 y1, LeO (laws_markText.l0 k y0 y1) (laws_markText.l0 (k + 1) y0 y1))
 | 0 => fun _ _ r h => by simp [laws_markText.l0] at h
 | k + 1 => by
  have ih0 := laws_markText.mono_l k
  ·intro y0 y1
   unfold laws_markText.l0
   repeat' first | (with_reducible first | exact ih0 _ _ | exact LeO.refl _ | exact LeO.none _ | refine LeO.ite ?_ ?_ | refine LeO.bind ?_ (fun _ => ?_)) | exact LeO.none _ | refine LeO.ite ?_ ?_ | refine LeO.bind ?_ (fun _ => ?_)
theorem laws_markText.mono : ∀ a0 k, LeO (laws_markText.f k a0) (laws_markText.f (k + 1) a0) := by
 intro a0 k; have ih0 := laws_markText.mono_l k
 unfold laws_markText.f
 repeat' first | (with_reducible first | exact ih0 _ _ | exact LeO.refl _ | exact LeO.none _ | refine LeO.ite ?_ ?_ | refine LeO.bind ?_ (fun _ => ?_)) | exact LeO.none _ | refine LeO.ite ?_ ?_ | refine LeO.bind ?_ (fun _ => ?_)
set_option maxHeartbeats 8000000 in
set_option maxRecDepth 100000 in
theorem laws_markText.calls (k : Nat) (a0 : Int) (r : ByteArray) (w : World) (h : laws_markText.f k a0 = some r) :
  Calls Try.prog 57 #[.int .i64 a0] w fun e w' => e = .returned (.string r) ∧ Below w.heap.size w w' := by
 have HB := Aside0.mk (Below.refl w.heap.size w); have H : (if a0 ≤ 0 then (some (⟨#[109, 48]⟩ : ByteArray)) else (laws_markText.l0 k a0 (⟨#[]⟩ : ByteArray))) = some r := h; clear h
 by_cases c2 : a0 ≤ 0
 ·rw [if_pos c2] at H
  have c2b0 : decide (a0 ≤ 0) = true := decide_eq_true c2; clear c2; obtain rfl := Option.some.inj H
  go_enter Try.func57, Try.ntmps57
  go_wp2
  go_ret
  exact ⟨by first | rfl | (simp [errW_none, errW_some] <;> rfl) | (simp [*, errW_none, errW_some] <;> rfl), Bz HB.out⟩
 ·rw [if_neg c2] at H
  have c2b0 : decide (a0 ≤ 0) = false := decide_eq_false c2; clear c2; have H' := Aside0.mk H; clear H
  go_enter Try.func57, Try.ntmps57
  go_wp2
  go_loopg [0, 3] k (fun kq v0 v3 w' => ∃ (x0_1 : Int) (x3_1 : ByteArray), v0 = .int .i64 x0_1 ∧ v3 = .string x3_1 ∧ Aside0 (laws_markText.l0 kq x0_1 x3_1 = some r) ∧ Aside0 (kq ≤ k) ∧ Aside0 (Below w.heap.size w w'))
  case atStart => exact ⟨(a0), ((⟨#[]⟩ : ByteArray)), (by first | rfl | (simp; done) | (simp [*]; done)), (by first | rfl | (simp; done) | (simp [*]; done)), H', ⟨Nat.le_refl _⟩, ⟨Bz HB.out⟩⟩
  case round =>
   clear H'
   try clear c2
   try clear c2b0
   try clear p2
   obtain ⟨x0_1, x3_1, rfl, rfl, HA, HK1, HB⟩ := hrel; cases gk with
   | zero => exact absurd HA.out (by simp [laws_markText.l0])
   | succ k1 =>
    have H := HA.out; clear HA
    simp only [laws_markText.l0] at H
    by_cases c3 : x0_1 > 0
    ·rw [if_pos c3] at H
     have c3b0 : decide (0 < x0_1) = true := decide_eq_true c3; clear c3; obtain ⟨y652, hy652⟩ : ∃ y_ : List Int, y_ = (([(wrap64 (48 + (Int.tmod x0_1 10))) % 256] : List Int)) := ⟨_, rfl⟩
     replace H : (if (strOfNums y652).size + x3_1.size ≤ 9223372036854775807 then (laws_markText.l0 k1 (wrap64 (Int.tdiv x0_1 10)) ((strOfNums y652) ++ x3_1)) else (none)) = some r := by first | (rw [hy652]; with_reducible exact H) | (have H2_ := (Option.bind_some _ _).symm.trans H; rw [hy652]; with_reducible exact H2_) | (have H2_ := (Option.bind_some _ _).symm.trans H; with_reducible exact H2_) | with_reducible exact H | (rw [hy652]; exact H) | exact H
     have Ny652 := Aside0.mk hy652; clear hy652
     by_cases c4 : (strOfNums y652).size + x3_1.size ≤ 9223372036854775807
     ·rw [if_pos c4] at H
      have c4b0 := eq_true c4; have c4b1 : decide ((strOfNums y652).size + x3_1.size ≤ 9223372036854775807) = true := decide_eq_true c4
      try have c4b2 : (9223372036854775807 < (strOfNums y652).size + x3_1.size) = False := eq_false (Nat.not_lt.2 c4)
      have H' := Aside0.mk H; clear H
      go_wp2_with (first | ((with_reducible refine gate_dst (N := 12) rfl ?_); refine Kd.R_lit (Kd.int .u8) _ 5 ?hg (N := 12) ?hd (xs := ([(wrap64 (48 + (Int.tmod x0_1 10))) % 256] : List Int)) (inner := [.int .u8 ((wrap64 (48 + (Int.tmod x0_1 10))) % 256)]) (ok := fun _ => True) (okp := fun _ => True) ?hr ?hp (fun _ hk => hk) trivial (Below.refl _ _) (Nat.le_refl _) (by simp) ?_; (case hd => rfl); (case hg => rfl); (case hr => first | (go_simp; done) | (go_simp; rfl)); (case hp => exact (Reps.one (show Kd.M (Kd.int .u8) _ _ _ ((wrap64 (48 + (Int.tmod x0_1 10))) % 256) [.int .u8 ((wrap64 (48 + (Int.tmod x0_1 10))) % 256)] from rfl) (Reps.none _ _))); intro v653 w5 ho6 hb hg_ hnew_; clear hg_ hnew_; (first | rw [← Ny652.out] at ho6 | (simp only [Int.reduceToNat] at ho6; rw [← Ny652.out] at ho6)); have n0_ := Rl ho6 HB; have n1_ := Bb HB hb; clear HB; revert n0_ n1_; intro HO654 HB; clear hb ho6; have hcv7 := own_string (P := Try.prog) Try.underlying63 Try.underlying5 Try.underlying9 (Kd.own_of_R HO654.out)))
      go_roundg k1
      case measure => have := HK1.out; omega
      case rel => exact ⟨(wrap64 (Int.tdiv x0_1 10)), ((strOfNums y652) ++ x3_1), (by first | rfl | (simp; done) | (simp [*]; done)), (by first | rfl | (simp; done) | (simp [*]; done)), H', ⟨by have := HK1.out; omega⟩, ⟨Bz HB.out⟩⟩
     ·rw [if_neg c4] at H
      exact absurd H (by simp)
    ·rw [if_neg c3] at H
     have c3b0 : decide (0 < x0_1) = false := decide_eq_false c3; clear c3
     by_cases c8 : 1 + x3_1.size ≤ 9223372036854775807
     ·rw [if_pos c8] at H
      have c8b0 := eq_true c8; have c8b1 : decide (1 + x3_1.size ≤ 9223372036854775807) = true := decide_eq_true c8
      try have c8b2 : (9223372036854775807 < 1 + x3_1.size) = False := eq_false (Nat.not_lt.2 c8)
      obtain rfl := Option.some.inj H
      go_wp2
      go_ret
      exact ⟨by first | rfl | (simp [errW_none, errW_some] <;> rfl) | (simp [*, errW_none, errW_some] <;> rfl), Bz HB.out⟩
     ·rw [if_neg c8] at H
      exact absurd H (by simp)

def laws_markStringS.l0 : Nat → List ByteArray → Int → Int → Option (Int × List ByteArray)
 | 0, _, _, _ => none
 | k + 1, x0, x1, x5 => if x5 < (x0.length : Int) then ((laws_markText.f k x1).bind fun t655 => (if 0 ≤ x5 then (laws_markStringS.l0 k (x0.set (x5 : Int).toNat t655) (wrap64 (x1 + 1)) (wrap64 (x5 + 1))) else (none))) else (some (x1, x0))
def laws_markStringS.f (k : Nat) (l0 : List ByteArray) (a1 : Int) : Option (Int × List ByteArray) := laws_markStringS.l0 k l0 a1 0
theorem laws_markStringS.mono_l : ∀ k, (∀ y0 y1 y2, LeO (laws_markStringS.l0 k y0 y1 y2) (laws_markStringS.l0 (k + 1) y0 y1 y2))
 | 0 => fun _ _ _ r h => by simp [laws_markStringS.l0] at h
 | k + 1 => by
  have ih0 := laws_markStringS.mono_l k
  ·intro y0 y1 y2
   unfold laws_markStringS.l0
   repeat' first | (with_reducible first | exact ih0 _ _ _ | exact laws_markText.mono _ _ | exact LeO.refl _ | exact LeO.none _ | refine LeO.ite ?_ ?_ | refine LeO.bind ?_ (fun _ => ?_)) | exact LeO.none _ | refine LeO.ite ?_ ?_ | refine LeO.bind ?_ (fun _ => ?_)
theorem laws_markStringS.mono : ∀ a0 a1 k, LeO (laws_markStringS.f k a0 a1) (laws_markStringS.f (k + 1) a0 a1) := by
 intro a0 a1 k; have ih0 := laws_markStringS.mono_l k
 unfold laws_markStringS.f
 repeat' first | (with_reducible first | exact ih0 _ _ _ | exact laws_markText.mono _ _ | exact LeO.refl _ | exact LeO.none _ | refine LeO.ite ?_ ?_ | refine LeO.bind ?_ (fun _ => ?_)) | exact LeO.none _ | refine LeO.ite ?_ ?_ | refine LeO.bind ?_ (fun _ => ?_)
set_option maxHeartbeats 8000000 in
set_option maxRecDepth 100000 in
theorem laws_markStringS.calls (k : Nat) (P0_ : Nat → Prop) (u9000_ : Value) (l0 : List ByteArray) (a1 : Int) (r1 : Int) (r2 : List ByteArray) (w0 w : World) (hB : Below w0.heap.size w0 w) (ho0 : Kd.R Kd.string 9 w w0.heap.size P0_ u9000_ l0) (h : laws_markStringS.f k l0 a1 = some (r1, r2)) :
  Calls Try.prog 26 #[u9000_, .int .i64 a1] w fun e w' => e = .returned (.int .i64 r1) ∧ Kd.R Kd.string 9 w' w0.heap.size (fun k_ => (P0_ k_ ∨ w.heap.size ≤ k_)) u9000_ r2 ∧ Below w0.heap.size w0 w' ∧ Kept w w' (fun k_ => P0_ k_) := by
 have HO0 := Aside0.mk (show Kd.R Kd.string 9 w w0.heap.size (fun k_ => (P0_ k_ ∨ w.heap.size ≤ k_)) u9000_ l0 from Kd.R_mono ho0 (fun k_ hk => (.inl hk))); have HK := Aside0.mk (Kept.refl w (fun k_ => P0_ k_)); have HW0 := Aside0.mk hB.size; have HB := Aside0.mk hB; clear hB; have H : (laws_markStringS.l0 k l0 a1 0) = some (r1, r2) := h; clear h; have H' := Aside0.mk H; clear H
 go_enter Try.func26, Try.ntmps26
 go_wp2
 go_loopg [1, 5] k (fun kq v1 v5 w' => ∃ (x0_1 : List ByteArray) (x1_1 : Int) (x5_1 : Int), v1 = .int .i64 x1_1 ∧ v5 = .int .i64 x5_1 ∧ Aside0 (laws_markStringS.l0 kq x0_1 x1_1 x5_1 = some (r1, r2)) ∧ Aside0 (kq ≤ k) ∧ Aside0 (Kd.R Kd.string 9 w' w0.heap.size (fun k_ => (P0_ k_ ∨ w.heap.size ≤ k_)) u9000_ x0_1) ∧ Aside0 (Kept w w' (fun k_ => P0_ k_)) ∧ Aside0 (Below w0.heap.size w0 w'))
 case atStart => exact ⟨(l0), (a1), (0), (by first | rfl | (simp; done) | (simp [*]; done)), (by first | rfl | (simp; done) | (simp [*]; done)), H', ⟨Nat.le_refl _⟩, ⟨Rz HO0.out⟩, ⟨by repeat (first | (with_reducible first | exact HK.out | apply Kept.alloc | apply Kept.drewN | apply Kept.drew) | exact HK.out)⟩, ⟨Bz HB.out⟩⟩
 case round =>
  clear H'
  try clear c2
  try clear p2
  obtain ⟨x0_1, x1_1, x5_1, rfl, rfl, HA, HK1, HO_0, HK, HB⟩ := hrel; cases gk with
  | zero => exact absurd HA.out (by simp [laws_markStringS.l0])
  | succ k1 =>
   have H := HA.out; clear HA
   simp only [laws_markStringS.l0] at H
   by_cases c3 : x5_1 < (x0_1.length : Int)
   ·rw [if_pos c3] at H
    have c3b0 : decide (x5_1 < (x0_1.length : Int)) = true := decide_eq_true c3; clear c3; replace H := Option.bind_eq_some_iff.mp H; obtain ⟨t655, A40, H⟩ := H; replace H : (if 0 ≤ x5_1 then (laws_markStringS.l0 k1 (x0_1.set (x5_1 : Int).toNat t655) (wrap64 (x1_1 + 1)) (wrap64 (x5_1 + 1))) else (none)) = some (r1, r2) := H; have A4 := Aside0.mk A40; clear A40
    by_cases c5 : 0 ≤ x5_1
    ·rw [if_pos c5] at H
     have c5b0 : decide (0 ≤ x5_1) = true := decide_eq_true c5; clear c5; obtain ⟨y656, hy656⟩ : ∃ y_ : List ByteArray, y_ = (x0_1.set (x5_1 : Int).toNat t655) := ⟨_, rfl⟩
     replace H : (laws_markStringS.l0 k1 y656 (wrap64 (x1_1 + 1)) (wrap64 (x5_1 + 1))) = some (r1, r2) := by first | (rw [hy656]; with_reducible exact H) | (have H2_ := (Option.bind_some _ _).symm.trans H; rw [hy656]; with_reducible exact H2_) | (have H2_ := (Option.bind_some _ _).symm.trans H; with_reducible exact H2_) | with_reducible exact H | (rw [hy656]; exact H) | exact H
     have Ny656 := Aside0.mk hy656; clear hy656; have H' := Aside0.mk H; clear H; obtain ⟨Ao7, co7, eo7⟩ := Kd.R_slice HO_0.out; subst eo7
     go_wp2_with (first | ((with_reducible refine gate_callee (f := 57) rfl ?_); refine gL (some 15) Try.func57 #[.int .i64 x1_1] ?_; (with_reducible refine (laws_markText.calls k1 x1_1 t655 _ A4.out).mono ?_); rintro e w8 ⟨rfl, hb⟩; refine ⟨_, rfl, ?_⟩; have n0_ := Rb HO_0 hb; have n1_ := Aside0.mk (Kept.below (S := (fun k_ => P0_ k_)) (by repeat (first | (with_reducible first | exact HK.out | apply Kept.alloc | apply Kept.drewN | apply Kept.drew) | exact HK.out)) hb); have n2_ := Bb HB hb; clear HO_0 HK HB; revert n0_ n1_ n2_; intro HO_0 HK HB; (try clear hb); (try clear hb2); (try clear hk); (try clear hi); have p6 : 0 ≤ (x5_1 : Int) := dT; have q6 : (x5_1 : Int) < ((x0_1.length : Int) : Int) := dT; obtain ⟨go6, co6, eo6, gb6, gl6, cl6, HG6⟩ := Kd.R_form HO_0.out (by omega); (first | cases eo6 | (injection eo6 with ea_ en_ ec_; (first | subst ea_ | (injection ea_ with ea_; subst ea_)); subst ec_; clear en_)); have GB6 := Aside0.mk gb6; have GG6 := Aside0.mk HG6; clear gb6 gl6 HG6; have HMgo6 := Aside0.mk (show (P0_ go6 ∨ w.heap.size ≤ go6) from (HO_0.out.1 _ rfl)); obtain ⟨hx6_0, hf6_0⟩ := Kd.R_celln (⟨#[]⟩ : ByteArray) HO_0.out (x5_1 : Int) p6 q6; replace p6 := eq_true p6; replace q6 := eq_true q6; obtain ⟨hy9_, hz9_⟩ := Kd.R_celln (⟨#[]⟩ : ByteArray) HO_0.out (x5_1 : Int) (dT) (dT); have HP9 := Kd.R_putg HO_0.out (x5_1 : Int) t655) | ((with_reducible refine gate_store (t := 9) (p := 16) rfl ?_); refine store_event (t := 9) (p := 16) (v := ?vo_w10) (w1 := (w8.setCell ⟨go6, (x5_1 : Int).toNat, none⟩ (.string t655))) ?hg ?ho ?hn ?hr ?_; (case ho => rfl); (case hg => rfl); (case hn => rfl); (case hr => first | (go_simp; done) | (go_simp; rfl)); intro w10 hw; have hg : w8.grownBy w10 (some go6) := (by rw [hw]; exact HP9.2); have hp_ : Kd.R Kd.string 9 w10 w0.heap.size (fun k_ => (P0_ k_ ∨ w.heap.size ≤ k_)) (.slice (some ⟨go6, 0, none⟩) x0_1.length co7) y656 := (by rw [hw, Ny656.out]; exact HP9.1); clear HP9; have n0_ := Aside0.mk (hp_); have n1_ := Aside0.mk ((by rw [hw]; exact below_set (HB.out) GB6.out : Below w0.heap.size w0 w10)); have n2_ := Aside0.mk (Kept.of_grown (S := (fun k_ => P0_ k_)) hg (by repeat (first | (with_reducible first | exact HK.out | apply Kept.alloc | apply Kept.drewN | apply Kept.drew) | exact HK.out)) (fun k_ e_ => (HO_0.out.1 k_ e_))); clear HO_0 HB HK; revert n0_ n1_ n2_; intro HO_0 HB HK; clear hg hw hp_))
     go_roundg k1
     case measure => have := HK1.out; omega
     case rel => exact ⟨(y656), (wrap64 (x1_1 + 1)), (wrap64 (x5_1 + 1)), (by first | rfl | (simp; done) | (simp [*]; done)), (by first | rfl | (simp; done) | (simp [*]; done)), H', ⟨by have := HK1.out; omega⟩, ⟨Rz HO_0.out⟩, ⟨by repeat (first | (with_reducible first | exact HK.out | apply Kept.alloc | apply Kept.drewN | apply Kept.drew) | exact HK.out)⟩, ⟨Bz HB.out⟩⟩
    ·rw [if_neg c5] at H
     exact absurd H (by simp)
   ·rw [if_neg c3] at H
    have c3b0 : decide (x5_1 < (x0_1.length : Int)) = false := decide_eq_false c3; clear c3
    simp only [Option.some.injEq, Prod.mk.injEq] at H
    obtain ⟨rfl, rfl⟩ := H; obtain ⟨Ao11, co11, eo11⟩ := Kd.R_slice HO_0.out; subst eo11
    go_wp2
    go_ret
    exact ⟨by first | rfl | (simp [errW_none, errW_some] <;> rfl) | (simp [*, errW_none, errW_some] <;> rfl), Rz HO_0.out, Bz HB.out, by repeat (first | (with_reducible first | exact HK.out | apply Kept.alloc | apply Kept.drewN | apply Kept.drew) | exact HK.out)⟩

def laws_markIntS.l0 : Nat → List Int → Int → Int → Option (Int × List Int)
 | 0, _, _, _ => none
 | k + 1, x0, x1, x5 => if x5 < (x0.length : Int) then (if 0 ≤ x5 then (laws_markIntS.l0 k (x0.set (x5 : Int).toNat x1) (wrap64 (x1 + 1)) (wrap64 (x5 + 1))) else (none)) else (some (x1, x0))
def laws_markIntS.f (k : Nat) (l0 : List Int) (a1 : Int) : Option (Int × List Int) := laws_markIntS.l0 k l0 a1 0
theorem laws_markIntS.mono_l : ∀ k, (∀ y0 y1 y2, LeO (laws_markIntS.l0 k y0 y1 y2) (laws_markIntS.l0 (k + 1) y0 y1 y2))
 | 0 => fun _ _ _ r h => by simp [laws_markIntS.l0] at h
 | k + 1 => by
  have ih0 := laws_markIntS.mono_l k
  ·intro y0 y1 y2
   unfold laws_markIntS.l0
   repeat' first | (with_reducible first | exact ih0 _ _ _ | exact LeO.refl _ | exact LeO.none _ | refine LeO.ite ?_ ?_ | refine LeO.bind ?_ (fun _ => ?_)) | exact LeO.none _ | refine LeO.ite ?_ ?_ | refine LeO.bind ?_ (fun _ => ?_)
theorem laws_markIntS.mono : ∀ a0 a1 k, LeO (laws_markIntS.f k a0 a1) (laws_markIntS.f (k + 1) a0 a1) := by
 intro a0 a1 k; have ih0 := laws_markIntS.mono_l k
 unfold laws_markIntS.f
 repeat' first | (with_reducible first | exact ih0 _ _ _ | exact LeO.refl _ | exact LeO.none _ | refine LeO.ite ?_ ?_ | refine LeO.bind ?_ (fun _ => ?_)) | exact LeO.none _ | refine LeO.ite ?_ ?_ | refine LeO.bind ?_ (fun _ => ?_)
set_option maxHeartbeats 8000000 in
set_option maxRecDepth 100000 in
theorem laws_markIntS.calls (k : Nat) (P0_ : Nat → Prop) (u9000_ : Value) (l0 : List Int) (a1 : Int) (r1 : Int) (r2 : List Int) (w0 w : World) (hB : Below w0.heap.size w0 w) (ho0 : Kd.R (Kd.int .i64) 3 w w0.heap.size P0_ u9000_ l0) (h : laws_markIntS.f k l0 a1 = some (r1, r2)) :
  Calls Try.prog 85 #[u9000_, .int .i64 a1] w fun e w' => e = .returned (.int .i64 r1) ∧ Kd.R (Kd.int .i64) 3 w' w0.heap.size (fun k_ => (P0_ k_ ∨ w.heap.size ≤ k_)) u9000_ r2 ∧ Below w0.heap.size w0 w' ∧ Kept w w' (fun k_ => P0_ k_) := by
 have HO0 := Aside0.mk (show Kd.R (Kd.int .i64) 3 w w0.heap.size (fun k_ => (P0_ k_ ∨ w.heap.size ≤ k_)) u9000_ l0 from Kd.R_mono ho0 (fun k_ hk => (.inl hk))); have HK := Aside0.mk (Kept.refl w (fun k_ => P0_ k_)); have HW0 := Aside0.mk hB.size; have HB := Aside0.mk hB; clear hB; have H : (laws_markIntS.l0 k l0 a1 0) = some (r1, r2) := h; clear h; have H' := Aside0.mk H; clear H
 go_enter Try.func85, Try.ntmps85
 go_wp2
 go_loopg [1, 5] k (fun kq v1 v5 w' => ∃ (x0_1 : List Int) (x1_1 : Int) (x5_1 : Int), v1 = .int .i64 x1_1 ∧ v5 = .int .i64 x5_1 ∧ Aside0 (laws_markIntS.l0 kq x0_1 x1_1 x5_1 = some (r1, r2)) ∧ Aside0 (kq ≤ k) ∧ Aside0 (Kd.R (Kd.int .i64) 3 w' w0.heap.size (fun k_ => (P0_ k_ ∨ w.heap.size ≤ k_)) u9000_ x0_1) ∧ Aside0 (Kept w w' (fun k_ => P0_ k_)) ∧ Aside0 (Below w0.heap.size w0 w'))
 case atStart => exact ⟨(l0), (a1), (0), (by first | rfl | (simp; done) | (simp [*]; done)), (by first | rfl | (simp; done) | (simp [*]; done)), H', ⟨Nat.le_refl _⟩, ⟨Rz HO0.out⟩, ⟨by repeat (first | (with_reducible first | exact HK.out | apply Kept.alloc | apply Kept.drewN | apply Kept.drew) | exact HK.out)⟩, ⟨Bz HB.out⟩⟩
 case round =>
  clear H'
  try clear p2
  obtain ⟨x0_1, x1_1, x5_1, rfl, rfl, HA, HK1, HO_0, HK, HB⟩ := hrel; cases gk with
  | zero => exact absurd HA.out (by simp [laws_markIntS.l0])
  | succ k1 =>
   have H := HA.out; clear HA
   simp only [laws_markIntS.l0] at H
   by_cases c3 : x5_1 < (x0_1.length : Int)
   ·rw [if_pos c3] at H
    have c3b0 : decide (x5_1 < (x0_1.length : Int)) = true := decide_eq_true c3; clear c3
    by_cases c4 : 0 ≤ x5_1
    ·rw [if_pos c4] at H
     have c4b0 : decide (0 ≤ x5_1) = true := decide_eq_true c4; clear c4; obtain ⟨y657, hy657⟩ : ∃ y_ : List Int, y_ = (x0_1.set (x5_1 : Int).toNat x1_1) := ⟨_, rfl⟩
     replace H : (laws_markIntS.l0 k1 y657 (wrap64 (x1_1 + 1)) (wrap64 (x5_1 + 1))) = some (r1, r2) := by first | (rw [hy657]; with_reducible exact H) | (have H2_ := (Option.bind_some _ _).symm.trans H; rw [hy657]; with_reducible exact H2_) | (have H2_ := (Option.bind_some _ _).symm.trans H; with_reducible exact H2_) | with_reducible exact H | (rw [hy657]; exact H) | exact H
     have Ny657 := Aside0.mk hy657; clear hy657; have H' := Aside0.mk H; clear H; obtain ⟨Ao6, co6, eo6⟩ := Kd.R_slice HO_0.out; subst eo6; have p5 : 0 ≤ (x5_1 : Int) := dT; have q5 : (x5_1 : Int) < ((x0_1.length : Int) : Int) := dT; obtain ⟨go5, co5, eo5, gb5, gl5, cl5, HG5⟩ := Kd.R_form HO_0.out (by omega)
     (first | cases eo5 | (injection eo5 with ea_ en_ ec_; (first | subst ea_ | (injection ea_ with ea_; subst ea_)); subst ec_; clear en_))
     have GB5 := Aside0.mk gb5; have GG5 := Aside0.mk HG5; clear gb5 gl5 HG5; have HMgo5 := Aside0.mk (show (P0_ go5 ∨ w.heap.size ≤ go5) from (HO_0.out.1 _ rfl)); obtain ⟨hx5_0, hf5_0⟩ := Kd.R_celln 0 HO_0.out (x5_1 : Int) p5 q5; replace p5 := eq_true p5; replace q5 := eq_true q5; have HP7 := Kd.R_putg HO_0.out (x5_1 : Int) x1_1
     go_wp2_with (first | ((with_reducible refine gate_store (t := 3) (p := 15) rfl ?_); refine store_event (t := 3) (p := 15) (v := ?vo_w8) (w1 := (wr.setCell ⟨go5, (x5_1 : Int).toNat, none⟩ (.int .i64 x1_1))) ?hg ?ho ?hn ?hr ?_; (case ho => rfl); (case hg => rfl); (case hn => rfl); (case hr => first | (go_simp; done) | (go_simp; rfl)); intro w8 hw; have hg : wr.grownBy w8 (some go5) := (by rw [hw]; exact HP7.2); have hp_ : Kd.R (Kd.int .i64) 3 w8 w0.heap.size (fun k_ => (P0_ k_ ∨ w.heap.size ≤ k_)) (.slice (some ⟨go5, 0, none⟩) x0_1.length co6) y657 := (by rw [hw, Ny657.out]; exact HP7.1); clear HP7; have n0_ := Aside0.mk (hp_); have n1_ := Aside0.mk ((by rw [hw]; exact below_set (HB.out) GB5.out : Below w0.heap.size w0 w8)); have n2_ := Aside0.mk (Kept.of_grown (S := (fun k_ => P0_ k_)) hg (by repeat (first | (with_reducible first | exact HK.out | apply Kept.alloc | apply Kept.drewN | apply Kept.drew) | exact HK.out)) (fun k_ e_ => (HO_0.out.1 k_ e_))); clear HO_0 HB HK; revert n0_ n1_ n2_; intro HO_0 HB HK; clear hg hw hp_))
     go_roundg k1
     case measure => have := HK1.out; omega
     case rel => exact ⟨(y657), (wrap64 (x1_1 + 1)), (wrap64 (x5_1 + 1)), (by first | rfl | (simp; done) | (simp [*]; done)), (by first | rfl | (simp; done) | (simp [*]; done)), H', ⟨by have := HK1.out; omega⟩, ⟨Rz HO_0.out⟩, ⟨by repeat (first | (with_reducible first | exact HK.out | apply Kept.alloc | apply Kept.drewN | apply Kept.drew) | exact HK.out)⟩, ⟨Bz HB.out⟩⟩
    ·rw [if_neg c4] at H
     exact absurd H (by simp)
   ·rw [if_neg c3] at H
    have c3b0 : decide (x5_1 < (x0_1.length : Int)) = false := decide_eq_false c3; clear c3
    simp only [Option.some.injEq, Prod.mk.injEq] at H
    obtain ⟨rfl, rfl⟩ := H; obtain ⟨Ao9, co9, eo9⟩ := Kd.R_slice HO_0.out; subst eo9
    go_wp2
    go_ret
    exact ⟨by first | rfl | (simp [errW_none, errW_some] <;> rfl) | (simp [*, errW_none, errW_some] <;> rfl), Rz HO_0.out, Bz HB.out, by repeat (first | (with_reducible first | exact HK.out | apply Kept.alloc | apply Kept.drewN | apply Kept.drew) | exact HK.out)⟩

def laws_markBits.f (k : Nat) (a0_0 : Int) (l0_1 : List Int) (a1 : Int) : Option (Int × List Int) := (laws_markIntS.f k l0_1 a1).bind fun bt659 => (some (bt659.1, bt659.2))
theorem laws_markBits.mono : ∀ a0 a1 a2 k, LeO (laws_markBits.f k a0 a1 a2) (laws_markBits.f (k + 1) a0 a1 a2) := by
 intro a0 a1 a2 k
 unfold laws_markBits.f
 repeat' first | (with_reducible first | exact laws_markIntS.mono _ _ _ | exact LeO.refl _ | exact LeO.none _ | refine LeO.ite ?_ ?_ | refine LeO.bind ?_ (fun _ => ?_)) | exact LeO.none _ | refine LeO.ite ?_ ?_ | refine LeO.bind ?_ (fun _ => ?_)
set_option maxHeartbeats 8000000 in
set_option maxRecDepth 100000 in
theorem laws_markBits.calls (k : Nat) (a0_0 : Int) (P0_1_ : Nat → Prop) (u9000_ : Value) (l0_1 : List Int) (a1 : Int) (r1 : Int) (r2 : List Int) (w0 w : World) (hB : Below w0.heap.size w0 w) (ho0_1 : Kd.R (Kd.int .i64) 3 w w0.heap.size P0_1_ u9000_ l0_1) (h : laws_markBits.f k a0_0 l0_1 a1 = some (r1, r2)) :
  Calls Try.prog 58 #[.agg #[.int .i64 a0_0, u9000_], .int .i64 a1] w fun e w' => e = .returned (.int .i64 r1) ∧ Kd.R (Kd.int .i64) 3 w' w0.heap.size (fun k_ => (P0_1_ k_ ∨ w.heap.size ≤ k_)) u9000_ r2 ∧ Below w0.heap.size w0 w' ∧ Kept w w' (fun k_ => P0_1_ k_) := by
 have hu30 := Try.underlying30; have HO0_1 := Aside0.mk (show Kd.R (Kd.int .i64) 3 w w0.heap.size (fun k_ => (P0_1_ k_ ∨ w.heap.size ≤ k_)) u9000_ l0_1 from Kd.R_mono ho0_1 (fun k_ hk => (.inl hk))); have HK := Aside0.mk (Kept.refl w (fun k_ => P0_1_ k_)); have HW0 := Aside0.mk hB.size; have HB := Aside0.mk hB; clear hB; have H : ((laws_markIntS.f k l0_1 a1).bind fun bt659 => (some (bt659.1, bt659.2))) = some (r1, r2) := h; clear h; replace H := Option.bind_eq_some_iff.mp H; obtain ⟨⟨t659, t660⟩, A30, H⟩ := H; replace H : (some (t659, t660)) = some (r1, r2) := H; have A3 := Aside0.mk A30; clear A30
 simp only [Option.some.injEq, Prod.mk.injEq] at H
 obtain ⟨rfl, rfl⟩ := H; obtain ⟨Ao4, co4, eo4⟩ := Kd.R_slice HO0_1.out; subst eo4
 go_enter Try.func58, Try.ntmps58
 go_wp2_with (first | ((with_reducible refine gate_dst (N := 2) rfl ?_); refine bE 2 #[.int .i64 a0_0, .slice Ao4 l0_1.length co4] 30 ?_; intro gb658 hg w5 hbox hb; have n0_ := Rb HO0_1 hb; have n1_ := Aside0.mk (Kept.below (S := (fun k_ => P0_1_ k_)) (by repeat (first | (with_reducible first | exact HK.out | apply Kept.alloc | apply Kept.drewN | apply Kept.drew) | exact HK.out)) hb); have n2_ := Bb HB hb; have n3_ := Aside0.mk (hbox); have n4_ := Aside0.mk ((by rw [hg]; exact (by first | exact HK.out.1 | exact (show Kept w _ (fun k_ => P0_1_ k_) from by repeat (first | (with_reducible first | exact HK.out | apply Kept.alloc | apply Kept.drewN | apply Kept.drew) | exact HK.out)).1) : w.heap.size ≤ gb658)); have n5_ := Aside0.mk ((by rw [hg]; exact (below_size (Bz HB.out)) : w0.heap.size ≤ gb658)); clear HO0_1 HK HB; revert n0_ n1_ n2_ n3_ n4_ n5_; intro HO0_1 HK HB BK658 GW658 GE658; clear hb hbox hg; obtain ⟨hcz6_0, hcz6_1, hfz6_0, hfz6_1⟩ := cf2 (w := w5) BK658) | ((with_reducible refine gate_callee (f := 85) rfl ?_); refine gL (some 8) Try.func85 #[.slice Ao4 l0_1.length co4, .int .i64 a1] ?_; (with_reducible refine (laws_markIntS.calls k (fun k_ => some k_ = (.slice Ao4 l0_1.length co4 : Value).ownBlock) (.slice Ao4 l0_1.length co4) l0_1 a1 t659 t660 w0 _ ?side1 ?side2 A3.out).mono ?_); (case side1 => repeat (first | (with_reducible first | exact HB.out | apply below_alloc | apply pw_below_drewN | apply below_drew1 | refine below_set ?_ GE658.out) | exact HB.out)); (case side2 => exact Kd.R_tight rfl HO0_1.out); rintro e w7 ⟨rfl, hy0, hb, hkp⟩; refine ⟨_, rfl, ?_⟩; have n0_ := Aside0.mk (Kd.R_reok rfl hy0 (fun k_ e_ => HO0_1.out.1 k_ e_)); have n1_ := Aside0.mk (blk_kept (Kz BK658.out) hkp (fun hs_ => (fun e_ => (Kd.R_ne HO0_1.out BK658.out (by decide)) e_) hs_)); have n2_ := Aside0.mk (Kept.then_ (S := (fun k_ => P0_1_ k_)) (by repeat (first | (with_reducible first | exact HK.out | apply Kept.alloc | apply Kept.drewN | apply Kept.drew | refine Kept.setCell ?_ (.inr GW658.out) _) | exact HK.out)) hkp (fun k_ hs_ => (fun e_ => (HO0_1.out.1 k_ e_.symm)) hs_)); have n3_ := Aside0.mk (hb); clear HO0_1 BK658 HK HB; revert n0_ n1_ n2_ n3_; intro HO0_1 BK658 HK HB; (try clear hb); (try clear hkp); (try clear hy0)))
 go_ret
 exact ⟨by first | rfl | (simp [errW_none, errW_some] <;> rfl) | (simp [*, errW_none, errW_some] <;> rfl), Rz HO0_1.out, Bq, by repeat (first | (with_reducible first | exact HK.out | apply Kept.alloc | apply Kept.drewN | apply Kept.drew | refine Kept.setCell ?_ (.inr GW658.out) _) | exact HK.out)⟩

def laws_markTrie.f (k : Nat) (a0_0 : Int) (l0_1 : List Int) (a0_2 : Int) (l0_3 : List Int) (a0_4 : ByteArray) (a1 : Int) : Option (Int × List Int × List Int) := (laws_markBits.f k a0_0 l0_1 a1).bind fun bt662 => ((laws_markBits.f k a0_2 l0_3 bt662.1).bind fun bt664 => (some (bt664.1, bt662.2, bt664.2)))
theorem laws_markTrie.mono : ∀ a0 a1 a2 a3 a4 a5 k, LeO (laws_markTrie.f k a0 a1 a2 a3 a4 a5) (laws_markTrie.f (k + 1) a0 a1 a2 a3 a4 a5) := by
 intro a0 a1 a2 a3 a4 a5 k
 unfold laws_markTrie.f
 repeat' first | (with_reducible first | exact laws_markBits.mono _ _ _ _ | exact LeO.refl _ | exact LeO.none _ | refine LeO.ite ?_ ?_ | refine LeO.bind ?_ (fun _ => ?_)) | exact LeO.none _ | refine LeO.ite ?_ ?_ | refine LeO.bind ?_ (fun _ => ?_)
set_option maxHeartbeats 8000000 in
set_option maxRecDepth 100000 in
theorem laws_markTrie.calls (k : Nat) (a0_0 : Int) (P0_1_ : Nat → Prop) (u9000_ : Value) (l0_1 : List Int) (a0_2 : Int) (P0_3_ : Nat → Prop) (u9001_ : Value) (l0_3 : List Int) (a0_4 : ByteArray) (a1 : Int) (r1 : Int) (r2 : List Int) (r3 : List Int) (w0 w : World) (hB : Below w0.heap.size w0 w) (ho0_1 : Kd.R (Kd.int .i64) 3 w w0.heap.size P0_1_ u9000_ l0_1) (hp0_1_0_3 : ∀ k_, P0_1_ k_ → ¬ P0_3_ k_) (ho0_3 : Kd.R (Kd.int .i64) 3 w w0.heap.size P0_3_ u9001_ l0_3) (hp0_3_0_1 : ∀ k_, P0_3_ k_ → ¬ P0_1_ k_) (h : laws_markTrie.f k a0_0 l0_1 a0_2 l0_3 a0_4 a1 = some (r1, r2, r3)) :
  Calls Try.prog 27 #[.agg #[.int .i64 a0_0, u9000_, .int .i64 a0_2, u9001_, .string a0_4], .int .i64 a1] w fun e w' => e = .returned (.int .i64 r1) ∧ Kd.R (Kd.int .i64) 3 w' w0.heap.size (fun k_ => ((P0_1_ k_ ∨ P0_3_ k_) ∨ w.heap.size ≤ k_)) u9000_ r2 ∧ Kd.R (Kd.int .i64) 3 w' w0.heap.size (fun k_ => ((P0_1_ k_ ∨ P0_3_ k_) ∨ w.heap.size ≤ k_)) u9001_ r3 ∧ Below w0.heap.size w0 w' ∧ Kept w w' (fun k_ => P0_1_ k_ ∨ P0_3_ k_) := by
 have hu32 := Try.underlying32; have hu30 := Try.underlying30; have HO0_1 := Aside0.mk (show Kd.R (Kd.int .i64) 3 w w0.heap.size (fun k_ => ((P0_1_ k_ ∨ P0_3_ k_) ∨ w.heap.size ≤ k_) ∧ some k_ ≠ (u9001_ : Value).ownBlock) u9000_ l0_1 from Kd.R_mono ho0_1 (fun k_ hk => ⟨(.inl (.inl hk)), fun e_ => hp0_1_0_3 k_ hk (ho0_3.1 k_ e_.symm)⟩)); have HO0_3 := Aside0.mk (show Kd.R (Kd.int .i64) 3 w w0.heap.size (fun k_ => ((P0_1_ k_ ∨ P0_3_ k_) ∨ w.heap.size ≤ k_) ∧ some k_ ≠ (u9000_ : Value).ownBlock) u9001_ l0_3 from Kd.R_mono ho0_3 (fun k_ hk => ⟨(.inl (.inr hk)), fun e_ => hp0_3_0_1 k_ hk (ho0_1.1 k_ e_.symm)⟩)); have HK := Aside0.mk (Kept.refl w (fun k_ => P0_1_ k_ ∨ P0_3_ k_)); have HW0 := Aside0.mk hB.size; have HB := Aside0.mk hB; clear hB; have H : ((laws_markBits.f k a0_0 l0_1 a1).bind fun bt662 => ((laws_markBits.f k a0_2 l0_3 bt662.1).bind fun bt664 => (some (bt664.1, bt662.2, bt664.2)))) = some (r1, r2, r3) := h; clear h; replace H := Option.bind_eq_some_iff.mp H; obtain ⟨⟨t662, t663⟩, A30, H⟩ := H; replace H : ((laws_markBits.f k a0_2 l0_3 t662).bind fun bt664 => (some (bt664.1, t663, bt664.2))) = some (r1, r2, r3) := H; have A3 := Aside0.mk A30; clear A30; replace H := Option.bind_eq_some_iff.mp H; obtain ⟨⟨t664, t665⟩, A40, H⟩ := H; replace H : (some (t664, t663, t665)) = some (r1, r2, r3) := H; have A4 := Aside0.mk A40; clear A40
 simp only [Option.some.injEq, Prod.mk.injEq] at H
 obtain ⟨rfl, rfl, rfl⟩ := H; obtain ⟨Ao5, co5, eo5⟩ := Kd.R_slice HO0_1.out; subst eo5; obtain ⟨Ao6, co6, eo6⟩ := Kd.R_slice HO0_3.out; subst eo6
 go_enter Try.func27, Try.ntmps27
 go_wp2_with (first | ((with_reducible refine gate_dst (N := 2) rfl ?_); refine bE 2 #[.int .i64 a0_0, .slice Ao5 l0_1.length co5, .int .i64 a0_2, .slice Ao6 l0_3.length co6, .string a0_4] 32 ?_; intro gb661 hg w7 hbox hb; have n0_ := Rb HO0_1 hb; have n1_ := Rb HO0_3 hb; have n2_ := Aside0.mk (Kept.below (S := (fun k_ => P0_1_ k_ ∨ P0_3_ k_)) (by repeat (first | (with_reducible first | exact HK.out | apply Kept.alloc | apply Kept.drewN | apply Kept.drew) | exact HK.out)) hb); have n3_ := Bb HB hb; have n4_ := Aside0.mk (hbox); have n5_ := Aside0.mk ((by rw [hg]; exact (by first | exact HK.out.1 | exact (show Kept w _ (fun k_ => P0_1_ k_ ∨ P0_3_ k_) from by repeat (first | (with_reducible first | exact HK.out | apply Kept.alloc | apply Kept.drewN | apply Kept.drew) | exact HK.out)).1) : w.heap.size ≤ gb661)); have n6_ := Aside0.mk ((by rw [hg]; exact (below_size (Bz HB.out)) : w0.heap.size ≤ gb661)); clear HO0_1 HO0_3 HK HB; revert n0_ n1_ n2_ n3_ n4_ n5_ n6_; intro HO0_1 HO0_3 HK HB BK661 GW661 GE661; clear hb hbox hg; obtain ⟨hcz8_0, hcz8_1, hcz8_2, hcz8_3, hcz8_4, hfz8_0, hfz8_1, hfz8_2, hfz8_3, hfz8_4⟩ := cf5 (w := w7) BK661) | ((with_reducible refine gate_callee (f := 58) rfl ?_); refine gL (some 8) Try.func58 #[.agg #[.int .i64 a0_0, .slice Ao5 l0_1.length co5], .int .i64 a1] ?_; (with_reducible refine (laws_markBits.calls k a0_0 (fun k_ => some k_ = (.slice Ao5 l0_1.length co5 : Value).ownBlock) (.slice Ao5 l0_1.length co5) l0_1 a1 t662 t663 w0 _ ?side1 ?side2 A3.out).mono ?_); (case side1 => repeat (first | (with_reducible first | exact HB.out | apply below_alloc | apply pw_below_drewN | apply below_drew1 | refine below_set ?_ GE661.out) | exact HB.out)); (case side2 => exact Kd.R_tight rfl HO0_1.out); rintro e w9 ⟨rfl, hy0, hb, hkp⟩; refine ⟨_, rfl, ?_⟩; have n0_ := Aside0.mk (Kd.R_reok rfl hy0 (fun k_ e_ => HO0_1.out.1 k_ e_)); have n1_ := Aside0.mk (Kd.R_mono (ok' := fun k_ => ((P0_1_ k_ ∨ P0_3_ k_) ∨ w.heap.size ≤ k_) ∧ some k_ ≠ (.slice Ao5 l0_1.length co5 : Value).ownBlock) (Kd.R_keptB (HO0_3.out) hkp (fun k_ hk_ hs_ => (hk_.2) hs_)) (fun k_ hk_ => ⟨hk_.1.1, hk_.1.2⟩)); have n2_ := Aside0.mk (blk_kept (Kz BK661.out) hkp (fun hs_ => (fun e_ => (Kd.R_ne HO0_1.out BK661.out (by decide)) e_) hs_)); have n3_ := Aside0.mk (Kept.then_ (S := (fun k_ => P0_1_ k_ ∨ P0_3_ k_)) (by repeat (first | (with_reducible first | exact HK.out | apply Kept.alloc | apply Kept.drewN | apply Kept.drew | refine Kept.setCell ?_ (.inr GW661.out) _) | exact HK.out)) hkp (fun k_ hs_ => (fun e_ => (HO0_1.out.1 k_ e_.symm).1) hs_)); have n4_ := Aside0.mk (hb); clear HO0_1 HO0_3 BK661 HK HB; revert n0_ n1_ n2_ n3_ n4_; intro HO0_1 HO0_3 BK661 HK HB; (try clear hb); (try clear hkp); (try clear hy0); obtain ⟨hcz10_0, hcz10_1, hcz10_2, hcz10_3, hcz10_4, hfz10_0, hfz10_1, hfz10_2, hfz10_3, hfz10_4⟩ := cf5 (w := w9) BK661) | ((with_reducible refine gate_callee (f := 58) rfl ?_); refine gL (some 12) Try.func58 #[.agg #[.int .i64 a0_2, .slice Ao6 l0_3.length co6], .int .i64 t662] ?_; (with_reducible refine (laws_markBits.calls k a0_2 (fun k_ => some k_ = (.slice Ao6 l0_3.length co6 : Value).ownBlock) (.slice Ao6 l0_3.length co6) l0_3 t662 t664 t665 w0 _ ?side1 ?side2 A4.out).mono ?_); (case side1 => repeat (first | (with_reducible first | exact HB.out | apply below_alloc | apply pw_below_drewN | apply below_drew1 | refine below_set ?_ GE661.out) | exact HB.out)); (case side2 => exact Kd.R_tight rfl HO0_3.out); rintro e w11 ⟨rfl, hy0, hb, hkp⟩; refine ⟨_, rfl, ?_⟩; have n0_ := Aside0.mk (Kd.R_mono (ok' := fun k_ => ((P0_1_ k_ ∨ P0_3_ k_) ∨ w.heap.size ≤ k_) ∧ some k_ ≠ (.slice Ao6 l0_3.length co6 : Value).ownBlock) (Kd.R_keptB (HO0_1.out) hkp (fun k_ hk_ hs_ => (hk_.2) hs_)) (fun k_ hk_ => ⟨hk_.1.1, hk_.1.2⟩)); have n1_ := Aside0.mk (Kd.R_reok rfl hy0 (fun k_ e_ => HO0_3.out.1 k_ e_)); have n2_ := Aside0.mk (blk_kept (Kz BK661.out) hkp (fun hs_ => (fun e_ => (Kd.R_ne HO0_3.out BK661.out (by decide)) e_) hs_)); have n3_ := Aside0.mk (Kept.then_ (S := (fun k_ => P0_1_ k_ ∨ P0_3_ k_)) (by repeat (first | (with_reducible first | exact HK.out | apply Kept.alloc | apply Kept.drewN | apply Kept.drew | refine Kept.setCell ?_ (.inr GW661.out) _) | exact HK.out)) hkp (fun k_ hs_ => (fun e_ => (HO0_3.out.1 k_ e_.symm).1) hs_)); have n4_ := Aside0.mk (hb); clear HO0_1 HO0_3 BK661 HK HB; revert n0_ n1_ n2_ n3_ n4_; intro HO0_1 HO0_3 BK661 HK HB; (try clear hb); (try clear hkp); (try clear hy0)))
 go_ret
 exact ⟨by first | rfl | (simp [errW_none, errW_some] <;> rfl) | (simp [*, errW_none, errW_some] <;> rfl), Rz (Kd.R_mono HO0_1.out (fun _ hk => hk.1)), Rz (Kd.R_mono HO0_3.out (fun _ hk => hk.1)), Bq, by repeat (first | (with_reducible first | exact HK.out | apply Kept.alloc | apply Kept.drewN | apply Kept.drew | refine Kept.setCell ?_ (.inr GW661.out) _) | exact HK.out)⟩

def laws_heldIntS.l0 : Nat → List Int → Int → Int → Option (Int)
 | 0, _, _, _ => none
 | k + 1, x0, x1, x5 => if x5 < (x0.length : Int) then (if 0 ≤ x5 then (if (rd x0 x5) = x1 then (laws_heldIntS.l0 k x0 (wrap64 (x1 + 1)) (wrap64 (x5 + 1))) else (some (-1))) else (none)) else (some x1)
def laws_heldIntS.f (k : Nat) (l0 : List Int) (a1 : Int) : Option (Int) := laws_heldIntS.l0 k l0 a1 0
theorem laws_heldIntS.mono_l : ∀ k, (∀ y0 y1 y2, LeO (laws_heldIntS.l0 k y0 y1 y2) (laws_heldIntS.l0 (k + 1) y0 y1 y2))
 | 0 => fun _ _ _ r h => by simp [laws_heldIntS.l0] at h
 | k + 1 => by
  have ih0 := laws_heldIntS.mono_l k
  ·intro y0 y1 y2
   unfold laws_heldIntS.l0
   repeat' first | (with_reducible first | exact ih0 _ _ _ | exact LeO.refl _ | exact LeO.none _ | refine LeO.ite ?_ ?_ | refine LeO.bind ?_ (fun _ => ?_)) | exact LeO.none _ | refine LeO.ite ?_ ?_ | refine LeO.bind ?_ (fun _ => ?_)
theorem laws_heldIntS.mono : ∀ a0 a1 k, LeO (laws_heldIntS.f k a0 a1) (laws_heldIntS.f (k + 1) a0 a1) := by
 intro a0 a1 k; have ih0 := laws_heldIntS.mono_l k
 unfold laws_heldIntS.f
 repeat' first | (with_reducible first | exact ih0 _ _ _ | exact LeO.refl _ | exact LeO.none _ | refine LeO.ite ?_ ?_ | refine LeO.bind ?_ (fun _ => ?_)) | exact LeO.none _ | refine LeO.ite ?_ ?_ | refine LeO.bind ?_ (fun _ => ?_)
set_option maxHeartbeats 8000000 in
set_option maxRecDepth 100000 in
theorem laws_heldIntS.calls (k : Nat) (A0 : Option Addr) (c0 : Nat) (l0 : List Int) (a1 : Int) (r : Int) (w : World) (hr0 : Kd.C (Kd.int .i64) w A0 l0.length l0) (hc0 : l0.length ≤ c0) (h : laws_heldIntS.f k l0 a1 = some r) :
  Calls Try.prog 86 #[.slice A0 l0.length c0, .int .i64 a1] w fun e w' => e = .returned (.int .i64 r) ∧ Drawn0 w w' := by
 have HR0 := Aside0.mk hr0; have HC0 := Aside0.mk hc0; clear hr0 hc0; have H : (laws_heldIntS.l0 k l0 a1 0) = some r := h; clear h; have H' := Aside0.mk H; clear H
 go_enter Try.func86, Try.ntmps86
 go_wp2
 go_loopg [1, 5] k (fun kq v1 v5 w' => ∃ (x1_1 : Int) (x5_1 : Int), v1 = .int .i64 x1_1 ∧ v5 = .int .i64 x5_1 ∧ Aside0 (laws_heldIntS.l0 kq l0 x1_1 x5_1 = some r) ∧ Aside0 (kq ≤ k) ∧ Drawn0 w w')
 case atStart => exact ⟨(a1), (0), (by first | rfl | (simp; done) | (simp [*]; done)), (by first | rfl | (simp; done) | (simp [*]; done)), H', ⟨Nat.le_refl _⟩, by repeat (first | exact Drawn0.refl _ | apply Drawn0.step)⟩
 case round =>
  clear H'
  try clear p2
  obtain ⟨x1_1, x5_1, rfl, rfl, HA, HK1, ⟨m1, rfl⟩⟩ := hrel; cases gk with
  | zero => exact absurd HA.out (by simp [laws_heldIntS.l0])
  | succ k1 =>
   have H := HA.out; clear HA
   simp only [laws_heldIntS.l0] at H
   by_cases c3 : x5_1 < (l0.length : Int)
   ·rw [if_pos c3] at H
    have c3b0 : decide (x5_1 < (l0.length : Int)) = true := decide_eq_true c3; clear c3
    by_cases c4 : 0 ≤ x5_1
    ·rw [if_pos c4] at H
     have c4b0 : decide (0 ≤ x5_1) = true := decide_eq_true c4; clear c4
     by_cases c5 : (rd l0 x5_1) = x1_1
     ·rw [if_pos c5] at H
      have c5b0 : ((rd l0 x5_1) == x1_1) = true := beq_iff_eq.mpr c5; have c5b1 : ((rd l0 x5_1) != x1_1) = false := bne_eq_false_iff_eq.mpr c5; clear c5; have H' := Aside0.mk H; clear H; have p666 : 0 ≤ (x5_1 : Int) := dT; have q666 : x5_1 < (l0.length : Int) := dT; obtain ⟨ad666, e666, hx666_0⟩ := Kd.at_int HR0.out x5_1 p666 q666; cases e666; replace p666 := eq_true p666; replace q666 := eq_true q666
      go_wp2
      go_roundg k1
      case measure => have := HK1.out; omega
      case rel => exact ⟨(wrap64 (x1_1 + 1)), (wrap64 (x5_1 + 1)), (by first | rfl | (simp; done) | (simp [*]; done)), (by first | rfl | (simp; done) | (simp [*]; done)), H', ⟨by have := HK1.out; omega⟩, by repeat (first | exact Drawn0.refl _ | apply Drawn0.step)⟩
     ·rw [if_neg c5] at H
      have c5b0 : ((rd l0 x5_1) == x1_1) = false := beq_eq_false_iff_ne.mpr c5; have c5b1 : ((rd l0 x5_1) != x1_1) = true := bne_iff_ne.mpr c5; obtain rfl := Option.some.inj H; have p666 : 0 ≤ (x5_1 : Int) := dT; have q666 : x5_1 < (l0.length : Int) := dT; obtain ⟨ad666, e666, hx666_0⟩ := Kd.at_int HR0.out x5_1 p666 q666; cases e666; replace p666 := eq_true p666; replace q666 := eq_true q666
      go_wp2
      go_ret
      exact ⟨by first | rfl | (simp; done) | (simp [*]; done), by repeat (first | exact Drawn0.refl _ | apply Drawn0.step)⟩
    ·rw [if_neg c4] at H
     exact absurd H (by simp)
   ·rw [if_neg c3] at H
    have c3b0 : decide (x5_1 < (l0.length : Int)) = false := decide_eq_false c3; clear c3; obtain rfl := Option.some.inj H
    go_wp2
    go_ret
    exact ⟨by first | rfl | (simp; done) | (simp [*]; done), by repeat (first | exact Drawn0.refl _ | apply Drawn0.step)⟩

def laws_heldBits.f (k : Nat) (a0_0 : Int) (l0_1 : List Int) (a1 : Int) : Option (Int) := (laws_heldIntS.f k l0_1 a1).bind fun t668 => (if t668 < 0 then (some (-1)) else (some t668))
theorem laws_heldBits.mono : ∀ a0 a1 a2 k, LeO (laws_heldBits.f k a0 a1 a2) (laws_heldBits.f (k + 1) a0 a1 a2) := by
 intro a0 a1 a2 k
 unfold laws_heldBits.f
 repeat' first | (with_reducible first | exact laws_heldIntS.mono _ _ _ | exact LeO.refl _ | exact LeO.none _ | refine LeO.ite ?_ ?_ | refine LeO.bind ?_ (fun _ => ?_)) | exact LeO.none _ | refine LeO.ite ?_ ?_ | refine LeO.bind ?_ (fun _ => ?_)
set_option maxHeartbeats 8000000 in
set_option maxRecDepth 100000 in
theorem laws_heldBits.calls (k : Nat) (a0_0 : Int) (A0_1 : Option Addr) (c0_1 : Nat) (l0_1 : List Int) (a1 : Int) (r : Int) (w : World) (hr0_1 : Kd.C (Kd.int .i64) w A0_1 l0_1.length l0_1) (hc0_1 : l0_1.length ≤ c0_1) (h : laws_heldBits.f k a0_0 l0_1 a1 = some r) :
  Calls Try.prog 59 #[.agg #[.int .i64 a0_0, .slice A0_1 l0_1.length c0_1], .int .i64 a1] w fun e w' => e = .returned (.int .i64 r) ∧ Below w.heap.size w w' := by
 have hu30 := Try.underlying30; have HR0_1 := Aside0.mk hr0_1; have HC0_1 := Aside0.mk hc0_1; clear hr0_1 hc0_1; have HB := Aside0.mk (Below.refl w.heap.size w); have H : ((laws_heldIntS.f k l0_1 a1).bind fun t668 => (if t668 < 0 then (some (-1)) else (some t668))) = some r := h; clear h; replace H := Option.bind_eq_some_iff.mp H; obtain ⟨t668, A30, H⟩ := H; replace H : (if t668 < 0 then (some (-1)) else (some t668)) = some r := H; have A3 := Aside0.mk A30; clear A30
 by_cases c4 : t668 < 0
 ·rw [if_pos c4] at H
  have c4b0 : decide (t668 < 0) = true := decide_eq_true c4; clear c4; obtain rfl := Option.some.inj H
  go_enter Try.func59, Try.ntmps59
  go_wp2_with (first | ((with_reducible refine gate_dst (N := 2) rfl ?_); refine bE 2 #[.int .i64 a0_0, .slice A0_1 l0_1.length c0_1] 30 ?_; intro gb667 hg w5 hbox hb; have n0_ := Bb HB hb; have n1_ := Aside0.mk (hbox); have n2_ := Gl HB hg; have n3_ := Gl HB hg; clear HB; revert n0_ n1_ n2_ n3_; intro HB BK667 GW667 GE667; clear hb hbox hg; obtain ⟨hcz6_0, hcz6_1, hfz6_0, hfz6_1⟩ := cf2 (w := w5) BK667) | ((with_reducible refine gate_callee (f := 86) rfl ?_); refine gL (some 8) Try.func86 #[.slice A0_1 l0_1.length c0_1, .int .i64 a1] ?_; (with_reducible refine (laws_heldIntS.calls k _ _ l0_1 a1 t668 _ ?side1 ?side2 A3.out).mono ?_); (case side1 => exact Cz (Kd.C_below HR0_1.out HB.out)); (case side2 => exact HC0_1.out); rintro e w' ⟨rfl, ⟨nd, rfl⟩⟩; refine ⟨_, rfl, ?_⟩))
  go_ret
  exact ⟨by first | rfl | (simp [errW_none, errW_some] <;> rfl) | (simp [*, errW_none, errW_some] <;> rfl), Bq⟩
 ·rw [if_neg c4] at H
  have c4b0 : decide (t668 < 0) = false := decide_eq_false c4; clear c4; obtain rfl := Option.some.inj H
  go_enter Try.func59, Try.ntmps59
  go_wp2_with (first | ((with_reducible refine gate_dst (N := 2) rfl ?_); refine bE 2 #[.int .i64 a0_0, .slice A0_1 l0_1.length c0_1] 30 ?_; intro gb667 hg w7 hbox hb; have n0_ := Bb HB hb; have n1_ := Aside0.mk (hbox); have n2_ := Gl HB hg; have n3_ := Gl HB hg; clear HB; revert n0_ n1_ n2_ n3_; intro HB BK667 GW667 GE667; clear hb hbox hg; obtain ⟨hcz8_0, hcz8_1, hfz8_0, hfz8_1⟩ := cf2 (w := w7) BK667) | ((with_reducible refine gate_callee (f := 86) rfl ?_); refine gL (some 8) Try.func86 #[.slice A0_1 l0_1.length c0_1, .int .i64 a1] ?_; (with_reducible refine (laws_heldIntS.calls k _ _ l0_1 a1 t668 _ ?side1 ?side2 A3.out).mono ?_); (case side1 => exact Cz (Kd.C_below HR0_1.out HB.out)); (case side2 => exact HC0_1.out); rintro e w' ⟨rfl, ⟨nd, rfl⟩⟩; refine ⟨_, rfl, ?_⟩))
  go_ret
  exact ⟨by first | rfl | (simp [errW_none, errW_some] <;> rfl) | (simp [*, errW_none, errW_some] <;> rfl), Bq⟩

def laws_heldTrie.f (k : Nat) (a0_0 : Int) (l0_1 : List Int) (a0_2 : Int) (l0_3 : List Int) (a0_4 : ByteArray) (a1 : Int) : Option (Int) := (laws_heldBits.f k a0_0 l0_1 a1).bind fun t670 => (if t670 < 0 then (some (-1)) else ((laws_heldBits.f k a0_2 l0_3 t670).bind fun t671 => (if t671 < 0 then (some (-1)) else (some t671))))
theorem laws_heldTrie.mono : ∀ a0 a1 a2 a3 a4 a5 k, LeO (laws_heldTrie.f k a0 a1 a2 a3 a4 a5) (laws_heldTrie.f (k + 1) a0 a1 a2 a3 a4 a5) := by
 intro a0 a1 a2 a3 a4 a5 k
 unfold laws_heldTrie.f
 repeat' first | (with_reducible first | exact laws_heldBits.mono _ _ _ _ | exact LeO.refl _ | exact LeO.none _ | refine LeO.ite ?_ ?_ | refine LeO.bind ?_ (fun _ => ?_)) | exact LeO.none _ | refine LeO.ite ?_ ?_ | refine LeO.bind ?_ (fun _ => ?_)
set_option maxHeartbeats 8000000 in
set_option maxRecDepth 100000 in
theorem laws_heldTrie.calls (k : Nat) (a0_0 : Int) (A0_1 : Option Addr) (c0_1 : Nat) (l0_1 : List Int) (a0_2 : Int) (A0_3 : Option Addr) (c0_3 : Nat) (l0_3 : List Int) (a0_4 : ByteArray) (a1 : Int) (r : Int) (w : World) (hr0_1 : Kd.C (Kd.int .i64) w A0_1 l0_1.length l0_1) (hc0_1 : l0_1.length ≤ c0_1) (hr0_3 : Kd.C (Kd.int .i64) w A0_3 l0_3.length l0_3) (hc0_3 : l0_3.length ≤ c0_3) (h : laws_heldTrie.f k a0_0 l0_1 a0_2 l0_3 a0_4 a1 = some r) :
  Calls Try.prog 28 #[.agg #[.int .i64 a0_0, .slice A0_1 l0_1.length c0_1, .int .i64 a0_2, .slice A0_3 l0_3.length c0_3, .string a0_4], .int .i64 a1] w fun e w' => e = .returned (.int .i64 r) ∧ Below w.heap.size w w' := by
 have hu32 := Try.underlying32; have hu30 := Try.underlying30; have HR0_1 := Aside0.mk hr0_1; have HC0_1 := Aside0.mk hc0_1; clear hr0_1 hc0_1; have HR0_3 := Aside0.mk hr0_3; have HC0_3 := Aside0.mk hc0_3; clear hr0_3 hc0_3; have HB := Aside0.mk (Below.refl w.heap.size w); have H : ((laws_heldBits.f k a0_0 l0_1 a1).bind fun t670 => (if t670 < 0 then (some (-1)) else ((laws_heldBits.f k a0_2 l0_3 t670).bind fun t671 => (if t671 < 0 then (some (-1)) else (some t671))))) = some r := h; clear h; replace H := Option.bind_eq_some_iff.mp H; obtain ⟨t670, A30, H⟩ := H; replace H : (if t670 < 0 then (some (-1)) else ((laws_heldBits.f k a0_2 l0_3 t670).bind fun t671 => (if t671 < 0 then (some (-1)) else (some t671)))) = some r := H; have A3 := Aside0.mk A30; clear A30
 by_cases c4 : t670 < 0
 ·rw [if_pos c4] at H
  have c4b0 : decide (t670 < 0) = true := decide_eq_true c4; clear c4; obtain rfl := Option.some.inj H
  go_enter Try.func28, Try.ntmps28
  go_wp2_with (first | ((with_reducible refine gate_dst (N := 2) rfl ?_); refine bE 2 #[.int .i64 a0_0, .slice A0_1 l0_1.length c0_1, .int .i64 a0_2, .slice A0_3 l0_3.length c0_3, .string a0_4] 32 ?_; intro gb669 hg w5 hbox hb; have n0_ := Bb HB hb; have n1_ := Aside0.mk (hbox); have n2_ := Gl HB hg; have n3_ := Gl HB hg; clear HB; revert n0_ n1_ n2_ n3_; intro HB BK669 GW669 GE669; clear hb hbox hg; obtain ⟨hcz6_0, hcz6_1, hcz6_2, hcz6_3, hcz6_4, hfz6_0, hfz6_1, hfz6_2, hfz6_3, hfz6_4⟩ := cf5 (w := w5) BK669) | ((with_reducible refine gate_callee (f := 59) rfl ?_); refine gL (some 8) Try.func59 #[.agg #[.int .i64 a0_0, .slice A0_1 l0_1.length c0_1], .int .i64 a1] ?_; (with_reducible refine (laws_heldBits.calls k a0_0 _ _ l0_1 a1 t670 _ ?side1 ?side2 A3.out).mono ?_); (case side1 => exact Cz (Kd.C_below HR0_1.out HB.out)); (case side2 => exact HC0_1.out); rintro e w7 ⟨rfl, hb⟩; refine ⟨_, rfl, ?_⟩; have n0_ := Kb BK669 hb; have n1_ := Bc HB hb; clear BK669 HB; revert n0_ n1_; intro BK669 HB; (try clear hb); (try clear hb2); (try clear hk); (try clear hi)))
  go_ret
  exact ⟨by first | rfl | (simp [errW_none, errW_some] <;> rfl) | (simp [*, errW_none, errW_some] <;> rfl), Bq⟩
 ·rw [if_neg c4] at H
  have c4b0 : decide (t670 < 0) = false := decide_eq_false c4; clear c4; replace H := Option.bind_eq_some_iff.mp H; obtain ⟨t671, A80, H⟩ := H; replace H : (if t671 < 0 then (some (-1)) else (some t671)) = some r := H; have A8 := Aside0.mk A80; clear A80
  by_cases c9 : t671 < 0
  ·rw [if_pos c9] at H
   have c9b0 : decide (t671 < 0) = true := decide_eq_true c9; clear c9; obtain rfl := Option.some.inj H
   go_enter Try.func28, Try.ntmps28
   go_wp2_with (first | ((with_reducible refine gate_dst (N := 2) rfl ?_); refine bE 2 #[.int .i64 a0_0, .slice A0_1 l0_1.length c0_1, .int .i64 a0_2, .slice A0_3 l0_3.length c0_3, .string a0_4] 32 ?_; intro gb669 hg w10 hbox hb; have n0_ := Bb HB hb; have n1_ := Aside0.mk (hbox); have n2_ := Gl HB hg; have n3_ := Gl HB hg; clear HB; revert n0_ n1_ n2_ n3_; intro HB BK669 GW669 GE669; clear hb hbox hg; obtain ⟨hcz11_0, hcz11_1, hcz11_2, hcz11_3, hcz11_4, hfz11_0, hfz11_1, hfz11_2, hfz11_3, hfz11_4⟩ := cf5 (w := w10) BK669) | ((with_reducible refine gate_callee (f := 59) rfl ?_); refine gL (some 8) Try.func59 #[.agg #[.int .i64 a0_0, .slice A0_1 l0_1.length c0_1], .int .i64 a1] ?_; (with_reducible refine (laws_heldBits.calls k a0_0 _ _ l0_1 a1 t670 _ ?side1 ?side2 A3.out).mono ?_); (case side1 => exact Cz (Kd.C_below HR0_1.out HB.out)); (case side2 => exact HC0_1.out); rintro e w12 ⟨rfl, hb⟩; refine ⟨_, rfl, ?_⟩; have n0_ := Kb BK669 hb; have n1_ := Bc HB hb; clear BK669 HB; revert n0_ n1_; intro BK669 HB; (try clear hb); (try clear hb2); (try clear hk); (try clear hi); obtain ⟨hcz13_0, hcz13_1, hcz13_2, hcz13_3, hcz13_4, hfz13_0, hfz13_1, hfz13_2, hfz13_3, hfz13_4⟩ := cf5 (w := w12) BK669) | ((with_reducible refine gate_callee (f := 59) rfl ?_); refine gL (some 14) Try.func59 #[.agg #[.int .i64 a0_2, .slice A0_3 l0_3.length c0_3], .int .i64 t670] ?_; (with_reducible refine (laws_heldBits.calls k a0_2 _ _ l0_3 t670 t671 _ ?side1 ?side2 A8.out).mono ?_); (case side1 => exact Cz (Kd.C_below HR0_3.out HB.out)); (case side2 => exact HC0_3.out); rintro e w14 ⟨rfl, hb⟩; refine ⟨_, rfl, ?_⟩; have n0_ := Kb BK669 hb; have n1_ := Bc HB hb; clear BK669 HB; revert n0_ n1_; intro BK669 HB; (try clear hb); (try clear hb2); (try clear hk); (try clear hi)))
   go_ret
   exact ⟨by first | rfl | (simp [errW_none, errW_some] <;> rfl) | (simp [*, errW_none, errW_some] <;> rfl), Bq⟩
  ·rw [if_neg c9] at H
   have c9b0 : decide (t671 < 0) = false := decide_eq_false c9; clear c9; obtain rfl := Option.some.inj H
   go_enter Try.func28, Try.ntmps28
   go_wp2_with (first | ((with_reducible refine gate_dst (N := 2) rfl ?_); refine bE 2 #[.int .i64 a0_0, .slice A0_1 l0_1.length c0_1, .int .i64 a0_2, .slice A0_3 l0_3.length c0_3, .string a0_4] 32 ?_; intro gb669 hg w15 hbox hb; have n0_ := Bb HB hb; have n1_ := Aside0.mk (hbox); have n2_ := Gl HB hg; have n3_ := Gl HB hg; clear HB; revert n0_ n1_ n2_ n3_; intro HB BK669 GW669 GE669; clear hb hbox hg; obtain ⟨hcz16_0, hcz16_1, hcz16_2, hcz16_3, hcz16_4, hfz16_0, hfz16_1, hfz16_2, hfz16_3, hfz16_4⟩ := cf5 (w := w15) BK669) | ((with_reducible refine gate_callee (f := 59) rfl ?_); refine gL (some 8) Try.func59 #[.agg #[.int .i64 a0_0, .slice A0_1 l0_1.length c0_1], .int .i64 a1] ?_; (with_reducible refine (laws_heldBits.calls k a0_0 _ _ l0_1 a1 t670 _ ?side1 ?side2 A3.out).mono ?_); (case side1 => exact Cz (Kd.C_below HR0_1.out HB.out)); (case side2 => exact HC0_1.out); rintro e w17 ⟨rfl, hb⟩; refine ⟨_, rfl, ?_⟩; have n0_ := Kb BK669 hb; have n1_ := Bc HB hb; clear BK669 HB; revert n0_ n1_; intro BK669 HB; (try clear hb); (try clear hb2); (try clear hk); (try clear hi); obtain ⟨hcz18_0, hcz18_1, hcz18_2, hcz18_3, hcz18_4, hfz18_0, hfz18_1, hfz18_2, hfz18_3, hfz18_4⟩ := cf5 (w := w17) BK669) | ((with_reducible refine gate_callee (f := 59) rfl ?_); refine gL (some 14) Try.func59 #[.agg #[.int .i64 a0_2, .slice A0_3 l0_3.length c0_3], .int .i64 t670] ?_; (with_reducible refine (laws_heldBits.calls k a0_2 _ _ l0_3 t670 t671 _ ?side1 ?side2 A8.out).mono ?_); (case side1 => exact Cz (Kd.C_below HR0_3.out HB.out)); (case side2 => exact HC0_3.out); rintro e w19 ⟨rfl, hb⟩; refine ⟨_, rfl, ?_⟩; have n0_ := Kb BK669 hb; have n1_ := Bc HB hb; clear BK669 HB; revert n0_ n1_; intro BK669 HB; (try clear hb); (try clear hb2); (try clear hk); (try clear hi)))
   go_ret
   exact ⟨by first | rfl | (simp [errW_none, errW_some] <;> rfl) | (simp [*, errW_none, errW_some] <;> rfl), Bq⟩

mutual
def laws_FnExactBuildTrie.j0 : Nat → List ByteArray → Bool → List ByteArray → Bool → Bool → Int → List Int → Int → List Int → ByteArray → Int → List Int → Int → List Int → ByteArray → Option (Bool)
 | 0, _, _, _, _, _, _, _, _, _, _, _, _, _, _, _ => none
 | k + 1, x0, x5, x6, x8, x40, x687000, x687001, x687002, x687003, x687004, x701000, x701001, x701002, x701003, x701004 => if x40 = true then (some false) else ((laws_toStringS.f k x0).bind fun t702 => ((laws_eqStringS.f k x6 t702).bind fun t705 => (if t705 = true then ((laws_markStringS.f k x6 1).bind fun bt706 => (if bt706.1 < 0 then (laws_FnExactBuildTrie.j1 k x0 x5 true x687000 x687001 x687002 x687003 x687004 x701000 x701001 x701002 x701003 x701004) else ((laws_eqTrie.f k x701000 x701001 x701002 x701003 x701004 x687000 x687001 x687002 x687003 x687004).bind fun t708 => (if t708 = true then (laws_FnExactBuildTrie.j1 k x0 x5 (x8 != x5) x687000 x687001 x687002 x687003 x687004 x701000 x701001 x701002 x701003 x701004) else (laws_FnExactBuildTrie.j1 k x0 x5 true x687000 x687001 x687002 x687003 x687004 x701000 x701001 x701002 x701003 x701004))))) else (some false))))
def laws_FnExactBuildTrie.j1 : Nat → List ByteArray → Bool → Bool → Int → List Int → Int → List Int → ByteArray → Int → List Int → Int → List Int → ByteArray → Option (Bool)
 | 0, _, _, _, _, _, _, _, _, _, _, _, _, _ => none
 | k + 1, x0, x5, x61, x687000, x687001, x687002, x687003, x687004, x701000, x701001, x701002, x701003, x701004 => if x61 = true then (some false) else ((laws_markTrie.f k x701000 x701001 x701002 x701003 x701004 1).bind fun bt709 => ((laws_heldTrie.f k x701000 bt709.2.1 x701002 bt709.2.2 x701004 1).bind fun t712 => (if t712 < 0 then (some false) else (if t712 = bt709.1 then ((laws_toStringS.f k x0).bind fun t713 => ((impl_BuildTrie.f k t713).bind fun bt716 => ((laws_eqTrie.f k bt716.1 bt716.2.1 bt716.2.2.1 bt716.2.2.2.1 bt716.2.2.2.2.1 x687000 x687001 x687002 x687003 x687004).bind fun t727 => (if t727 = true then (laws_FnExactBuildTrie.j2 k bt709.1 (bt716.2.2.2.2.2 != x5) x701000 bt709.2.1 x701002 bt709.2.2 x701004) else (laws_FnExactBuildTrie.j2 k bt709.1 true x701000 bt709.2.1 x701002 bt709.2.2 x701004))))) else (some false)))))
def laws_FnExactBuildTrie.j2 : Nat → Int → Bool → Int → List Int → Int → List Int → ByteArray → Option (Bool)
 | 0, _, _, _, _, _, _, _ => none
 | k + 1, x10, x87, x701000, x701001, x701002, x701003, x701004 => if x87 = true then (some false) else ((laws_heldTrie.f k x701000 x701001 x701002 x701003 x701004 1).bind fun t728 => (if t728 < 0 then (some false) else (if t728 = x10 then (some true) else (some false))))
end
def laws_FnExactBuildTrie.f (k : Nat) (l0 : List ByteArray) : Option (Bool) := (laws_szStringS.f k l0 1048576).bind fun t672 => (if t672 < 0 then (some true) else ((laws_toStringS.f k l0).bind fun t673 => ((spec_BuildTrie.f k t673).bind fun bt676 => ((laws_toStringS.f k l0).bind fun t687 => ((impl_BuildTrie.f k t687).bind fun bt690 => ((laws_eqTrie.f k bt690.1 bt690.2.1 bt690.2.2.1 bt690.2.2.2.1 bt690.2.2.2.2.1 bt676.1 bt676.2.1 bt676.2.2.1 bt676.2.2.2.1 bt676.2.2.2.2.1).bind fun t701 => (if t701 = true then (laws_FnExactBuildTrie.j0 k l0 bt676.2.2.2.2.2 t687 bt690.2.2.2.2.2 (bt690.2.2.2.2.2 != bt676.2.2.2.2.2) bt676.1 bt676.2.1 bt676.2.2.1 bt676.2.2.2.1 bt676.2.2.2.2.1 bt690.1 bt690.2.1 bt690.2.2.1 bt690.2.2.2.1 bt690.2.2.2.2.1) else (laws_FnExactBuildTrie.j0 k l0 bt676.2.2.2.2.2 t687 bt690.2.2.2.2.2 true bt676.1 bt676.2.1 bt676.2.2.1 bt676.2.2.2.1 bt676.2.2.2.2.1 bt690.1 bt690.2.1 bt690.2.2.1 bt690.2.2.2.1 bt690.2.2.2.2.1))))))))
theorem laws_FnExactBuildTrie.mono_l : ∀ k, (∀ y0 y1 y2 y3 y4 y5 y6 y7 y8 y9 y10 y11 y12 y13 y14, LeO (laws_FnExactBuildTrie.j0 k y0 y1 y2 y3 y4 y5 y6 y7 y8 y9 y10 y11 y12 y13 y14) (laws_FnExactBuildTrie.j0 (k + 1) y0 y1 y2 y3 y4 y5 y6 y7 y8 y9 y10 y11 y12 y13 y14)) ∧ (∀ y0 y1 y2 y3 y4 y5 y6 y7 y8 y9 y10 y11 y12, LeO (laws_FnExactBuildTrie.j1 k y0 y1 y2 y3 y4 y5 y6 y7 y8 y9 y10 y11 y12) (laws_FnExactBuildTrie.j1 (k + 1) y0 y1 y2 y3 y4 y5 y6 y7 y8 y9 y10 y11 y12)) ∧ (∀ y0 y1 y2 y3 y4 y5 y6, LeO (laws_FnExactBuildTrie.j2 k y0 y1 y2 y3 y4 y5 y6) (laws_FnExactBuildTrie.j2 (k + 1) y0 y1 y2 y3 y4 y5 y6))
 | 0 => ⟨fun _ _ _ _ _ _ _ _ _ _ _ _ _ _ _ r h => by simp [laws_FnExactBuildTrie.j0] at h, fun _ _ _ _ _ _ _ _ _ _ _ _ _ r h => by simp [laws_FnExactBuildTrie.j1] at h, fun _ _ _ _ _ _ _ r h => by simp [laws_FnExactBuildTrie.j2] at h⟩
 | k + 1 => by
  obtain ⟨ih0, ih1, ih2⟩ := laws_FnExactBuildTrie.mono_l k; refine ⟨?_, ?_, ?_⟩
  ·intro y0 y1 y2 y3 y4 y5 y6 y7 y8 y9 y10 y11 y12 y13 y14
   unfold laws_FnExactBuildTrie.j0
   repeat' first | (with_reducible first | exact ih0 _ _ _ _ _ _ _ _ _ _ _ _ _ _ _ | exact ih1 _ _ _ _ _ _ _ _ _ _ _ _ _ | exact ih2 _ _ _ _ _ _ _ | exact impl_BuildTrie.mono _ _ | exact laws_eqStringS.mono _ _ _ | exact laws_eqTrie.mono _ _ _ _ _ _ _ _ _ _ _ | exact laws_heldTrie.mono _ _ _ _ _ _ _ | exact laws_markStringS.mono _ _ _ | exact laws_markTrie.mono _ _ _ _ _ _ _ | exact laws_szStringS.mono _ _ _ | exact laws_toStringS.mono _ _ | exact spec_BuildTrie.mono _ _ | exact LeO.refl _ | exact LeO.none _ | refine LeO.ite ?_ ?_ | refine LeO.bind ?_ (fun _ => ?_)) | exact LeO.none _ | refine LeO.ite ?_ ?_ | refine LeO.bind ?_ (fun _ => ?_)
  ·intro y0 y1 y2 y3 y4 y5 y6 y7 y8 y9 y10 y11 y12
   unfold laws_FnExactBuildTrie.j1
   repeat' first | (with_reducible first | exact ih0 _ _ _ _ _ _ _ _ _ _ _ _ _ _ _ | exact ih1 _ _ _ _ _ _ _ _ _ _ _ _ _ | exact ih2 _ _ _ _ _ _ _ | exact impl_BuildTrie.mono _ _ | exact laws_eqStringS.mono _ _ _ | exact laws_eqTrie.mono _ _ _ _ _ _ _ _ _ _ _ | exact laws_heldTrie.mono _ _ _ _ _ _ _ | exact laws_markStringS.mono _ _ _ | exact laws_markTrie.mono _ _ _ _ _ _ _ | exact laws_szStringS.mono _ _ _ | exact laws_toStringS.mono _ _ | exact spec_BuildTrie.mono _ _ | exact LeO.refl _ | exact LeO.none _ | refine LeO.ite ?_ ?_ | refine LeO.bind ?_ (fun _ => ?_)) | exact LeO.none _ | refine LeO.ite ?_ ?_ | refine LeO.bind ?_ (fun _ => ?_)
  ·intro y0 y1 y2 y3 y4 y5 y6
   unfold laws_FnExactBuildTrie.j2
   repeat' first | (with_reducible first | exact ih0 _ _ _ _ _ _ _ _ _ _ _ _ _ _ _ | exact ih1 _ _ _ _ _ _ _ _ _ _ _ _ _ | exact ih2 _ _ _ _ _ _ _ | exact impl_BuildTrie.mono _ _ | exact laws_eqStringS.mono _ _ _ | exact laws_eqTrie.mono _ _ _ _ _ _ _ _ _ _ _ | exact laws_heldTrie.mono _ _ _ _ _ _ _ | exact laws_markStringS.mono _ _ _ | exact laws_markTrie.mono _ _ _ _ _ _ _ | exact laws_szStringS.mono _ _ _ | exact laws_toStringS.mono _ _ | exact spec_BuildTrie.mono _ _ | exact LeO.refl _ | exact LeO.none _ | refine LeO.ite ?_ ?_ | refine LeO.bind ?_ (fun _ => ?_)) | exact LeO.none _ | refine LeO.ite ?_ ?_ | refine LeO.bind ?_ (fun _ => ?_)
theorem laws_FnExactBuildTrie.mono : ∀ a0 k, LeO (laws_FnExactBuildTrie.f k a0) (laws_FnExactBuildTrie.f (k + 1) a0) := by
 intro a0 k; obtain ⟨ih0, ih1, ih2⟩ := laws_FnExactBuildTrie.mono_l k
 unfold laws_FnExactBuildTrie.f
 repeat' first | (with_reducible first | exact ih0 _ _ _ _ _ _ _ _ _ _ _ _ _ _ _ | exact ih1 _ _ _ _ _ _ _ _ _ _ _ _ _ | exact ih2 _ _ _ _ _ _ _ | exact impl_BuildTrie.mono _ _ | exact laws_eqStringS.mono _ _ _ | exact laws_eqTrie.mono _ _ _ _ _ _ _ _ _ _ _ | exact laws_heldTrie.mono _ _ _ _ _ _ _ | exact laws_markStringS.mono _ _ _ | exact laws_markTrie.mono _ _ _ _ _ _ _ | exact laws_szStringS.mono _ _ _ | exact laws_toStringS.mono _ _ | exact spec_BuildTrie.mono _ _ | exact LeO.refl _ | exact LeO.none _ | refine LeO.ite ?_ ?_ | refine LeO.bind ?_ (fun _ => ?_)) | exact LeO.none _ | refine LeO.ite ?_ ?_ | refine LeO.bind ?_ (fun _ => ?_)
set_option maxHeartbeats 8000000 in
set_option maxRecDepth 100000 in
theorem laws_FnExactBuildTrie.calls (k : Nat) (A0 : Option Addr) (c0 : Nat) (l0 : List ByteArray) (r : Bool) (w : World) (hr0 : Kd.C Kd.string w A0 l0.length l0) (hc0 : l0.length ≤ c0) (h : laws_FnExactBuildTrie.f k l0 = some r) :
  Calls Try.prog 6 #[.slice A0 l0.length c0] w fun e w' => e = .returned (.bool r) ∧ Below w.heap.size w w' := by
 have hu32 := Try.underlying32; have HR0 := Aside0.mk hr0; have HC0 := Aside0.mk hc0; clear hr0 hc0; have HB := Aside0.mk (Below.refl w.heap.size w); have H : ((laws_szStringS.f k l0 1048576).bind fun t672 => (if t672 < 0 then (some true) else ((laws_toStringS.f k l0).bind fun t673 => ((spec_BuildTrie.f k t673).bind fun bt676 => ((laws_toStringS.f k l0).bind fun t687 => ((impl_BuildTrie.f k t687).bind fun bt690 => ((laws_eqTrie.f k bt690.1 bt690.2.1 bt690.2.2.1 bt690.2.2.2.1 bt690.2.2.2.2.1 bt676.1 bt676.2.1 bt676.2.2.1 bt676.2.2.2.1 bt676.2.2.2.2.1).bind fun t701 => (if t701 = true then (laws_FnExactBuildTrie.j0 k l0 bt676.2.2.2.2.2 t687 bt690.2.2.2.2.2 (bt690.2.2.2.2.2 != bt676.2.2.2.2.2) bt676.1 bt676.2.1 bt676.2.2.1 bt676.2.2.2.1 bt676.2.2.2.2.1 bt690.1 bt690.2.1 bt690.2.2.1 bt690.2.2.2.1 bt690.2.2.2.2.1) else (laws_FnExactBuildTrie.j0 k l0 bt676.2.2.2.2.2 t687 bt690.2.2.2.2.2 true bt676.1 bt676.2.1 bt676.2.2.1 bt676.2.2.2.1 bt676.2.2.2.2.1 bt690.1 bt690.2.1 bt690.2.2.1 bt690.2.2.2.1 bt690.2.2.2.2.1))))))))) = some r := h; clear h; replace H := Option.bind_eq_some_iff.mp H; obtain ⟨t672, A20, H⟩ := H; replace H : (if t672 < 0 then (some true) else ((laws_toStringS.f k l0).bind fun t673 => ((spec_BuildTrie.f k t673).bind fun bt676 => ((laws_toStringS.f k l0).bind fun t687 => ((impl_BuildTrie.f k t687).bind fun bt690 => ((laws_eqTrie.f k bt690.1 bt690.2.1 bt690.2.2.1 bt690.2.2.2.1 bt690.2.2.2.2.1 bt676.1 bt676.2.1 bt676.2.2.1 bt676.2.2.2.1 bt676.2.2.2.2.1).bind fun t701 => (if t701 = true then (laws_FnExactBuildTrie.j0 k l0 bt676.2.2.2.2.2 t687 bt690.2.2.2.2.2 (bt690.2.2.2.2.2 != bt676.2.2.2.2.2) bt676.1 bt676.2.1 bt676.2.2.1 bt676.2.2.2.1 bt676.2.2.2.2.1 bt690.1 bt690.2.1 bt690.2.2.1 bt690.2.2.2.1 bt690.2.2.2.2.1) else (laws_FnExactBuildTrie.j0 k l0 bt676.2.2.2.2.2 t687 bt690.2.2.2.2.2 true bt676.1 bt676.2.1 bt676.2.2.1 bt676.2.2.2.1 bt676.2.2.2.2.1 bt690.1 bt690.2.1 bt690.2.2.1 bt690.2.2.2.1 bt690.2.2.2.2.1)))))))) = some r := H; have A2 := Aside0.mk A20; clear A20
 by_cases c3 : t672 < 0
 ·rw [if_pos c3] at H
  have c3b0 : decide (t672 < 0) = true := decide_eq_true c3; clear c3; obtain rfl := Option.some.inj H
  go_enter Try.func6, Try.ntmps6
  go_wp2_with (first | ((with_reducible refine gate_callee (f := 21) rfl ?_); refine gL (some 16) Try.func21 #[.slice A0 l0.length c0, .int .i64 1048576] ?_; (with_reducible refine (laws_szStringS.calls k _ _ l0 1048576 t672 _ ?side1 ?side2 A2.out).mono ?_); (case side1 => exact Cz HR0.out); (case side2 => exact HC0.out); rintro e w' ⟨rfl, ⟨nd, rfl⟩⟩; refine ⟨_, rfl, ?_⟩))
  go_ret
  exact ⟨by first | rfl | (simp [errW_none, errW_some] <;> rfl) | (simp [*, errW_none, errW_some] <;> rfl), Bz HB.out⟩
 ·rw [if_neg c3] at H
  have c3b0 : decide (t672 < 0) = false := decide_eq_false c3; clear c3; replace H := Option.bind_eq_some_iff.mp H; obtain ⟨t673, A40, H⟩ := H; replace H : ((spec_BuildTrie.f k t673).bind fun bt676 => ((laws_toStringS.f k l0).bind fun t687 => ((impl_BuildTrie.f k t687).bind fun bt690 => ((laws_eqTrie.f k bt690.1 bt690.2.1 bt690.2.2.1 bt690.2.2.2.1 bt690.2.2.2.2.1 bt676.1 bt676.2.1 bt676.2.2.1 bt676.2.2.2.1 bt676.2.2.2.2.1).bind fun t701 => (if t701 = true then (laws_FnExactBuildTrie.j0 k l0 bt676.2.2.2.2.2 t687 bt690.2.2.2.2.2 (bt690.2.2.2.2.2 != bt676.2.2.2.2.2) bt676.1 bt676.2.1 bt676.2.2.1 bt676.2.2.2.1 bt676.2.2.2.2.1 bt690.1 bt690.2.1 bt690.2.2.1 bt690.2.2.2.1 bt690.2.2.2.2.1) else (laws_FnExactBuildTrie.j0 k l0 bt676.2.2.2.2.2 t687 bt690.2.2.2.2.2 true bt676.1 bt676.2.1 bt676.2.2.1 bt676.2.2.2.1 bt676.2.2.2.2.1 bt690.1 bt690.2.1 bt690.2.2.1 bt690.2.2.2.1 bt690.2.2.2.2.1)))))) = some r := H; have A4 := Aside0.mk A40; clear A40; replace H := Option.bind_eq_some_iff.mp H; obtain ⟨⟨t676, t677, t680, t681, t684, t685⟩, A50, H⟩ := H; replace H : ((laws_toStringS.f k l0).bind fun t687 => ((impl_BuildTrie.f k t687).bind fun bt690 => ((laws_eqTrie.f k bt690.1 bt690.2.1 bt690.2.2.1 bt690.2.2.2.1 bt690.2.2.2.2.1 t676 t677 t680 t681 t684).bind fun t701 => (if t701 = true then (laws_FnExactBuildTrie.j0 k l0 t685 t687 bt690.2.2.2.2.2 (bt690.2.2.2.2.2 != t685) t676 t677 t680 t681 t684 bt690.1 bt690.2.1 bt690.2.2.1 bt690.2.2.2.1 bt690.2.2.2.2.1) else (laws_FnExactBuildTrie.j0 k l0 t685 t687 bt690.2.2.2.2.2 true t676 t677 t680 t681 t684 bt690.1 bt690.2.1 bt690.2.2.1 bt690.2.2.2.1 bt690.2.2.2.2.1))))) = some r := H; have A5 := Aside0.mk A50; clear A50; replace H := Option.bind_eq_some_iff.mp H; obtain ⟨t687, A60, H⟩ := H; replace H : ((impl_BuildTrie.f k t687).bind fun bt690 => ((laws_eqTrie.f k bt690.1 bt690.2.1 bt690.2.2.1 bt690.2.2.2.1 bt690.2.2.2.2.1 t676 t677 t680 t681 t684).bind fun t701 => (if t701 = true then (laws_FnExactBuildTrie.j0 k l0 t685 t687 bt690.2.2.2.2.2 (bt690.2.2.2.2.2 != t685) t676 t677 t680 t681 t684 bt690.1 bt690.2.1 bt690.2.2.1 bt690.2.2.2.1 bt690.2.2.2.2.1) else (laws_FnExactBuildTrie.j0 k l0 t685 t687 bt690.2.2.2.2.2 true t676 t677 t680 t681 t684 bt690.1 bt690.2.1 bt690.2.2.1 bt690.2.2.2.1 bt690.2.2.2.2.1)))) = some r := H; have A6 := Aside0.mk A60; clear A60; replace H := Option.bind_eq_some_iff.mp H; obtain ⟨⟨t690, t691, t694, t695, t698, t699⟩, A70, H⟩ := H; replace H : ((laws_eqTrie.f k t690 t691 t694 t695 t698 t676 t677 t680 t681 t684).bind fun t701 => (if t701 = true then (laws_FnExactBuildTrie.j0 k l0 t685 t687 t699 (t699 != t685) t676 t677 t680 t681 t684 t690 t691 t694 t695 t698) else (laws_FnExactBuildTrie.j0 k l0 t685 t687 t699 true t676 t677 t680 t681 t684 t690 t691 t694 t695 t698))) = some r := H; have A7 := Aside0.mk A70; clear A70; have HC8 := Aside0.mk H; clear H
  go_enter Try.func6, Try.ntmps6
  go_upto_region 8 with (first | ((with_reducible refine gate_callee (f := 21) rfl ?_); refine gL (some 16) Try.func21 #[.slice A0 l0.length c0, .int .i64 1048576] ?_; (with_reducible refine (laws_szStringS.calls k _ _ l0 1048576 t672 _ ?side1 ?side2 A2.out).mono ?_); (case side1 => exact Cz HR0.out); (case side2 => exact HC0.out); rintro e w' ⟨rfl, ⟨nd, rfl⟩⟩; refine ⟨_, rfl, ?_⟩) | ((with_reducible refine gate_callee (f := 23) rfl ?_); refine gL (some 21) Try.func23 #[.slice A0 l0.length c0] ?_; (with_reducible refine (laws_toStringS.calls k _ _ l0 t673 _ ?side1 ?side2 A4.out).mono ?_); (case side1 => exact Cz HR0.out); (case side2 => exact HC0.out); rintro e w9 ⟨v674, rfl, ho0, hb⟩; refine ⟨_, rfl, ?_⟩; have n0_ := Rl ho0 HB; have n1_ := Bb HB hb; clear HB; revert n0_ n1_; intro HO675 HB; (try clear hb); (try clear hb2); (try clear hk); (try clear hi); (try clear ho0); obtain ⟨Ao10, co10, eo10⟩ := Kd.R_slice HO675.out; subst eo10) | ((with_reducible refine gate_callee (f := 22) rfl ?_); refine gL (some 22) Try.func22 #[.slice Ao10 t673.length co10] ?_; (with_reducible refine (spec_BuildTrie.calls k _ _ t673 t676 t677 t680 t681 t684 t685 _ ?side1 ?side2 A5.out).mono ?_); (case side1 => exact Cz ((Kd.R_reads' HO675.out).2.2)); (case side2 => exact (Kd.R_reads' HO675.out).2.1); rintro e w11 ⟨v678, v682, rfl, ho0, ho1, hb⟩; refine ⟨_, rfl, ?_⟩; have n0_ := Rb HO675 hb; have n1_ := Rl ho0 HB; have n2_ := Rl ho1 HB; have n3_ := Bb HB hb; clear HO675 HB; revert n0_ n1_ n2_ n3_; intro HO675 HO679 HO683 HB; (try clear hb); (try clear hb2); (try clear hk); (try clear hi); (try clear ho0); (try clear ho1)) | ((with_reducible refine gate_dst (N := 4) rfl ?_); refine bE 4 #[.int .i64 0, .slice none 0 0, .int .i64 0, .slice none 0 0, .string (⟨#[]⟩ : ByteArray)] 32 ?_; intro gb686 hg w12 hbox hb; have n0_ := Rb HO675 hb; have n1_ := Rb HO679 hb; have n2_ := Rb HO683 hb; have n3_ := Bb HB hb; have n4_ := Aside0.mk (hbox); have n5_ := Gl HB hg; have n6_ := Gl HB hg; clear HO675 HO679 HO683 HB; revert n0_ n1_ n2_ n3_ n4_ n5_ n6_; intro HO675 HO679 HO683 HB BK686 GW686 GE686; clear hb hbox hg; obtain ⟨hcz13_0, hcz13_1, hcz13_2, hcz13_3, hcz13_4, hfz13_0, hfz13_1, hfz13_2, hfz13_3, hfz13_4⟩ := cf5 (w := w12) BK686; obtain ⟨Ao14, co14, eo14⟩ := Kd.R_slice HO679.out; subst eo14; obtain ⟨Ao15, co15, eo15⟩ := Kd.R_slice HO683.out; subst eo15) | ((with_reducible refine gate_callee (f := 23) rfl ?_); refine gL (some 26) Try.func23 #[.slice A0 l0.length c0] ?_; (with_reducible refine (laws_toStringS.calls k _ _ l0 t687 _ ?side1 ?side2 A6.out).mono ?_); (case side1 => exact Kd.C_below HR0.out (Bq)); (case side2 => exact HC0.out); rintro e w16 ⟨v688, rfl, ho0, hb⟩; refine ⟨_, rfl, ?_⟩; have n0_ := Aside0.mk (Kd.R_elder' (Rz (Kd.R_mono (Kd.R_far (p := ⟨gb686, 4, none⟩) (Kd.R_far (p := ⟨gb686, 3, none⟩) (Kd.R_far (p := ⟨gb686, 2, none⟩) (Kd.R_far (p := ⟨gb686, 1, none⟩) (Kd.R_far (p := ⟨gb686, 0, none⟩) (Kd.R_types HO675.out BK686.out (by decide)) (fun _ hk => hk.2) (.int .i64 t676)) (fun _ hk => hk.2) (.slice Ao14 t677.length co14)) (fun _ hk => hk.2) (.int .i64 t680)) (fun _ hk => hk.2) (.slice Ao15 t681.length co15)) (fun _ hk => hk.2) (.string t684)) (fun _ h_ => h_.1))) (Kd.R_base ho0) hb); have n1_ := Aside0.mk (Kd.R_below (Rz (Kd.R_mono (Kd.R_far (p := ⟨gb686, 4, none⟩) (Kd.R_far (p := ⟨gb686, 3, none⟩) (Kd.R_far (p := ⟨gb686, 2, none⟩) (Kd.R_far (p := ⟨gb686, 1, none⟩) (Kd.R_far (p := ⟨gb686, 0, none⟩) (Kd.R_types HO679.out BK686.out (by decide)) (fun _ hk => hk.2) (.int .i64 t676)) (fun _ hk => hk.2) (.slice Ao14 t677.length co14)) (fun _ hk => hk.2) (.int .i64 t680)) (fun _ hk => hk.2) (.slice Ao15 t681.length co15)) (fun _ hk => hk.2) (.string t684)) (fun _ h_ => h_.1))) hb); have n2_ := Aside0.mk (Kd.R_below (Rz (Kd.R_mono (Kd.R_far (p := ⟨gb686, 4, none⟩) (Kd.R_far (p := ⟨gb686, 3, none⟩) (Kd.R_far (p := ⟨gb686, 2, none⟩) (Kd.R_far (p := ⟨gb686, 1, none⟩) (Kd.R_far (p := ⟨gb686, 0, none⟩) (Kd.R_types HO683.out BK686.out (by decide)) (fun _ hk => hk.2) (.int .i64 t676)) (fun _ hk => hk.2) (.slice Ao14 t677.length co14)) (fun _ hk => hk.2) (.int .i64 t680)) (fun _ hk => hk.2) (.slice Ao15 t681.length co15)) (fun _ hk => hk.2) (.string t684)) (fun _ h_ => h_.1))) hb); have n3_ := Aside0.mk (Kd.R_lower (Kd.R_new' ho0 (Kd.R_lt (Rz (Kd.R_mono (Kd.R_far (p := ⟨gb686, 4, none⟩) (Kd.R_far (p := ⟨gb686, 3, none⟩) (Kd.R_far (p := ⟨gb686, 2, none⟩) (Kd.R_far (p := ⟨gb686, 1, none⟩) (Kd.R_far (p := ⟨gb686, 0, none⟩) (Kd.R_types HO675.out BK686.out (by decide)) (fun _ hk => hk.2) (.int .i64 t676)) (fun _ hk => hk.2) (.slice Ao14 t677.length co14)) (fun _ hk => hk.2) (.int .i64 t680)) (fun _ hk => hk.2) (.slice Ao15 t681.length co15)) (fun _ hk => hk.2) (.string t684)) (fun _ h_ => h_.1))))) (below_size (w := w) (Bq))); have n4_ := Aside0.mk (blk_below (g := gb686) (o := .cells #[.int .i64 t676, .slice Ao14 t677.length co14, .int .i64 t680, .slice Ao15 t681.length co15, .string t684] 32 (0, 0)) (by (with_reducible repeat (first | refine blk_drewN ?_ _ | refine blk_drew ?_ | refine blk_alloc ?_ _)); refine blk_put (cs := #[.int .i64 t676, .slice Ao14 t677.length co14, .int .i64 t680, .slice Ao15 t681.length co15, .string (⟨#[]⟩ : ByteArray)]) ?_ 4 _ rfl; (with_reducible repeat (first | refine blk_drewN ?_ _ | refine blk_drew ?_ | refine blk_alloc ?_ _)); refine blk_put (cs := #[.int .i64 t676, .slice Ao14 t677.length co14, .int .i64 t680, .slice none 0 0, .string (⟨#[]⟩ : ByteArray)]) ?_ 3 _ rfl; (with_reducible repeat (first | refine blk_drewN ?_ _ | refine blk_drew ?_ | refine blk_alloc ?_ _)); refine blk_put (cs := #[.int .i64 t676, .slice Ao14 t677.length co14, .int .i64 0, .slice none 0 0, .string (⟨#[]⟩ : ByteArray)]) ?_ 2 _ rfl; (with_reducible repeat (first | refine blk_drewN ?_ _ | refine blk_drew ?_ | refine blk_alloc ?_ _)); refine blk_put (cs := #[.int .i64 t676, .slice none 0 0, .int .i64 0, .slice none 0 0, .string (⟨#[]⟩ : ByteArray)]) ?_ 1 _ rfl; (with_reducible repeat (first | refine blk_drewN ?_ _ | refine blk_drew ?_ | refine blk_alloc ?_ _)); refine blk_put (cs := #[.int .i64 0, .slice none 0 0, .int .i64 0, .slice none 0 0, .string (⟨#[]⟩ : ByteArray)]) ?_ 0 _ rfl; (with_reducible repeat (first | refine blk_drewN ?_ _ | refine blk_drew ?_ | refine blk_alloc ?_ _)); exact BK686.out) hb); have n5_ := Bc HB hb; clear HO675 HO679 HO683 BK686 HB; revert n0_ n1_ n2_ n3_ n4_ n5_; intro HO675 HO679 HO683 HO689 BK686 HB; (try clear hb); (try clear hb2); (try clear hk); (try clear hi); (try clear ho0); obtain ⟨Ao17, co17, eo17⟩ := Kd.R_slice HO689.out; subst eo17) | ((with_reducible refine gate_callee (f := 24) rfl ?_); refine gL (some 29) Try.func24 #[.slice Ao17 t687.length co17] ?_; (with_reducible refine (impl_BuildTrie.calls k _ _ t687 t690 t691 t694 t695 t698 t699 _ ?side1 ?side2 A7.out).mono ?_); (case side1 => exact Cz ((Kd.R_reads' HO689.out).2.2)); (case side2 => exact (Kd.R_reads' HO689.out).2.1); rintro e w18 ⟨v692, v696, rfl, ho0, ho1, hb⟩; refine ⟨_, rfl, ?_⟩; have n0_ := Rb HO675 hb; have n1_ := Aside0.mk (Kd.R_mono (Kd.R_told (Kd.R_told (Kd.R_old (Rz HO679.out) hb) (Kd.R_base ho0)) (Kd.R_base ho1)) (fun _ h_ => h_.1)); have n2_ := Aside0.mk (Kd.R_mono (Kd.R_told (Kd.R_told (Kd.R_old (Rz HO683.out) hb) (Kd.R_base ho0)) (Kd.R_base ho1)) (fun _ h_ => h_.1)); have n3_ := Rb HO689 hb; have n4_ := Rm (Kd.R_new' (Kd.R_new' ho0 (Kd.R_lt (Rz HO679.out))) (Kd.R_lt (Rz HO683.out))) HB; have n5_ := Rm (Kd.R_new' (Kd.R_new' ho1 (Kd.R_lt (Rz HO679.out))) (Kd.R_lt (Rz HO683.out))) HB; have n6_ := Kb BK686 hb; have n7_ := Bc HB hb; clear HO675 HO679 HO683 HO689 BK686 HB; revert n0_ n1_ n2_ n3_ n4_ n5_ n6_ n7_; intro HO675 HO679 HO683 HO689 HO693 HO697 BK686 HB; (try clear hb); (try clear hb2); (try clear hk); (try clear hi); (try clear ho0); (try clear ho1)) | ((with_reducible refine gate_dst (N := 7) rfl ?_); refine bE 7 #[.int .i64 0, .slice none 0 0, .int .i64 0, .slice none 0 0, .string (⟨#[]⟩ : ByteArray)] 32 ?_; intro gb700 hg w19 hbox hb; have n0_ := Rb HO675 hb; have n1_ := Rb HO679 hb; have n2_ := Rb HO683 hb; have n3_ := Rb HO689 hb; have n4_ := Rb HO693 hb; have n5_ := Rb HO697 hb; have n6_ := Kb BK686 hb; have n7_ := Bc HB hb; have n8_ := Aside0.mk (hbox); have n9_ := Gm HB hg; have n10_ := Gm HB hg; have n11_ := Nl BK686 hg; have n12_ := Ng BK686 hg; clear HO675 HO679 HO683 HO689 HO693 HO697 BK686 HB; revert n0_ n1_ n2_ n3_ n4_ n5_ n6_ n7_ n8_ n9_ n10_ n11_ n12_; intro HO675 HO679 HO683 HO689 HO693 HO697 BK686 HB BK700 GW700 GE700 NB686_700 NB700_686; clear hb hbox hg; have hnb20 := NB700_686.out; have hnc20 := NB686_700.out; obtain ⟨hcz21_0, hcz21_1, hcz21_2, hcz21_3, hcz21_4, hfz21_0, hfz21_1, hfz21_2, hfz21_3, hfz21_4⟩ := cf5 (w := w19) BK700; obtain ⟨Ao22, co22, eo22⟩ := Kd.R_slice HO693.out; subst eo22; obtain ⟨Ao23, co23, eo23⟩ := Kd.R_slice HO697.out; subst eo23))
  (try simp only [Act.put, List.setIfInBounds_toArray, List.set_cons_zero, List.set_cons_succ])
  go_cut [40] (fun v40 wc => ∃ (kq : Nat) (x40_7 : Bool), v40 = .bool x40_7 ∧ Aside0 (laws_FnExactBuildTrie.j0 kq l0 t685 t687 t699 x40_7 t676 t677 t680 t681 t684 t690 t691 t694 t695 t698 = some r) ∧ Aside0 (kq ≤ k) ∧ Aside0 (Kd.R Kd.string 9 wc w.heap.size (fun _ => True) (.slice Ao17 t687.length co17) t687) ∧ Aside0 (Kd.R (Kd.int .i64) 3 wc w.heap.size (fun k_ => some k_ ≠ ((.slice Ao15 t681.length co15) : Value).ownBlock ∧ some k_ ≠ ((.slice Ao22 t691.length co22) : Value).ownBlock ∧ some k_ ≠ ((.slice Ao23 t695.length co23) : Value).ownBlock) (.slice Ao14 t677.length co14) t677) ∧ Aside0 (Kd.R (Kd.int .i64) 3 wc w.heap.size (fun k_ => some k_ ≠ ((.slice Ao14 t677.length co14) : Value).ownBlock ∧ some k_ ≠ ((.slice Ao22 t691.length co22) : Value).ownBlock ∧ some k_ ≠ ((.slice Ao23 t695.length co23) : Value).ownBlock) (.slice Ao15 t681.length co15) t681) ∧ Aside0 (Kd.R (Kd.int .i64) 3 wc w.heap.size (fun k_ => some k_ ≠ ((.slice Ao14 t677.length co14) : Value).ownBlock ∧ some k_ ≠ ((.slice Ao15 t681.length co15) : Value).ownBlock ∧ some k_ ≠ ((.slice Ao23 t695.length co23) : Value).ownBlock) (.slice Ao22 t691.length co22) t691) ∧ Aside0 (Kd.R (Kd.int .i64) 3 wc w.heap.size (fun k_ => some k_ ≠ ((.slice Ao14 t677.length co14) : Value).ownBlock ∧ some k_ ≠ ((.slice Ao15 t681.length co15) : Value).ownBlock ∧ some k_ ≠ ((.slice Ao22 t691.length co22) : Value).ownBlock) (.slice Ao23 t695.length co23) t695) ∧ Aside0 (wc.heap[gb686]? = some (.cells #[.int .i64 t676, (.slice Ao14 t677.length co14), .int .i64 t680, (.slice Ao15 t681.length co15), .string t684] 32 (0, 0))) ∧ Aside0 (wc.heap[gb700]? = some (.cells #[.int .i64 t690, (.slice Ao22 t691.length co22), .int .i64 t694, (.slice Ao23 t695.length co23), .string t698] 32 (0, 0))) ∧ Aside0 (Below w.heap.size w wc))
  case first =>
   have H := HC8.out; clear HC8; replace H := Option.bind_eq_some_iff.mp H; obtain ⟨t701, A240, H⟩ := H; replace H : (if t701 = true then (laws_FnExactBuildTrie.j0 k l0 t685 t687 t699 (t699 != t685) t676 t677 t680 t681 t684 t690 t691 t694 t695 t698) else (laws_FnExactBuildTrie.j0 k l0 t685 t687 t699 true t676 t677 t680 t681 t684 t690 t691 t694 t695 t698)) = some r := H; have A24 := Aside0.mk A240; clear A240
   by_cases c25 : t701 = true
   ·subst c25
    have H1 : (laws_FnExactBuildTrie.j0 k l0 t685 t687 t699 (t699 != t685) t676 t677 t680 t681 t684 t690 t691 t694 t695 t698) = some r := by rw [if_pos rfl] at H; exact H
    clear H; have H := H1; clear H1; have H' := Aside0.mk H; clear H; have hnb26 := NB700_686.out; have hnc26 := NB686_700.out; obtain ⟨hcz27_0, hcz27_1, hcz27_2, hcz27_3, hcz27_4, hfz27_0, hfz27_1, hfz27_2, hfz27_3, hfz27_4⟩ := cf5 (w := w19) BK700; obtain ⟨hcz28_0, hcz28_1, hcz28_2, hcz28_3, hcz28_4, hfz28_0, hfz28_1, hfz28_2, hfz28_3, hfz28_4⟩ := cf5 (w := w19) BK686
    go_wp2_with (first | ((with_reducible refine gate_callee (f := 16) rfl ?_); refine gL (some 34) Try.func16 #[.agg #[.int .i64 t690, .slice Ao22 t691.length co22, .int .i64 t694, .slice Ao23 t695.length co23, .string t698], .agg #[.int .i64 t676, .slice Ao14 t677.length co14, .int .i64 t680, .slice Ao15 t681.length co15, .string t684]] ?_; (with_reducible refine (laws_eqTrie.calls k t690 _ _ t691 t694 _ _ t695 t698 t676 _ _ t677 t680 _ _ t681 t684 true _ ?side1 ?side2 ?side3 ?side4 ?side5 ?side6 ?side7 ?side8 A24.out).mono ?_); (case side1 => refine (Kd.R_reads' (e := 3) (base := w.heap.size) (ok := fun k_ => ((some k_ ≠ (.slice Ao23 t695.length co23 : Value).ownBlock ∧ some k_ ≠ (.slice Ao14 t677.length co14 : Value).ownBlock) ∧ some k_ ≠ (.slice Ao15 t681.length co15 : Value).ownBlock)) (n := t691.length) (c := co22) ?_).2.2; exact (Rz (Kd.R_mono (Kd.R_far (p := ⟨gb700, 4, none⟩) (Kd.R_far (p := ⟨gb700, 3, none⟩) (Kd.R_far (p := ⟨gb700, 2, none⟩) (Kd.R_far (p := ⟨gb700, 1, none⟩) (Kd.R_far (p := ⟨gb700, 0, none⟩) (Kd.R_types HO693.out BK700.out (by decide)) (fun _ hk => hk.2) (.int .i64 t690)) (fun _ hk => hk.2) (.slice Ao22 t691.length co22)) (fun _ hk => hk.2) (.int .i64 t694)) (fun _ hk => hk.2) (.slice Ao23 t695.length co23)) (fun _ hk => hk.2) (.string t698)) (fun _ h_ => h_.1)))); (case side2 => exact (Kd.R_reads' HO693.out).2.1); (case side3 => refine (Kd.R_reads' (e := 3) (base := w.heap.size) (ok := fun k_ => ((some k_ ≠ (.slice Ao22 t691.length co22 : Value).ownBlock ∧ some k_ ≠ (.slice Ao14 t677.length co14 : Value).ownBlock) ∧ some k_ ≠ (.slice Ao15 t681.length co15 : Value).ownBlock)) (n := t695.length) (c := co23) ?_).2.2; exact (Rz (Kd.R_mono (Kd.R_far (p := ⟨gb700, 4, none⟩) (Kd.R_far (p := ⟨gb700, 3, none⟩) (Kd.R_far (p := ⟨gb700, 2, none⟩) (Kd.R_far (p := ⟨gb700, 1, none⟩) (Kd.R_far (p := ⟨gb700, 0, none⟩) (Kd.R_types HO697.out BK700.out (by decide)) (fun _ hk => hk.2) (.int .i64 t690)) (fun _ hk => hk.2) (.slice Ao22 t691.length co22)) (fun _ hk => hk.2) (.int .i64 t694)) (fun _ hk => hk.2) (.slice Ao23 t695.length co23)) (fun _ hk => hk.2) (.string t698)) (fun _ h_ => h_.1)))); (case side4 => exact (Kd.R_reads' HO697.out).2.1); (case side5 => refine (Kd.R_reads' (e := 3) (base := w.heap.size) (ok := fun k_ => ((some k_ ≠ (.slice Ao15 t681.length co15 : Value).ownBlock ∧ some k_ ≠ (.slice Ao22 t691.length co22 : Value).ownBlock) ∧ some k_ ≠ (.slice Ao23 t695.length co23 : Value).ownBlock)) (n := t677.length) (c := co14) ?_).2.2; exact (Rz (Kd.R_mono (Kd.R_far (p := ⟨gb700, 4, none⟩) (Kd.R_far (p := ⟨gb700, 3, none⟩) (Kd.R_far (p := ⟨gb700, 2, none⟩) (Kd.R_far (p := ⟨gb700, 1, none⟩) (Kd.R_far (p := ⟨gb700, 0, none⟩) (Kd.R_types HO679.out BK700.out (by decide)) (fun _ hk => hk.2) (.int .i64 t690)) (fun _ hk => hk.2) (.slice Ao22 t691.length co22)) (fun _ hk => hk.2) (.int .i64 t694)) (fun _ hk => hk.2) (.slice Ao23 t695.length co23)) (fun _ hk => hk.2) (.string t698)) (fun _ h_ => h_.1)))); (case side6 => exact (Kd.R_reads' HO679.out).2.1); (case side7 => refine (Kd.R_reads' (e := 3) (base := w.heap.size) (ok := fun k_ => ((some k_ ≠ (.slice Ao14 t677.length co14 : Value).ownBlock ∧ some k_ ≠ (.slice Ao22 t691.length co22 : Value).ownBlock) ∧ some k_ ≠ (.slice Ao23 t695.length co23 : Value).ownBlock)) (n := t681.length) (c := co15) ?_).2.2; exact (Rz (Kd.R_mono (Kd.R_far (p := ⟨gb700, 4, none⟩) (Kd.R_far (p := ⟨gb700, 3, none⟩) (Kd.R_far (p := ⟨gb700, 2, none⟩) (Kd.R_far (p := ⟨gb700, 1, none⟩) (Kd.R_far (p := ⟨gb700, 0, none⟩) (Kd.R_types HO683.out BK700.out (by decide)) (fun _ hk => hk.2) (.int .i64 t690)) (fun _ hk => hk.2) (.slice Ao22 t691.length co22)) (fun _ hk => hk.2) (.int .i64 t694)) (fun _ hk => hk.2) (.slice Ao23 t695.length co23)) (fun _ hk => hk.2) (.string t698)) (fun _ h_ => h_.1)))); (case side8 => exact (Kd.R_reads' HO683.out).2.1); rintro e w29 ⟨rfl, hb⟩; refine ⟨_, rfl, ?_⟩; have n0_ := Aside0.mk (Kd.R_below (Rz (Kd.R_mono (Kd.R_far (p := ⟨gb700, 4, none⟩) (Kd.R_far (p := ⟨gb700, 3, none⟩) (Kd.R_far (p := ⟨gb700, 2, none⟩) (Kd.R_far (p := ⟨gb700, 1, none⟩) (Kd.R_far (p := ⟨gb700, 0, none⟩) (Kd.R_types HO675.out BK700.out (by decide)) (fun _ hk => hk.2) (.int .i64 t690)) (fun _ hk => hk.2) (.slice Ao22 t691.length co22)) (fun _ hk => hk.2) (.int .i64 t694)) (fun _ hk => hk.2) (.slice Ao23 t695.length co23)) (fun _ hk => hk.2) (.string t698)) (fun _ h_ => h_.1))) hb); have n1_ := Aside0.mk (Kd.R_below (Rz (Kd.R_mono (Kd.R_far (p := ⟨gb700, 4, none⟩) (Kd.R_far (p := ⟨gb700, 3, none⟩) (Kd.R_far (p := ⟨gb700, 2, none⟩) (Kd.R_far (p := ⟨gb700, 1, none⟩) (Kd.R_far (p := ⟨gb700, 0, none⟩) (Kd.R_types HO679.out BK700.out (by decide)) (fun _ hk => hk.2) (.int .i64 t690)) (fun _ hk => hk.2) (.slice Ao22 t691.length co22)) (fun _ hk => hk.2) (.int .i64 t694)) (fun _ hk => hk.2) (.slice Ao23 t695.length co23)) (fun _ hk => hk.2) (.string t698)) (fun _ h_ => h_.1))) hb); have n2_ := Aside0.mk (Kd.R_below (Rz (Kd.R_mono (Kd.R_far (p := ⟨gb700, 4, none⟩) (Kd.R_far (p := ⟨gb700, 3, none⟩) (Kd.R_far (p := ⟨gb700, 2, none⟩) (Kd.R_far (p := ⟨gb700, 1, none⟩) (Kd.R_far (p := ⟨gb700, 0, none⟩) (Kd.R_types HO683.out BK700.out (by decide)) (fun _ hk => hk.2) (.int .i64 t690)) (fun _ hk => hk.2) (.slice Ao22 t691.length co22)) (fun _ hk => hk.2) (.int .i64 t694)) (fun _ hk => hk.2) (.slice Ao23 t695.length co23)) (fun _ hk => hk.2) (.string t698)) (fun _ h_ => h_.1))) hb); have n3_ := Aside0.mk (Kd.R_below (Rz (Kd.R_mono (Kd.R_far (p := ⟨gb700, 4, none⟩) (Kd.R_far (p := ⟨gb700, 3, none⟩) (Kd.R_far (p := ⟨gb700, 2, none⟩) (Kd.R_far (p := ⟨gb700, 1, none⟩) (Kd.R_far (p := ⟨gb700, 0, none⟩) (Kd.R_types HO689.out BK700.out (by decide)) (fun _ hk => hk.2) (.int .i64 t690)) (fun _ hk => hk.2) (.slice Ao22 t691.length co22)) (fun _ hk => hk.2) (.int .i64 t694)) (fun _ hk => hk.2) (.slice Ao23 t695.length co23)) (fun _ hk => hk.2) (.string t698)) (fun _ h_ => h_.1))) hb); have n4_ := Aside0.mk (Kd.R_below (Rz (Kd.R_mono (Kd.R_far (p := ⟨gb700, 4, none⟩) (Kd.R_far (p := ⟨gb700, 3, none⟩) (Kd.R_far (p := ⟨gb700, 2, none⟩) (Kd.R_far (p := ⟨gb700, 1, none⟩) (Kd.R_far (p := ⟨gb700, 0, none⟩) (Kd.R_types HO693.out BK700.out (by decide)) (fun _ hk => hk.2) (.int .i64 t690)) (fun _ hk => hk.2) (.slice Ao22 t691.length co22)) (fun _ hk => hk.2) (.int .i64 t694)) (fun _ hk => hk.2) (.slice Ao23 t695.length co23)) (fun _ hk => hk.2) (.string t698)) (fun _ h_ => h_.1))) hb); have n5_ := Aside0.mk (Kd.R_below (Rz (Kd.R_mono (Kd.R_far (p := ⟨gb700, 4, none⟩) (Kd.R_far (p := ⟨gb700, 3, none⟩) (Kd.R_far (p := ⟨gb700, 2, none⟩) (Kd.R_far (p := ⟨gb700, 1, none⟩) (Kd.R_far (p := ⟨gb700, 0, none⟩) (Kd.R_types HO697.out BK700.out (by decide)) (fun _ hk => hk.2) (.int .i64 t690)) (fun _ hk => hk.2) (.slice Ao22 t691.length co22)) (fun _ hk => hk.2) (.int .i64 t694)) (fun _ hk => hk.2) (.slice Ao23 t695.length co23)) (fun _ hk => hk.2) (.string t698)) (fun _ h_ => h_.1))) hb); have n6_ := Aside0.mk (blk_below (g := gb686) (o := .cells #[.int .i64 t676, .slice Ao14 t677.length co14, .int .i64 t680, .slice Ao15 t681.length co15, .string t684] 32 (0, 0)) (by (with_reducible repeat (first | refine blk_drewN ?_ _ | refine blk_drew ?_ | refine blk_alloc ?_ _)); refine blk_far ?_ NB686_700.out _; (with_reducible repeat (first | refine blk_drewN ?_ _ | refine blk_drew ?_ | refine blk_alloc ?_ _)); refine blk_far ?_ NB686_700.out _; (with_reducible repeat (first | refine blk_drewN ?_ _ | refine blk_drew ?_ | refine blk_alloc ?_ _)); refine blk_far ?_ NB686_700.out _; (with_reducible repeat (first | refine blk_drewN ?_ _ | refine blk_drew ?_ | refine blk_alloc ?_ _)); refine blk_far ?_ NB686_700.out _; (with_reducible repeat (first | refine blk_drewN ?_ _ | refine blk_drew ?_ | refine blk_alloc ?_ _)); refine blk_far ?_ NB686_700.out _; (with_reducible repeat (first | refine blk_drewN ?_ _ | refine blk_drew ?_ | refine blk_alloc ?_ _)); exact BK686.out) hb); have n7_ := Aside0.mk (blk_below (g := gb700) (o := .cells #[.int .i64 t690, .slice Ao22 t691.length co22, .int .i64 t694, .slice Ao23 t695.length co23, .string t698] 32 (0, 0)) (by (with_reducible repeat (first | refine blk_drewN ?_ _ | refine blk_drew ?_ | refine blk_alloc ?_ _)); refine blk_put (cs := #[.int .i64 t690, .slice Ao22 t691.length co22, .int .i64 t694, .slice Ao23 t695.length co23, .string (⟨#[]⟩ : ByteArray)]) ?_ 4 _ rfl; (with_reducible repeat (first | refine blk_drewN ?_ _ | refine blk_drew ?_ | refine blk_alloc ?_ _)); refine blk_put (cs := #[.int .i64 t690, .slice Ao22 t691.length co22, .int .i64 t694, .slice none 0 0, .string (⟨#[]⟩ : ByteArray)]) ?_ 3 _ rfl; (with_reducible repeat (first | refine blk_drewN ?_ _ | refine blk_drew ?_ | refine blk_alloc ?_ _)); refine blk_put (cs := #[.int .i64 t690, .slice Ao22 t691.length co22, .int .i64 0, .slice none 0 0, .string (⟨#[]⟩ : ByteArray)]) ?_ 2 _ rfl; (with_reducible repeat (first | refine blk_drewN ?_ _ | refine blk_drew ?_ | refine blk_alloc ?_ _)); refine blk_put (cs := #[.int .i64 t690, .slice none 0 0, .int .i64 0, .slice none 0 0, .string (⟨#[]⟩ : ByteArray)]) ?_ 1 _ rfl; (with_reducible repeat (first | refine blk_drewN ?_ _ | refine blk_drew ?_ | refine blk_alloc ?_ _)); refine blk_put (cs := #[.int .i64 0, .slice none 0 0, .int .i64 0, .slice none 0 0, .string (⟨#[]⟩ : ByteArray)]) ?_ 0 _ rfl; (with_reducible repeat (first | refine blk_drewN ?_ _ | refine blk_drew ?_ | refine blk_alloc ?_ _)); exact BK700.out) hb); have n8_ := Bc HB hb; clear HO675 HO679 HO683 HO689 HO693 HO697 BK686 BK700 HB; revert n0_ n1_ n2_ n3_ n4_ n5_ n6_ n7_ n8_; intro HO675 HO679 HO683 HO689 HO693 HO697 BK686 BK700 HB; (try clear hb); (try clear hb2); (try clear hk); (try clear hi)))
    go_meet
    case rel => exact ⟨_, ((t699 != t685)), (by first | rfl | (simp; done) | (simp [*]; done)), H', ⟨by first | omega | exact Nat.le_refl _⟩, ⟨Rz (Kd.R_mono HO689.out (fun _ hk => trivial))⟩, ⟨Rz (Kd.R_mono HO679.out (fun _ hk => ⟨hk.1.1, ⟨hk.1.2, hk.2⟩⟩))⟩, ⟨Rz (Kd.R_mono HO683.out (fun _ hk => ⟨hk.1.1, ⟨hk.1.2, hk.2⟩⟩))⟩, ⟨Rz (Kd.R_mono HO693.out (fun _ hk => ⟨hk.1.2, ⟨hk.2, hk.1.1⟩⟩))⟩, ⟨Rz (Kd.R_mono HO697.out (fun _ hk => ⟨hk.1.2, ⟨hk.2, hk.1.1⟩⟩))⟩, ⟨Kz BK686.out⟩, ⟨Kz BK700.out⟩, ⟨Bq⟩⟩
   ·replace c25 := Bool.eq_false_iff.mpr c25
    subst c25
    have H1 : (laws_FnExactBuildTrie.j0 k l0 t685 t687 t699 true t676 t677 t680 t681 t684 t690 t691 t694 t695 t698) = some r := by rw [if_neg (show ¬ (false = true) by decide)] at H; exact H
    clear H; have H := H1; clear H1; have H' := Aside0.mk H; clear H; have hnb30 := NB700_686.out; have hnc30 := NB686_700.out; obtain ⟨hcz31_0, hcz31_1, hcz31_2, hcz31_3, hcz31_4, hfz31_0, hfz31_1, hfz31_2, hfz31_3, hfz31_4⟩ := cf5 (w := w19) BK700; obtain ⟨hcz32_0, hcz32_1, hcz32_2, hcz32_3, hcz32_4, hfz32_0, hfz32_1, hfz32_2, hfz32_3, hfz32_4⟩ := cf5 (w := w19) BK686
    go_wp2_with (first | ((with_reducible refine gate_callee (f := 16) rfl ?_); refine gL (some 34) Try.func16 #[.agg #[.int .i64 t690, .slice Ao22 t691.length co22, .int .i64 t694, .slice Ao23 t695.length co23, .string t698], .agg #[.int .i64 t676, .slice Ao14 t677.length co14, .int .i64 t680, .slice Ao15 t681.length co15, .string t684]] ?_; (with_reducible refine (laws_eqTrie.calls k t690 _ _ t691 t694 _ _ t695 t698 t676 _ _ t677 t680 _ _ t681 t684 false _ ?side1 ?side2 ?side3 ?side4 ?side5 ?side6 ?side7 ?side8 A24.out).mono ?_); (case side1 => refine (Kd.R_reads' (e := 3) (base := w.heap.size) (ok := fun k_ => ((some k_ ≠ (.slice Ao23 t695.length co23 : Value).ownBlock ∧ some k_ ≠ (.slice Ao14 t677.length co14 : Value).ownBlock) ∧ some k_ ≠ (.slice Ao15 t681.length co15 : Value).ownBlock)) (n := t691.length) (c := co22) ?_).2.2; exact (Rz (Kd.R_mono (Kd.R_far (p := ⟨gb700, 4, none⟩) (Kd.R_far (p := ⟨gb700, 3, none⟩) (Kd.R_far (p := ⟨gb700, 2, none⟩) (Kd.R_far (p := ⟨gb700, 1, none⟩) (Kd.R_far (p := ⟨gb700, 0, none⟩) (Kd.R_types HO693.out BK700.out (by decide)) (fun _ hk => hk.2) (.int .i64 t690)) (fun _ hk => hk.2) (.slice Ao22 t691.length co22)) (fun _ hk => hk.2) (.int .i64 t694)) (fun _ hk => hk.2) (.slice Ao23 t695.length co23)) (fun _ hk => hk.2) (.string t698)) (fun _ h_ => h_.1)))); (case side2 => exact (Kd.R_reads' HO693.out).2.1); (case side3 => refine (Kd.R_reads' (e := 3) (base := w.heap.size) (ok := fun k_ => ((some k_ ≠ (.slice Ao22 t691.length co22 : Value).ownBlock ∧ some k_ ≠ (.slice Ao14 t677.length co14 : Value).ownBlock) ∧ some k_ ≠ (.slice Ao15 t681.length co15 : Value).ownBlock)) (n := t695.length) (c := co23) ?_).2.2; exact (Rz (Kd.R_mono (Kd.R_far (p := ⟨gb700, 4, none⟩) (Kd.R_far (p := ⟨gb700, 3, none⟩) (Kd.R_far (p := ⟨gb700, 2, none⟩) (Kd.R_far (p := ⟨gb700, 1, none⟩) (Kd.R_far (p := ⟨gb700, 0, none⟩) (Kd.R_types HO697.out BK700.out (by decide)) (fun _ hk => hk.2) (.int .i64 t690)) (fun _ hk => hk.2) (.slice Ao22 t691.length co22)) (fun _ hk => hk.2) (.int .i64 t694)) (fun _ hk => hk.2) (.slice Ao23 t695.length co23)) (fun _ hk => hk.2) (.string t698)) (fun _ h_ => h_.1)))); (case side4 => exact (Kd.R_reads' HO697.out).2.1); (case side5 => refine (Kd.R_reads' (e := 3) (base := w.heap.size) (ok := fun k_ => ((some k_ ≠ (.slice Ao15 t681.length co15 : Value).ownBlock ∧ some k_ ≠ (.slice Ao22 t691.length co22 : Value).ownBlock) ∧ some k_ ≠ (.slice Ao23 t695.length co23 : Value).ownBlock)) (n := t677.length) (c := co14) ?_).2.2; exact (Rz (Kd.R_mono (Kd.R_far (p := ⟨gb700, 4, none⟩) (Kd.R_far (p := ⟨gb700, 3, none⟩) (Kd.R_far (p := ⟨gb700, 2, none⟩) (Kd.R_far (p := ⟨gb700, 1, none⟩) (Kd.R_far (p := ⟨gb700, 0, none⟩) (Kd.R_types HO679.out BK700.out (by decide)) (fun _ hk => hk.2) (.int .i64 t690)) (fun _ hk => hk.2) (.slice Ao22 t691.length co22)) (fun _ hk => hk.2) (.int .i64 t694)) (fun _ hk => hk.2) (.slice Ao23 t695.length co23)) (fun _ hk => hk.2) (.string t698)) (fun _ h_ => h_.1)))); (case side6 => exact (Kd.R_reads' HO679.out).2.1); (case side7 => refine (Kd.R_reads' (e := 3) (base := w.heap.size) (ok := fun k_ => ((some k_ ≠ (.slice Ao14 t677.length co14 : Value).ownBlock ∧ some k_ ≠ (.slice Ao22 t691.length co22 : Value).ownBlock) ∧ some k_ ≠ (.slice Ao23 t695.length co23 : Value).ownBlock)) (n := t681.length) (c := co15) ?_).2.2; exact (Rz (Kd.R_mono (Kd.R_far (p := ⟨gb700, 4, none⟩) (Kd.R_far (p := ⟨gb700, 3, none⟩) (Kd.R_far (p := ⟨gb700, 2, none⟩) (Kd.R_far (p := ⟨gb700, 1, none⟩) (Kd.R_far (p := ⟨gb700, 0, none⟩) (Kd.R_types HO683.out BK700.out (by decide)) (fun _ hk => hk.2) (.int .i64 t690)) (fun _ hk => hk.2) (.slice Ao22 t691.length co22)) (fun _ hk => hk.2) (.int .i64 t694)) (fun _ hk => hk.2) (.slice Ao23 t695.length co23)) (fun _ hk => hk.2) (.string t698)) (fun _ h_ => h_.1)))); (case side8 => exact (Kd.R_reads' HO683.out).2.1); rintro e w33 ⟨rfl, hb⟩; refine ⟨_, rfl, ?_⟩; have n0_ := Aside0.mk (Kd.R_below (Rz (Kd.R_mono (Kd.R_far (p := ⟨gb700, 4, none⟩) (Kd.R_far (p := ⟨gb700, 3, none⟩) (Kd.R_far (p := ⟨gb700, 2, none⟩) (Kd.R_far (p := ⟨gb700, 1, none⟩) (Kd.R_far (p := ⟨gb700, 0, none⟩) (Kd.R_types HO675.out BK700.out (by decide)) (fun _ hk => hk.2) (.int .i64 t690)) (fun _ hk => hk.2) (.slice Ao22 t691.length co22)) (fun _ hk => hk.2) (.int .i64 t694)) (fun _ hk => hk.2) (.slice Ao23 t695.length co23)) (fun _ hk => hk.2) (.string t698)) (fun _ h_ => h_.1))) hb); have n1_ := Aside0.mk (Kd.R_below (Rz (Kd.R_mono (Kd.R_far (p := ⟨gb700, 4, none⟩) (Kd.R_far (p := ⟨gb700, 3, none⟩) (Kd.R_far (p := ⟨gb700, 2, none⟩) (Kd.R_far (p := ⟨gb700, 1, none⟩) (Kd.R_far (p := ⟨gb700, 0, none⟩) (Kd.R_types HO679.out BK700.out (by decide)) (fun _ hk => hk.2) (.int .i64 t690)) (fun _ hk => hk.2) (.slice Ao22 t691.length co22)) (fun _ hk => hk.2) (.int .i64 t694)) (fun _ hk => hk.2) (.slice Ao23 t695.length co23)) (fun _ hk => hk.2) (.string t698)) (fun _ h_ => h_.1))) hb); have n2_ := Aside0.mk (Kd.R_below (Rz (Kd.R_mono (Kd.R_far (p := ⟨gb700, 4, none⟩) (Kd.R_far (p := ⟨gb700, 3, none⟩) (Kd.R_far (p := ⟨gb700, 2, none⟩) (Kd.R_far (p := ⟨gb700, 1, none⟩) (Kd.R_far (p := ⟨gb700, 0, none⟩) (Kd.R_types HO683.out BK700.out (by decide)) (fun _ hk => hk.2) (.int .i64 t690)) (fun _ hk => hk.2) (.slice Ao22 t691.length co22)) (fun _ hk => hk.2) (.int .i64 t694)) (fun _ hk => hk.2) (.slice Ao23 t695.length co23)) (fun _ hk => hk.2) (.string t698)) (fun _ h_ => h_.1))) hb); have n3_ := Aside0.mk (Kd.R_below (Rz (Kd.R_mono (Kd.R_far (p := ⟨gb700, 4, none⟩) (Kd.R_far (p := ⟨gb700, 3, none⟩) (Kd.R_far (p := ⟨gb700, 2, none⟩) (Kd.R_far (p := ⟨gb700, 1, none⟩) (Kd.R_far (p := ⟨gb700, 0, none⟩) (Kd.R_types HO689.out BK700.out (by decide)) (fun _ hk => hk.2) (.int .i64 t690)) (fun _ hk => hk.2) (.slice Ao22 t691.length co22)) (fun _ hk => hk.2) (.int .i64 t694)) (fun _ hk => hk.2) (.slice Ao23 t695.length co23)) (fun _ hk => hk.2) (.string t698)) (fun _ h_ => h_.1))) hb); have n4_ := Aside0.mk (Kd.R_below (Rz (Kd.R_mono (Kd.R_far (p := ⟨gb700, 4, none⟩) (Kd.R_far (p := ⟨gb700, 3, none⟩) (Kd.R_far (p := ⟨gb700, 2, none⟩) (Kd.R_far (p := ⟨gb700, 1, none⟩) (Kd.R_far (p := ⟨gb700, 0, none⟩) (Kd.R_types HO693.out BK700.out (by decide)) (fun _ hk => hk.2) (.int .i64 t690)) (fun _ hk => hk.2) (.slice Ao22 t691.length co22)) (fun _ hk => hk.2) (.int .i64 t694)) (fun _ hk => hk.2) (.slice Ao23 t695.length co23)) (fun _ hk => hk.2) (.string t698)) (fun _ h_ => h_.1))) hb); have n5_ := Aside0.mk (Kd.R_below (Rz (Kd.R_mono (Kd.R_far (p := ⟨gb700, 4, none⟩) (Kd.R_far (p := ⟨gb700, 3, none⟩) (Kd.R_far (p := ⟨gb700, 2, none⟩) (Kd.R_far (p := ⟨gb700, 1, none⟩) (Kd.R_far (p := ⟨gb700, 0, none⟩) (Kd.R_types HO697.out BK700.out (by decide)) (fun _ hk => hk.2) (.int .i64 t690)) (fun _ hk => hk.2) (.slice Ao22 t691.length co22)) (fun _ hk => hk.2) (.int .i64 t694)) (fun _ hk => hk.2) (.slice Ao23 t695.length co23)) (fun _ hk => hk.2) (.string t698)) (fun _ h_ => h_.1))) hb); have n6_ := Aside0.mk (blk_below (g := gb686) (o := .cells #[.int .i64 t676, .slice Ao14 t677.length co14, .int .i64 t680, .slice Ao15 t681.length co15, .string t684] 32 (0, 0)) (by (with_reducible repeat (first | refine blk_drewN ?_ _ | refine blk_drew ?_ | refine blk_alloc ?_ _)); refine blk_far ?_ NB686_700.out _; (with_reducible repeat (first | refine blk_drewN ?_ _ | refine blk_drew ?_ | refine blk_alloc ?_ _)); refine blk_far ?_ NB686_700.out _; (with_reducible repeat (first | refine blk_drewN ?_ _ | refine blk_drew ?_ | refine blk_alloc ?_ _)); refine blk_far ?_ NB686_700.out _; (with_reducible repeat (first | refine blk_drewN ?_ _ | refine blk_drew ?_ | refine blk_alloc ?_ _)); refine blk_far ?_ NB686_700.out _; (with_reducible repeat (first | refine blk_drewN ?_ _ | refine blk_drew ?_ | refine blk_alloc ?_ _)); refine blk_far ?_ NB686_700.out _; (with_reducible repeat (first | refine blk_drewN ?_ _ | refine blk_drew ?_ | refine blk_alloc ?_ _)); exact BK686.out) hb); have n7_ := Aside0.mk (blk_below (g := gb700) (o := .cells #[.int .i64 t690, .slice Ao22 t691.length co22, .int .i64 t694, .slice Ao23 t695.length co23, .string t698] 32 (0, 0)) (by (with_reducible repeat (first | refine blk_drewN ?_ _ | refine blk_drew ?_ | refine blk_alloc ?_ _)); refine blk_put (cs := #[.int .i64 t690, .slice Ao22 t691.length co22, .int .i64 t694, .slice Ao23 t695.length co23, .string (⟨#[]⟩ : ByteArray)]) ?_ 4 _ rfl; (with_reducible repeat (first | refine blk_drewN ?_ _ | refine blk_drew ?_ | refine blk_alloc ?_ _)); refine blk_put (cs := #[.int .i64 t690, .slice Ao22 t691.length co22, .int .i64 t694, .slice none 0 0, .string (⟨#[]⟩ : ByteArray)]) ?_ 3 _ rfl; (with_reducible repeat (first | refine blk_drewN ?_ _ | refine blk_drew ?_ | refine blk_alloc ?_ _)); refine blk_put (cs := #[.int .i64 t690, .slice Ao22 t691.length co22, .int .i64 0, .slice none 0 0, .string (⟨#[]⟩ : ByteArray)]) ?_ 2 _ rfl; (with_reducible repeat (first | refine blk_drewN ?_ _ | refine blk_drew ?_ | refine blk_alloc ?_ _)); refine blk_put (cs := #[.int .i64 t690, .slice none 0 0, .int .i64 0, .slice none 0 0, .string (⟨#[]⟩ : ByteArray)]) ?_ 1 _ rfl; (with_reducible repeat (first | refine blk_drewN ?_ _ | refine blk_drew ?_ | refine blk_alloc ?_ _)); refine blk_put (cs := #[.int .i64 0, .slice none 0 0, .int .i64 0, .slice none 0 0, .string (⟨#[]⟩ : ByteArray)]) ?_ 0 _ rfl; (with_reducible repeat (first | refine blk_drewN ?_ _ | refine blk_drew ?_ | refine blk_alloc ?_ _)); exact BK700.out) hb); have n8_ := Bc HB hb; clear HO675 HO679 HO683 HO689 HO693 HO697 BK686 BK700 HB; revert n0_ n1_ n2_ n3_ n4_ n5_ n6_ n7_ n8_; intro HO675 HO679 HO683 HO689 HO693 HO697 BK686 BK700 HB; (try clear hb); (try clear hb2); (try clear hk); (try clear hi)))
    go_meet
    case rel => exact ⟨_, (true), (by first | rfl | (simp; done) | (simp [*]; done)), H', ⟨by first | omega | exact Nat.le_refl _⟩, ⟨Rz (Kd.R_mono HO689.out (fun _ hk => trivial))⟩, ⟨Rz (Kd.R_mono HO679.out (fun _ hk => ⟨hk.1.1, ⟨hk.1.2, hk.2⟩⟩))⟩, ⟨Rz (Kd.R_mono HO683.out (fun _ hk => ⟨hk.1.1, ⟨hk.1.2, hk.2⟩⟩))⟩, ⟨Rz (Kd.R_mono HO693.out (fun _ hk => ⟨hk.1.2, ⟨hk.2, hk.1.1⟩⟩))⟩, ⟨Rz (Kd.R_mono HO697.out (fun _ hk => ⟨hk.1.2, ⟨hk.2, hk.1.1⟩⟩))⟩, ⟨Kz BK686.out⟩, ⟨Kz BK700.out⟩, ⟨Bq⟩⟩
  case rest =>
   clear HC8
   try clear c1
   try clear c2
   try clear p2
   try clear c3
   try clear c3b0
   try clear c6
   try clear c16
   try clear c20
   try clear c21
   try clear c22
   try clear c23
   try clear c24
   try clear c25
   try clear c26
   try clear c30
   try clear hcz13_0
   try clear hcz13_1
   try clear hcz13_2
   try clear hcz13_3
   try clear hcz13_4
   try clear hcz21_0
   try clear hcz21_1
   try clear hcz21_2
   try clear hcz21_3
   try clear hcz21_4
   try clear hcz27_0
   try clear hcz27_1
   try clear hcz27_2
   try clear hcz27_3
   try clear hcz27_4
   try clear hcz28_0
   try clear hcz28_1
   try clear hcz28_2
   try clear hcz28_3
   try clear hcz28_4
   try clear hcz31_0
   try clear hcz31_1
   try clear hcz31_2
   try clear hcz31_3
   try clear hcz31_4
   try clear hcz32_0
   try clear hcz32_1
   try clear hcz32_2
   try clear hcz32_3
   try clear hcz32_4
   try clear hfz13_0
   try clear hfz13_1
   try clear hfz13_2
   try clear hfz13_3
   try clear hfz13_4
   try clear hfz21_0
   try clear hfz21_1
   try clear hfz21_2
   try clear hfz21_3
   try clear hfz21_4
   try clear hfz27_0
   try clear hfz27_1
   try clear hfz27_2
   try clear hfz27_3
   try clear hfz27_4
   try clear hfz28_0
   try clear hfz28_1
   try clear hfz28_2
   try clear hfz28_3
   try clear hfz28_4
   try clear hfz31_0
   try clear hfz31_1
   try clear hfz31_2
   try clear hfz31_3
   try clear hfz31_4
   try clear hfz32_0
   try clear hfz32_1
   try clear hfz32_2
   try clear hfz32_3
   try clear hfz32_4
   obtain ⟨kq, x40_7, rfl, HA, HJ7, HO_6, HO_687001, HO_687003, HO_701001, HO_701003, BK686, BK700, HB⟩ := hcut; cases kq with
   | zero => exact absurd HA.out (by simp [laws_FnExactBuildTrie.j0])
   | succ kj7 =>
    have H := HA.out; clear HA
    simp only [laws_FnExactBuildTrie.j0] at H
    by_cases c34 : x40_7 = true
    ·subst c34
     have H1 : (some false) = some r := by rw [if_pos rfl] at H; exact H
     clear H; have H := H1; clear H1; obtain rfl := Option.some.inj H
     go_wp2
     go_ret
     exact ⟨by first | rfl | (simp [errW_none, errW_some] <;> rfl) | (simp [*, errW_none, errW_some] <;> rfl), Bq⟩
    ·replace c34 := Bool.eq_false_iff.mpr c34
     subst c34
     have H1 : ((laws_toStringS.f kj7 l0).bind fun t702 => ((laws_eqStringS.f kj7 t687 t702).bind fun t705 => (if t705 = true then ((laws_markStringS.f kj7 t687 1).bind fun bt706 => (if bt706.1 < 0 then (laws_FnExactBuildTrie.j1 kj7 l0 t685 true t676 t677 t680 t681 t684 t690 t691 t694 t695 t698) else ((laws_eqTrie.f kj7 t690 t691 t694 t695 t698 t676 t677 t680 t681 t684).bind fun t708 => (if t708 = true then (laws_FnExactBuildTrie.j1 kj7 l0 t685 (t699 != t685) t676 t677 t680 t681 t684 t690 t691 t694 t695 t698) else (laws_FnExactBuildTrie.j1 kj7 l0 t685 true t676 t677 t680 t681 t684 t690 t691 t694 t695 t698))))) else (some false)))) = some r := by rw [if_neg (show ¬ (false = true) by decide)] at H; exact H
     clear H; have H := H1; clear H1; replace H := Option.bind_eq_some_iff.mp H; obtain ⟨t702, A350, H⟩ := H; replace H : ((laws_eqStringS.f kj7 t687 t702).bind fun t705 => (if t705 = true then ((laws_markStringS.f kj7 t687 1).bind fun bt706 => (if bt706.1 < 0 then (laws_FnExactBuildTrie.j1 kj7 l0 t685 true t676 t677 t680 t681 t684 t690 t691 t694 t695 t698) else ((laws_eqTrie.f kj7 t690 t691 t694 t695 t698 t676 t677 t680 t681 t684).bind fun t708 => (if t708 = true then (laws_FnExactBuildTrie.j1 kj7 l0 t685 (t699 != t685) t676 t677 t680 t681 t684 t690 t691 t694 t695 t698) else (laws_FnExactBuildTrie.j1 kj7 l0 t685 true t676 t677 t680 t681 t684 t690 t691 t694 t695 t698))))) else (some false))) = some r := H; have A35 := Aside0.mk A350; clear A350; replace H := Option.bind_eq_some_iff.mp H; obtain ⟨t705, A360, H⟩ := H; replace H : (if t705 = true then ((laws_markStringS.f kj7 t687 1).bind fun bt706 => (if bt706.1 < 0 then (laws_FnExactBuildTrie.j1 kj7 l0 t685 true t676 t677 t680 t681 t684 t690 t691 t694 t695 t698) else ((laws_eqTrie.f kj7 t690 t691 t694 t695 t698 t676 t677 t680 t681 t684).bind fun t708 => (if t708 = true then (laws_FnExactBuildTrie.j1 kj7 l0 t685 (t699 != t685) t676 t677 t680 t681 t684 t690 t691 t694 t695 t698) else (laws_FnExactBuildTrie.j1 kj7 l0 t685 true t676 t677 t680 t681 t684 t690 t691 t694 t695 t698))))) else (some false)) = some r := H; have A36 := Aside0.mk A360; clear A360
     by_cases c37 : t705 = true
     ·subst c37
      have H1 : ((laws_markStringS.f kj7 t687 1).bind fun bt706 => (if bt706.1 < 0 then (laws_FnExactBuildTrie.j1 kj7 l0 t685 true t676 t677 t680 t681 t684 t690 t691 t694 t695 t698) else ((laws_eqTrie.f kj7 t690 t691 t694 t695 t698 t676 t677 t680 t681 t684).bind fun t708 => (if t708 = true then (laws_FnExactBuildTrie.j1 kj7 l0 t685 (t699 != t685) t676 t677 t680 t681 t684 t690 t691 t694 t695 t698) else (laws_FnExactBuildTrie.j1 kj7 l0 t685 true t676 t677 t680 t681 t684 t690 t691 t694 t695 t698))))) = some r := by rw [if_pos rfl] at H; exact H
      clear H; have H := H1; clear H1; replace H := Option.bind_eq_some_iff.mp H; obtain ⟨⟨t706, t707⟩, A380, H⟩ := H; replace H : (if t706 < 0 then (laws_FnExactBuildTrie.j1 kj7 l0 t685 true t676 t677 t680 t681 t684 t690 t691 t694 t695 t698) else ((laws_eqTrie.f kj7 t690 t691 t694 t695 t698 t676 t677 t680 t681 t684).bind fun t708 => (if t708 = true then (laws_FnExactBuildTrie.j1 kj7 l0 t685 (t699 != t685) t676 t677 t680 t681 t684 t690 t691 t694 t695 t698) else (laws_FnExactBuildTrie.j1 kj7 l0 t685 true t676 t677 t680 t681 t684 t690 t691 t694 t695 t698)))) = some r := H; have A38 := Aside0.mk A380; clear A380; have HC39 := Aside0.mk H; clear H
      go_upto_region 14 with (first | ((with_reducible refine gate_callee (f := 23) rfl ?_); refine gL (some 43) Try.func23 #[.slice A0 l0.length c0] ?_; (with_reducible refine (laws_toStringS.calls kj7 _ _ l0 t702 _ ?side1 ?side2 A35.out).mono ?_); (case side1 => exact Cz (Kd.C_below HR0.out HB.out)); (case side2 => exact HC0.out); rintro e w40 ⟨v703, rfl, ho0, hb⟩; refine ⟨_, rfl, ?_⟩; have n0_ := Re HO_6 (Kd.R_base ho0) hb; have n1_ := Rb HO_687001 hb; have n2_ := Rb HO_687003 hb; have n3_ := Rb HO_701001 hb; have n4_ := Rb HO_701003 hb; have n5_ := Rm (Kd.R_new' ho0 (Kd.R_lt (Rz HO_6.out))) HB; have n6_ := Kb BK686 hb; have n7_ := Kb BK700 hb; have n8_ := Bc HB hb; clear HO_6 HO_687001 HO_687003 HO_701001 HO_701003 BK686 BK700 HB; revert n0_ n1_ n2_ n3_ n4_ n5_ n6_ n7_ n8_; intro HO_6 HO_687001 HO_687003 HO_701001 HO_701003 HO704 BK686 BK700 HB; (try clear hb); (try clear hb2); (try clear hk); (try clear hi); (try clear ho0); obtain ⟨Ao41, co41, eo41⟩ := Kd.R_slice HO704.out; subst eo41) | ((with_reducible refine gate_callee (f := 25) rfl ?_); refine gL (some 44) Try.func25 #[.slice Ao17 t687.length co17, .slice Ao41 t702.length co41] ?_; (with_reducible refine (laws_eqStringS.calls kj7 _ _ t687 _ _ t702 true _ ?side1 ?side2 ?side3 ?side4 A36.out).mono ?_); (case side1 => exact Cz ((Kd.R_reads' HO_6.out).2.2)); (case side2 => exact (Kd.R_reads' HO_6.out).2.1); (case side3 => exact Cz ((Kd.R_reads' HO704.out).2.2)); (case side4 => exact (Kd.R_reads' HO704.out).2.1); rintro e w' ⟨rfl, ⟨nd, rfl⟩⟩; refine ⟨_, rfl, ?_⟩) | ((with_reducible refine gate_callee (f := 26) rfl ?_); refine gL (some 48) Try.func26 #[.slice Ao17 t687.length co17, .int .i64 1] ?_; (with_reducible refine (laws_markStringS.calls kj7 (fun k_ => some k_ = (.slice Ao17 t687.length co17 : Value).ownBlock) (.slice Ao17 t687.length co17) t687 1 t706 t707 w _ ?side1 ?side2 A38.out).mono ?_); (case side1 => repeat (first | (with_reducible first | exact HB.out | apply below_alloc | apply pw_below_drewN | apply below_drew1 | refine below_set ?_ GE686.out | refine below_set ?_ GE700.out) | exact HB.out)); (case side2 => exact Kd.R_tight rfl HO_6.out); rintro e w42 ⟨rfl, hy0, hb, hkp⟩; refine ⟨_, rfl, ?_⟩; have n0_ := Aside0.mk (Kd.R_reok rfl hy0 (fun k_ e_ => HO_6.out.1 k_ e_)); have n1_ := Aside0.mk (Kd.R_mono (ok' := fun k_ => some k_ ≠ (.slice Ao15 t681.length co15 : Value).ownBlock ∧ some k_ ≠ (.slice Ao22 t691.length co22 : Value).ownBlock ∧ some k_ ≠ (.slice Ao23 t695.length co23 : Value).ownBlock) (Kd.R_keptB ((Kd.R_apart' HO_687001.out (Kd.R_typed HO_6.out) (by decide))) hkp (fun k_ hk_ hs_ => (hk_.2) hs_)) (fun k_ hk_ => ⟨hk_.1.1.1, hk_.1.1.2.1, hk_.1.1.2.2⟩)); have n2_ := Aside0.mk (Kd.R_mono (ok' := fun k_ => some k_ ≠ (.slice Ao14 t677.length co14 : Value).ownBlock ∧ some k_ ≠ (.slice Ao22 t691.length co22 : Value).ownBlock ∧ some k_ ≠ (.slice Ao23 t695.length co23 : Value).ownBlock) (Kd.R_keptB ((Kd.R_apart' HO_687003.out (Kd.R_typed HO_6.out) (by decide))) hkp (fun k_ hk_ hs_ => (hk_.2) hs_)) (fun k_ hk_ => ⟨hk_.1.1.1, hk_.1.1.2.1, hk_.1.1.2.2⟩)); have n3_ := Aside0.mk (Kd.R_mono (ok' := fun k_ => some k_ ≠ (.slice Ao14 t677.length co14 : Value).ownBlock ∧ some k_ ≠ (.slice Ao15 t681.length co15 : Value).ownBlock ∧ some k_ ≠ (.slice Ao23 t695.length co23 : Value).ownBlock) (Kd.R_keptB ((Kd.R_apart' HO_701001.out (Kd.R_typed HO_6.out) (by decide))) hkp (fun k_ hk_ hs_ => (hk_.2) hs_)) (fun k_ hk_ => ⟨hk_.1.1.1, hk_.1.1.2.1, hk_.1.1.2.2⟩)); have n4_ := Aside0.mk (Kd.R_mono (ok' := fun k_ => some k_ ≠ (.slice Ao14 t677.length co14 : Value).ownBlock ∧ some k_ ≠ (.slice Ao15 t681.length co15 : Value).ownBlock ∧ some k_ ≠ (.slice Ao22 t691.length co22 : Value).ownBlock) (Kd.R_keptB ((Kd.R_apart' HO_701003.out (Kd.R_typed HO_6.out) (by decide))) hkp (fun k_ hk_ hs_ => (hk_.2) hs_)) (fun k_ hk_ => ⟨hk_.1.1.1, hk_.1.1.2.1, hk_.1.1.2.2⟩)); have n5_ := Aside0.mk (blk_kept (Kz BK686.out) hkp (fun hs_ => (fun e_ => (Kd.R_ne HO_6.out BK686.out (by decide)) e_) hs_)); have n6_ := Aside0.mk (blk_kept (Kz BK700.out) hkp (fun hs_ => (fun e_ => (Kd.R_ne HO_6.out BK700.out (by decide)) e_) hs_)); have n7_ := Aside0.mk (Kd.R_mono (ok' := fun k_ => some k_ ≠ (.slice Ao17 t687.length co17 : Value).ownBlock) (Kd.R_keptB (HO704.out) hkp (fun k_ hk_ hs_ => (hk_.2) hs_)) (fun k_ hk_ => hk_.1.2)); have n8_ := Aside0.mk (hb); clear HO_6 HO_687001 HO_687003 HO_701001 HO_701003 BK686 BK700 HO704 HB; revert n0_ n1_ n2_ n3_ n4_ n5_ n6_ n7_ n8_; intro HO_6 HO_687001 HO_687003 HO_701001 HO_701003 BK686 BK700 HO704 HB; (try clear hb); (try clear hkp); (try clear hy0)))
      (try simp only [Act.put, List.setIfInBounds_toArray, List.set_cons_zero, List.set_cons_succ])
      go_cut [61] (fun v61 wc => ∃ (kq : Nat) (x61_38 : Bool), v61 = .bool x61_38 ∧ Aside0 (laws_FnExactBuildTrie.j1 kq l0 t685 x61_38 t676 t677 t680 t681 t684 t690 t691 t694 t695 t698 = some r) ∧ Aside0 (kq ≤ kj7) ∧ Aside0 (Kd.R (Kd.int .i64) 3 wc w.heap.size (fun k_ => some k_ ≠ ((.slice Ao15 t681.length co15) : Value).ownBlock ∧ some k_ ≠ ((.slice Ao22 t691.length co22) : Value).ownBlock ∧ some k_ ≠ ((.slice Ao23 t695.length co23) : Value).ownBlock) (.slice Ao14 t677.length co14) t677) ∧ Aside0 (Kd.R (Kd.int .i64) 3 wc w.heap.size (fun k_ => some k_ ≠ ((.slice Ao14 t677.length co14) : Value).ownBlock ∧ some k_ ≠ ((.slice Ao22 t691.length co22) : Value).ownBlock ∧ some k_ ≠ ((.slice Ao23 t695.length co23) : Value).ownBlock) (.slice Ao15 t681.length co15) t681) ∧ Aside0 (Kd.R (Kd.int .i64) 3 wc w.heap.size (fun k_ => some k_ ≠ ((.slice Ao14 t677.length co14) : Value).ownBlock ∧ some k_ ≠ ((.slice Ao15 t681.length co15) : Value).ownBlock ∧ some k_ ≠ ((.slice Ao23 t695.length co23) : Value).ownBlock) (.slice Ao22 t691.length co22) t691) ∧ Aside0 (Kd.R (Kd.int .i64) 3 wc w.heap.size (fun k_ => some k_ ≠ ((.slice Ao14 t677.length co14) : Value).ownBlock ∧ some k_ ≠ ((.slice Ao15 t681.length co15) : Value).ownBlock ∧ some k_ ≠ ((.slice Ao22 t691.length co22) : Value).ownBlock) (.slice Ao23 t695.length co23) t695) ∧ Aside0 (wc.heap[gb686]? = some (.cells #[.int .i64 t676, (.slice Ao14 t677.length co14), .int .i64 t680, (.slice Ao15 t681.length co15), .string t684] 32 (0, 0))) ∧ Aside0 (wc.heap[gb700]? = some (.cells #[.int .i64 t690, (.slice Ao22 t691.length co22), .int .i64 t694, (.slice Ao23 t695.length co23), .string t698] 32 (0, 0))) ∧ Aside0 (Below w.heap.size w wc))
      case first =>
       have H := HC39.out; clear HC39
       by_cases c43 : t706 < 0
       ·rw [if_pos c43] at H
        have c43b0 : decide (t706 < 0) = true := decide_eq_true c43; clear c43
        (first | rw [c43b0] | (simp only [i64_w, i32_w]; rw [c43b0]) | skip)
        have H' := Aside0.mk H; clear H
        go_wp2
        go_meet
        case rel => exact ⟨_, (true), (by first | rfl | (simp; done) | (simp [*]; done)), H', ⟨by have := HJ7.out; first | omega | exact Nat.le_refl _⟩, ⟨Rz HO_687001.out⟩, ⟨Rz HO_687003.out⟩, ⟨Rz HO_701001.out⟩, ⟨Rz HO_701003.out⟩, ⟨Kz BK686.out⟩, ⟨Kz BK700.out⟩, ⟨Bq⟩⟩
       ·rw [if_neg c43] at H
        have c43b0 : decide (t706 < 0) = false := decide_eq_false c43; clear c43
        (first | rw [c43b0] | (simp only [i64_w, i32_w]; rw [c43b0]) | skip)
        replace H := Option.bind_eq_some_iff.mp H; obtain ⟨t708, A440, H⟩ := H; replace H : (if t708 = true then (laws_FnExactBuildTrie.j1 kj7 l0 t685 (t699 != t685) t676 t677 t680 t681 t684 t690 t691 t694 t695 t698) else (laws_FnExactBuildTrie.j1 kj7 l0 t685 true t676 t677 t680 t681 t684 t690 t691 t694 t695 t698)) = some r := H; have A44 := Aside0.mk A440; clear A440
        by_cases c45 : t708 = true
        ·subst c45
         have H1 : (laws_FnExactBuildTrie.j1 kj7 l0 t685 (t699 != t685) t676 t677 t680 t681 t684 t690 t691 t694 t695 t698) = some r := by rw [if_pos rfl] at H; exact H
         clear H; have H := H1; clear H1; have H' := Aside0.mk H; clear H; have hnb46 := NB700_686.out; have hnc46 := NB686_700.out; obtain ⟨hcz47_0, hcz47_1, hcz47_2, hcz47_3, hcz47_4, hfz47_0, hfz47_1, hfz47_2, hfz47_3, hfz47_4⟩ := cf5 (w := w42) BK700; obtain ⟨hcz48_0, hcz48_1, hcz48_2, hcz48_3, hcz48_4, hfz48_0, hfz48_1, hfz48_2, hfz48_3, hfz48_4⟩ := cf5 (w := w42) BK686
         go_wp2_with (first | (go_at_call 16; (with_reducible refine (laws_eqTrie.calls kj7 t690 _ _ t691 t694 _ _ t695 t698 t676 _ _ t677 t680 _ _ t681 t684 true _ ?side1 ?side2 ?side3 ?side4 ?side5 ?side6 ?side7 ?side8 A44.out).mono ?_); (case side1 => exact Cz ((Kd.R_reads' HO_701001.out).2.2)); (case side2 => exact (Kd.R_reads' HO_701001.out).2.1); (case side3 => exact Cz ((Kd.R_reads' HO_701003.out).2.2)); (case side4 => exact (Kd.R_reads' HO_701003.out).2.1); (case side5 => exact Cz ((Kd.R_reads' HO_687001.out).2.2)); (case side6 => exact (Kd.R_reads' HO_687001.out).2.1); (case side7 => exact Cz ((Kd.R_reads' HO_687003.out).2.2)); (case side8 => exact (Kd.R_reads' HO_687003.out).2.1); rintro e w49 ⟨rfl, hb⟩; have n0_ := Rb HO_6 hb; have n1_ := Rb HO_687001 hb; have n2_ := Rb HO_687003 hb; have n3_ := Rb HO_701001 hb; have n4_ := Rb HO_701003 hb; have n5_ := Rb HO704 hb; have n6_ := Kb BK686 hb; have n7_ := Kb BK700 hb; have n8_ := Bc HB hb; clear HO_6 HO_687001 HO_687003 HO_701001 HO_701003 HO704 BK686 BK700 HB; revert n0_ n1_ n2_ n3_ n4_ n5_ n6_ n7_ n8_; intro HO_6 HO_687001 HO_687003 HO_701001 HO_701003 HO704 BK686 BK700 HB; (try clear hb); (try clear hb2); (try clear hk); (try clear hi)))
         go_meet
         case rel => exact ⟨_, ((t699 != t685)), (by first | rfl | (simp; done) | (simp [*]; done)), H', ⟨by have := HJ7.out; first | omega | exact Nat.le_refl _⟩, ⟨Rz HO_687001.out⟩, ⟨Rz HO_687003.out⟩, ⟨Rz HO_701001.out⟩, ⟨Rz HO_701003.out⟩, ⟨Kz BK686.out⟩, ⟨Kz BK700.out⟩, ⟨Bq⟩⟩
        ·replace c45 := Bool.eq_false_iff.mpr c45
         subst c45
         have H1 : (laws_FnExactBuildTrie.j1 kj7 l0 t685 true t676 t677 t680 t681 t684 t690 t691 t694 t695 t698) = some r := by rw [if_neg (show ¬ (false = true) by decide)] at H; exact H
         clear H; have H := H1; clear H1; have H' := Aside0.mk H; clear H; have hnb50 := NB700_686.out; have hnc50 := NB686_700.out; obtain ⟨hcz51_0, hcz51_1, hcz51_2, hcz51_3, hcz51_4, hfz51_0, hfz51_1, hfz51_2, hfz51_3, hfz51_4⟩ := cf5 (w := w42) BK700; obtain ⟨hcz52_0, hcz52_1, hcz52_2, hcz52_3, hcz52_4, hfz52_0, hfz52_1, hfz52_2, hfz52_3, hfz52_4⟩ := cf5 (w := w42) BK686
         go_wp2_with (first | (go_at_call 16; (with_reducible refine (laws_eqTrie.calls kj7 t690 _ _ t691 t694 _ _ t695 t698 t676 _ _ t677 t680 _ _ t681 t684 false _ ?side1 ?side2 ?side3 ?side4 ?side5 ?side6 ?side7 ?side8 A44.out).mono ?_); (case side1 => exact Cz ((Kd.R_reads' HO_701001.out).2.2)); (case side2 => exact (Kd.R_reads' HO_701001.out).2.1); (case side3 => exact Cz ((Kd.R_reads' HO_701003.out).2.2)); (case side4 => exact (Kd.R_reads' HO_701003.out).2.1); (case side5 => exact Cz ((Kd.R_reads' HO_687001.out).2.2)); (case side6 => exact (Kd.R_reads' HO_687001.out).2.1); (case side7 => exact Cz ((Kd.R_reads' HO_687003.out).2.2)); (case side8 => exact (Kd.R_reads' HO_687003.out).2.1); rintro e w53 ⟨rfl, hb⟩; have n0_ := Rb HO_6 hb; have n1_ := Rb HO_687001 hb; have n2_ := Rb HO_687003 hb; have n3_ := Rb HO_701001 hb; have n4_ := Rb HO_701003 hb; have n5_ := Rb HO704 hb; have n6_ := Kb BK686 hb; have n7_ := Kb BK700 hb; have n8_ := Bc HB hb; clear HO_6 HO_687001 HO_687003 HO_701001 HO_701003 HO704 BK686 BK700 HB; revert n0_ n1_ n2_ n3_ n4_ n5_ n6_ n7_ n8_; intro HO_6 HO_687001 HO_687003 HO_701001 HO_701003 HO704 BK686 BK700 HB; (try clear hb); (try clear hb2); (try clear hk); (try clear hi)))
         go_meet
         case rel => exact ⟨_, (true), (by first | rfl | (simp; done) | (simp [*]; done)), H', ⟨by have := HJ7.out; first | omega | exact Nat.le_refl _⟩, ⟨Rz HO_687001.out⟩, ⟨Rz HO_687003.out⟩, ⟨Rz HO_701001.out⟩, ⟨Rz HO_701003.out⟩, ⟨Kz BK686.out⟩, ⟨Kz BK700.out⟩, ⟨Bq⟩⟩
      case rest =>
       clear HC39
       try clear c1
       try clear c2
       try clear p2
       try clear c3
       try clear c3b0
       try clear c4
       try clear c5
       try clear c6
       try clear c16
       try clear c20
       try clear c21
       try clear c22
       try clear c23
       try clear c24
       try clear c25
       try clear c26
       try clear c30
       try clear c34
       try clear c37
       try clear c43
       try clear c43b0
       try clear c45
       try clear c46
       try clear c50
       try clear hcz13_0
       try clear hcz13_1
       try clear hcz13_2
       try clear hcz13_3
       try clear hcz13_4
       try clear hcz21_0
       try clear hcz21_1
       try clear hcz21_2
       try clear hcz21_3
       try clear hcz21_4
       try clear hcz27_0
       try clear hcz27_1
       try clear hcz27_2
       try clear hcz27_3
       try clear hcz27_4
       try clear hcz28_0
       try clear hcz28_1
       try clear hcz28_2
       try clear hcz28_3
       try clear hcz28_4
       try clear hcz31_0
       try clear hcz31_1
       try clear hcz31_2
       try clear hcz31_3
       try clear hcz31_4
       try clear hcz32_0
       try clear hcz32_1
       try clear hcz32_2
       try clear hcz32_3
       try clear hcz32_4
       try clear hcz47_0
       try clear hcz47_1
       try clear hcz47_2
       try clear hcz47_3
       try clear hcz47_4
       try clear hcz48_0
       try clear hcz48_1
       try clear hcz48_2
       try clear hcz48_3
       try clear hcz48_4
       try clear hcz51_0
       try clear hcz51_1
       try clear hcz51_2
       try clear hcz51_3
       try clear hcz51_4
       try clear hcz52_0
       try clear hcz52_1
       try clear hcz52_2
       try clear hcz52_3
       try clear hcz52_4
       try clear hfz13_0
       try clear hfz13_1
       try clear hfz13_2
       try clear hfz13_3
       try clear hfz13_4
       try clear hfz21_0
       try clear hfz21_1
       try clear hfz21_2
       try clear hfz21_3
       try clear hfz21_4
       try clear hfz27_0
       try clear hfz27_1
       try clear hfz27_2
       try clear hfz27_3
       try clear hfz27_4
       try clear hfz28_0
       try clear hfz28_1
       try clear hfz28_2
       try clear hfz28_3
       try clear hfz28_4
       try clear hfz31_0
       try clear hfz31_1
       try clear hfz31_2
       try clear hfz31_3
       try clear hfz31_4
       try clear hfz32_0
       try clear hfz32_1
       try clear hfz32_2
       try clear hfz32_3
       try clear hfz32_4
       try clear hfz47_0
       try clear hfz47_1
       try clear hfz47_2
       try clear hfz47_3
       try clear hfz47_4
       try clear hfz48_0
       try clear hfz48_1
       try clear hfz48_2
       try clear hfz48_3
       try clear hfz48_4
       try clear hfz51_0
       try clear hfz51_1
       try clear hfz51_2
       try clear hfz51_3
       try clear hfz51_4
       try clear hfz52_0
       try clear hfz52_1
       try clear hfz52_2
       try clear hfz52_3
       try clear hfz52_4
       try clear p2
       obtain ⟨kq, x61_38, rfl, HA, HJ38, HO_687001, HO_687003, HO_701001, HO_701003, BK686, BK700, HB⟩ := hcut; cases kq with
       | zero => exact absurd HA.out (by simp [laws_FnExactBuildTrie.j1])
       | succ kj38 =>
        have H := HA.out; clear HA
        simp only [laws_FnExactBuildTrie.j1] at H
        by_cases c54 : x61_38 = true
        ·subst c54
         have H1 : (some false) = some r := by rw [if_pos rfl] at H; exact H
         clear H; have H := H1; clear H1; obtain rfl := Option.some.inj H
         go_wp2
         go_ret
         exact ⟨by first | rfl | (simp [errW_none, errW_some] <;> rfl) | (simp [*, errW_none, errW_some] <;> rfl), Bq⟩
        ·replace c54 := Bool.eq_false_iff.mpr c54
         subst c54
         have H1 : ((laws_markTrie.f kj38 t690 t691 t694 t695 t698 1).bind fun bt709 => ((laws_heldTrie.f kj38 t690 bt709.2.1 t694 bt709.2.2 t698 1).bind fun t712 => (if t712 < 0 then (some false) else (if t712 = bt709.1 then ((laws_toStringS.f kj38 l0).bind fun t713 => ((impl_BuildTrie.f kj38 t713).bind fun bt716 => ((laws_eqTrie.f kj38 bt716.1 bt716.2.1 bt716.2.2.1 bt716.2.2.2.1 bt716.2.2.2.2.1 t676 t677 t680 t681 t684).bind fun t727 => (if t727 = true then (laws_FnExactBuildTrie.j2 kj38 bt709.1 (bt716.2.2.2.2.2 != t685) t690 bt709.2.1 t694 bt709.2.2 t698) else (laws_FnExactBuildTrie.j2 kj38 bt709.1 true t690 bt709.2.1 t694 bt709.2.2 t698))))) else (some false))))) = some r := by rw [if_neg (show ¬ (false = true) by decide)] at H; exact H
         clear H; have H := H1; clear H1; replace H := Option.bind_eq_some_iff.mp H; obtain ⟨⟨t709, t710, t711⟩, A550, H⟩ := H; replace H : ((laws_heldTrie.f kj38 t690 t710 t694 t711 t698 1).bind fun t712 => (if t712 < 0 then (some false) else (if t712 = t709 then ((laws_toStringS.f kj38 l0).bind fun t713 => ((impl_BuildTrie.f kj38 t713).bind fun bt716 => ((laws_eqTrie.f kj38 bt716.1 bt716.2.1 bt716.2.2.1 bt716.2.2.2.1 bt716.2.2.2.2.1 t676 t677 t680 t681 t684).bind fun t727 => (if t727 = true then (laws_FnExactBuildTrie.j2 kj38 t709 (bt716.2.2.2.2.2 != t685) t690 t710 t694 t711 t698) else (laws_FnExactBuildTrie.j2 kj38 t709 true t690 t710 t694 t711 t698))))) else (some false)))) = some r := H; have A55 := Aside0.mk A550; clear A550; replace H := Option.bind_eq_some_iff.mp H; obtain ⟨t712, A560, H⟩ := H; replace H : (if t712 < 0 then (some false) else (if t712 = t709 then ((laws_toStringS.f kj38 l0).bind fun t713 => ((impl_BuildTrie.f kj38 t713).bind fun bt716 => ((laws_eqTrie.f kj38 bt716.1 bt716.2.1 bt716.2.2.1 bt716.2.2.2.1 bt716.2.2.2.2.1 t676 t677 t680 t681 t684).bind fun t727 => (if t727 = true then (laws_FnExactBuildTrie.j2 kj38 t709 (bt716.2.2.2.2.2 != t685) t690 t710 t694 t711 t698) else (laws_FnExactBuildTrie.j2 kj38 t709 true t690 t710 t694 t711 t698))))) else (some false))) = some r := H; have A56 := Aside0.mk A560; clear A560
         by_cases c57 : t712 < 0
         ·rw [if_pos c57] at H
          have c57b0 : decide (t712 < 0) = true := decide_eq_true c57; clear c57; obtain rfl := Option.some.inj H; have hnb58 := NB700_686.out; have hnc58 := NB686_700.out; obtain ⟨hcz59_0, hcz59_1, hcz59_2, hcz59_3, hcz59_4, hfz59_0, hfz59_1, hfz59_2, hfz59_3, hfz59_4⟩ := cf5 (w := wc) BK700
          go_wp2_with (first | ((with_reducible refine gate_callee (f := 27) rfl ?_); refine gL (some 64) Try.func27 #[.agg #[.int .i64 t690, .slice Ao22 t691.length co22, .int .i64 t694, .slice Ao23 t695.length co23, .string t698], .int .i64 1] ?_; (with_reducible refine (laws_markTrie.calls kj38 t690 (fun k_ => some k_ = (.slice Ao22 t691.length co22 : Value).ownBlock) (.slice Ao22 t691.length co22) t691 t694 (fun k_ => some k_ = (.slice Ao23 t695.length co23 : Value).ownBlock) (.slice Ao23 t695.length co23) t695 t698 1 t709 t710 t711 w _ ?side1 ?side2 ?side3 ?side4 ?side5 A55.out).mono ?_); (case side1 => repeat (first | (with_reducible first | exact HB.out | apply below_alloc | apply pw_below_drewN | apply below_drew1 | refine below_set ?_ GE686.out | refine below_set ?_ GE700.out) | exact HB.out)); (case side2 => exact Kd.R_tight rfl HO_701001.out); (case side3 => exact fun k_ e_ => (HO_701001.out.1 k_ e_.symm).2.2); (case side4 => exact Kd.R_tight rfl HO_701003.out); (case side5 => exact fun k_ e_ => (HO_701003.out.1 k_ e_.symm).2.2); rintro e w60 ⟨rfl, hy0, hy1, hb, hkp⟩; refine ⟨_, rfl, ?_⟩; have n0_ := Aside0.mk (Kd.R_mono (ok' := fun k_ => some k_ ≠ (.slice Ao15 t681.length co15 : Value).ownBlock ∧ some k_ ≠ (.slice Ao22 t691.length co22 : Value).ownBlock ∧ some k_ ≠ (.slice Ao23 t695.length co23 : Value).ownBlock) (Kd.R_keptB (HO_687001.out) hkp (fun k_ hk_ hs_ => Or.elim hs_ (fun e_ => (hk_.2.1) e_) (fun e_ => (hk_.2.2) e_))) (fun k_ hk_ => ⟨hk_.1.1, hk_.1.2.1, hk_.1.2.2⟩)); have n1_ := Aside0.mk (Kd.R_mono (ok' := fun k_ => some k_ ≠ (.slice Ao14 t677.length co14 : Value).ownBlock ∧ some k_ ≠ (.slice Ao22 t691.length co22 : Value).ownBlock ∧ some k_ ≠ (.slice Ao23 t695.length co23 : Value).ownBlock) (Kd.R_keptB (HO_687003.out) hkp (fun k_ hk_ hs_ => Or.elim hs_ (fun e_ => (hk_.2.1) e_) (fun e_ => (hk_.2.2) e_))) (fun k_ hk_ => ⟨hk_.1.1, hk_.1.2.1, hk_.1.2.2⟩)); have n2_ := Aside0.mk (Kd.R_reok rfl hy0 (fun k_ e_ => HO_701001.out.1 k_ e_)); have n3_ := Aside0.mk (Kd.R_reok rfl hy1 (fun k_ e_ => HO_701003.out.1 k_ e_)); have n4_ := Aside0.mk (blk_kept (Kz BK686.out) hkp (fun hs_ => Or.elim hs_ (fun e_ => (fun e_ => (Kd.R_ne HO_701001.out BK686.out (by decide)) e_) e_) (fun e_ => (fun e_ => (Kd.R_ne HO_701003.out BK686.out (by decide)) e_) e_))); have n5_ := Aside0.mk (blk_kept (Kz BK700.out) hkp (fun hs_ => Or.elim hs_ (fun e_ => (fun e_ => (Kd.R_ne HO_701001.out BK700.out (by decide)) e_) e_) (fun e_ => (fun e_ => (Kd.R_ne HO_701003.out BK700.out (by decide)) e_) e_))); have n6_ := Aside0.mk (hb); clear HO_687001 HO_687003 HO_701001 HO_701003 BK686 BK700 HB; revert n0_ n1_ n2_ n3_ n4_ n5_ n6_; intro HO_687001 HO_687003 HO_701001 HO_701003 BK686 BK700 HB; (try clear hb); (try clear hkp); (try clear hy0); (try clear hy1); obtain ⟨hcz61_0, hcz61_1, hcz61_2, hcz61_3, hcz61_4, hfz61_0, hfz61_1, hfz61_2, hfz61_3, hfz61_4⟩ := cf5 (w := w60) BK700) | ((with_reducible refine gate_callee (f := 28) rfl ?_); refine goesL_ (some 67) rfl rfl Try.func28 (by kernel_rfl) rfl #[.agg #[.int .i64 t690, .slice Ao22 t710.length co22, .int .i64 t694, .slice Ao23 t711.length co23, .string t698], .int .i64 1] rfl (by (try simp only [List.map_toArray, List.map_cons, List.map_nil]); first | done | (rw [show t710.length = t691.length from (Kd.R_reads' HO_701001.out).1.symm, show t711.length = t695.length from (Kd.R_reads' HO_701003.out).1.symm] <;> rfl) | rfl | (simp only [List.length_drop, List.length_take]; rfl)) ?_; (with_reducible refine (laws_heldTrie.calls kj38 t690 _ _ t710 t694 _ _ t711 t698 1 t712 _ ?side1 ?side2 ?side3 ?side4 A56.out).mono ?_); (case side1 => exact Cz ((Kd.R_reads' HO_701001.out).2.2)); (case side2 => rw [show t710.length = t691.length from (Kd.R_reads' HO_701001.out).1.symm]; exact (Kd.R_reads' HO_701001.out).2.1); (case side3 => exact Cz ((Kd.R_reads' HO_701003.out).2.2)); (case side4 => rw [show t711.length = t695.length from (Kd.R_reads' HO_701003.out).1.symm]; exact (Kd.R_reads' HO_701003.out).2.1); rintro e w62 ⟨rfl, hb⟩; refine ⟨_, rfl, ?_⟩; have n0_ := Rb HO_687001 hb; have n1_ := Rb HO_687003 hb; have n2_ := Rb HO_701001 hb; have n3_ := Rb HO_701003 hb; have n4_ := Kb BK686 hb; have n5_ := Kb BK700 hb; have n6_ := Bc HB hb; clear HO_687001 HO_687003 HO_701001 HO_701003 BK686 BK700 HB; revert n0_ n1_ n2_ n3_ n4_ n5_ n6_; intro HO_687001 HO_687003 HO_701001 HO_701003 BK686 BK700 HB; (try clear hb); (try clear hb2); (try clear hk); (try clear hi)))
          go_ret
          exact ⟨by first | rfl | (simp [errW_none, errW_some] <;> rfl) | (simp [*, errW_none, errW_some] <;> rfl), Bq⟩
         ·rw [if_neg c57] at H
          have c57b0 : decide (t712 < 0) = false := decide_eq_false c57; clear c57
          by_cases c63 : t712 = t709
          ·rw [if_pos c63] at H
           have c63b0 : (t712 == t709) = true := beq_iff_eq.mpr c63; have c63b1 : (t712 != t709) = false := bne_eq_false_iff_eq.mpr c63; clear c63; replace H := Option.bind_eq_some_iff.mp H; obtain ⟨t713, A640, H⟩ := H; replace H : ((impl_BuildTrie.f kj38 t713).bind fun bt716 => ((laws_eqTrie.f kj38 bt716.1 bt716.2.1 bt716.2.2.1 bt716.2.2.2.1 bt716.2.2.2.2.1 t676 t677 t680 t681 t684).bind fun t727 => (if t727 = true then (laws_FnExactBuildTrie.j2 kj38 t709 (bt716.2.2.2.2.2 != t685) t690 t710 t694 t711 t698) else (laws_FnExactBuildTrie.j2 kj38 t709 true t690 t710 t694 t711 t698)))) = some r := H; have A64 := Aside0.mk A640; clear A640; replace H := Option.bind_eq_some_iff.mp H; obtain ⟨⟨t716, t717, t720, t721, t724, t725⟩, A650, H⟩ := H; replace H : ((laws_eqTrie.f kj38 t716 t717 t720 t721 t724 t676 t677 t680 t681 t684).bind fun t727 => (if t727 = true then (laws_FnExactBuildTrie.j2 kj38 t709 (t725 != t685) t690 t710 t694 t711 t698) else (laws_FnExactBuildTrie.j2 kj38 t709 true t690 t710 t694 t711 t698))) = some r := H; have A65 := Aside0.mk A650; clear A650; have HC66 := Aside0.mk H; clear H; have hnb67 := NB700_686.out; have hnc67 := NB686_700.out; obtain ⟨hcz68_0, hcz68_1, hcz68_2, hcz68_3, hcz68_4, hfz68_0, hfz68_1, hfz68_2, hfz68_3, hfz68_4⟩ := cf5 (w := wc) BK700
           go_upto_region 25 with (first | ((with_reducible refine gate_callee (f := 27) rfl ?_); refine gL (some 64) Try.func27 #[.agg #[.int .i64 t690, .slice Ao22 t691.length co22, .int .i64 t694, .slice Ao23 t695.length co23, .string t698], .int .i64 1] ?_; (with_reducible refine (laws_markTrie.calls kj38 t690 (fun k_ => some k_ = (.slice Ao22 t691.length co22 : Value).ownBlock) (.slice Ao22 t691.length co22) t691 t694 (fun k_ => some k_ = (.slice Ao23 t695.length co23 : Value).ownBlock) (.slice Ao23 t695.length co23) t695 t698 1 t709 t710 t711 w _ ?side1 ?side2 ?side3 ?side4 ?side5 A55.out).mono ?_); (case side1 => repeat (first | (with_reducible first | exact HB.out | apply below_alloc | apply pw_below_drewN | apply below_drew1 | refine below_set ?_ GE686.out | refine below_set ?_ GE700.out) | exact HB.out)); (case side2 => exact Kd.R_tight rfl HO_701001.out); (case side3 => exact fun k_ e_ => (HO_701001.out.1 k_ e_.symm).2.2); (case side4 => exact Kd.R_tight rfl HO_701003.out); (case side5 => exact fun k_ e_ => (HO_701003.out.1 k_ e_.symm).2.2); rintro e w69 ⟨rfl, hy0, hy1, hb, hkp⟩; refine ⟨_, rfl, ?_⟩; have n0_ := Aside0.mk (Kd.R_mono (ok' := fun k_ => some k_ ≠ (.slice Ao15 t681.length co15 : Value).ownBlock ∧ some k_ ≠ (.slice Ao22 t691.length co22 : Value).ownBlock ∧ some k_ ≠ (.slice Ao23 t695.length co23 : Value).ownBlock) (Kd.R_keptB (HO_687001.out) hkp (fun k_ hk_ hs_ => Or.elim hs_ (fun e_ => (hk_.2.1) e_) (fun e_ => (hk_.2.2) e_))) (fun k_ hk_ => ⟨hk_.1.1, hk_.1.2.1, hk_.1.2.2⟩)); have n1_ := Aside0.mk (Kd.R_mono (ok' := fun k_ => some k_ ≠ (.slice Ao14 t677.length co14 : Value).ownBlock ∧ some k_ ≠ (.slice Ao22 t691.length co22 : Value).ownBlock ∧ some k_ ≠ (.slice Ao23 t695.length co23 : Value).ownBlock) (Kd.R_keptB (HO_687003.out) hkp (fun k_ hk_ hs_ => Or.elim hs_ (fun e_ => (hk_.2.1) e_) (fun e_ => (hk_.2.2) e_))) (fun k_ hk_ => ⟨hk_.1.1, hk_.1.2.1, hk_.1.2.2⟩)); have n2_ := Aside0.mk (Kd.R_reok rfl hy0 (fun k_ e_ => HO_701001.out.1 k_ e_)); have n3_ := Aside0.mk (Kd.R_reok rfl hy1 (fun k_ e_ => HO_701003.out.1 k_ e_)); have n4_ := Aside0.mk (blk_kept (Kz BK686.out) hkp (fun hs_ => Or.elim hs_ (fun e_ => (fun e_ => (Kd.R_ne HO_701001.out BK686.out (by decide)) e_) e_) (fun e_ => (fun e_ => (Kd.R_ne HO_701003.out BK686.out (by decide)) e_) e_))); have n5_ := Aside0.mk (blk_kept (Kz BK700.out) hkp (fun hs_ => Or.elim hs_ (fun e_ => (fun e_ => (Kd.R_ne HO_701001.out BK700.out (by decide)) e_) e_) (fun e_ => (fun e_ => (Kd.R_ne HO_701003.out BK700.out (by decide)) e_) e_))); have n6_ := Aside0.mk (hb); clear HO_687001 HO_687003 HO_701001 HO_701003 BK686 BK700 HB; revert n0_ n1_ n2_ n3_ n4_ n5_ n6_; intro HO_687001 HO_687003 HO_701001 HO_701003 BK686 BK700 HB; (try clear hb); (try clear hkp); (try clear hy0); (try clear hy1); obtain ⟨hcz70_0, hcz70_1, hcz70_2, hcz70_3, hcz70_4, hfz70_0, hfz70_1, hfz70_2, hfz70_3, hfz70_4⟩ := cf5 (w := w69) BK700) | ((with_reducible refine gate_callee (f := 28) rfl ?_); refine goesL_ (some 67) rfl rfl Try.func28 (by kernel_rfl) rfl #[.agg #[.int .i64 t690, .slice Ao22 t710.length co22, .int .i64 t694, .slice Ao23 t711.length co23, .string t698], .int .i64 1] rfl (by (try simp only [List.map_toArray, List.map_cons, List.map_nil]); first | done | (rw [show t710.length = t691.length from (Kd.R_reads' HO_701001.out).1.symm, show t711.length = t695.length from (Kd.R_reads' HO_701003.out).1.symm] <;> rfl) | rfl | (simp only [List.length_drop, List.length_take]; rfl)) ?_; (with_reducible refine (laws_heldTrie.calls kj38 t690 _ _ t710 t694 _ _ t711 t698 1 t712 _ ?side1 ?side2 ?side3 ?side4 A56.out).mono ?_); (case side1 => exact Cz ((Kd.R_reads' HO_701001.out).2.2)); (case side2 => rw [show t710.length = t691.length from (Kd.R_reads' HO_701001.out).1.symm]; exact (Kd.R_reads' HO_701001.out).2.1); (case side3 => exact Cz ((Kd.R_reads' HO_701003.out).2.2)); (case side4 => rw [show t711.length = t695.length from (Kd.R_reads' HO_701003.out).1.symm]; exact (Kd.R_reads' HO_701003.out).2.1); rintro e w71 ⟨rfl, hb⟩; refine ⟨_, rfl, ?_⟩; have n0_ := Rb HO_687001 hb; have n1_ := Rb HO_687003 hb; have n2_ := Rb HO_701001 hb; have n3_ := Rb HO_701003 hb; have n4_ := Kb BK686 hb; have n5_ := Kb BK700 hb; have n6_ := Bc HB hb; clear HO_687001 HO_687003 HO_701001 HO_701003 BK686 BK700 HB; revert n0_ n1_ n2_ n3_ n4_ n5_ n6_; intro HO_687001 HO_687003 HO_701001 HO_701003 BK686 BK700 HB; (try clear hb); (try clear hb2); (try clear hk); (try clear hi)) | ((with_reducible refine gate_callee (f := 23) rfl ?_); refine gL (some 75) Try.func23 #[.slice A0 l0.length c0] ?_; (with_reducible refine (laws_toStringS.calls kj38 _ _ l0 t713 _ ?side1 ?side2 A64.out).mono ?_); (case side1 => exact Cz (Kd.C_below HR0.out HB.out)); (case side2 => exact HC0.out); rintro e w72 ⟨v714, rfl, ho0, hb⟩; refine ⟨_, rfl, ?_⟩; have n0_ := Rb HO_687001 hb; have n1_ := Rb HO_687003 hb; have n2_ := Rb HO_701001 hb; have n3_ := Rb HO_701003 hb; have n4_ := Rm ho0 HB; have n5_ := Kb BK686 hb; have n6_ := Kb BK700 hb; have n7_ := Bc HB hb; clear HO_687001 HO_687003 HO_701001 HO_701003 BK686 BK700 HB; revert n0_ n1_ n2_ n3_ n4_ n5_ n6_ n7_; intro HO_687001 HO_687003 HO_701001 HO_701003 HO715 BK686 BK700 HB; (try clear hb); (try clear hb2); (try clear hk); (try clear hi); (try clear ho0); obtain ⟨Ao73, co73, eo73⟩ := Kd.R_slice HO715.out; subst eo73) | ((with_reducible refine gate_callee (f := 24) rfl ?_); refine gL (some 76) Try.func24 #[.slice Ao73 t713.length co73] ?_; (with_reducible refine (impl_BuildTrie.calls kj38 _ _ t713 t716 t717 t720 t721 t724 t725 _ ?side1 ?side2 A65.out).mono ?_); (case side1 => exact Cz ((Kd.R_reads' HO715.out).2.2)); (case side2 => exact (Kd.R_reads' HO715.out).2.1); rintro e w74 ⟨v718, v722, rfl, ho0, ho1, hb⟩; refine ⟨_, rfl, ?_⟩; have n0_ := Aside0.mk (Kd.R_mono (Kd.R_told (Kd.R_told (Kd.R_old (Rz HO_687001.out) hb) (Kd.R_base ho0)) (Kd.R_base ho1)) (fun _ h_ => h_.1)); have n1_ := Aside0.mk (Kd.R_mono (Kd.R_told (Kd.R_told (Kd.R_old (Rz HO_687003.out) hb) (Kd.R_base ho0)) (Kd.R_base ho1)) (fun _ h_ => h_.1)); have n2_ := Aside0.mk (Kd.R_mono (Kd.R_told (Kd.R_told (Kd.R_old (Rz HO_701001.out) hb) (Kd.R_base ho0)) (Kd.R_base ho1)) (fun _ h_ => h_.1)); have n3_ := Aside0.mk (Kd.R_mono (Kd.R_told (Kd.R_told (Kd.R_old (Rz HO_701003.out) hb) (Kd.R_base ho0)) (Kd.R_base ho1)) (fun _ h_ => h_.1)); have n4_ := Rb HO715 hb; have n5_ := Aside0.mk (Kd.R_lower (Kd.R_new' (Kd.R_new' (Kd.R_new' (Kd.R_new' ho0 (Kd.R_lt (Rz HO_687001.out))) (Kd.R_lt (Rz HO_687003.out))) (Kd.R_lt (Rz HO_701001.out))) (Kd.R_lt (Rz HO_701003.out))) (below_size (w := w) (Bq))); have n6_ := Aside0.mk (Kd.R_lower (Kd.R_new' (Kd.R_new' (Kd.R_new' (Kd.R_new' ho1 (Kd.R_lt (Rz HO_687001.out))) (Kd.R_lt (Rz HO_687003.out))) (Kd.R_lt (Rz HO_701001.out))) (Kd.R_lt (Rz HO_701003.out))) (below_size (w := w) (Bq))); have n7_ := Kb BK686 hb; have n8_ := Kb BK700 hb; have n9_ := Bc HB hb; clear HO_687001 HO_687003 HO_701001 HO_701003 HO715 BK686 BK700 HB; revert n0_ n1_ n2_ n3_ n4_ n5_ n6_ n7_ n8_ n9_; intro HO_687001 HO_687003 HO_701001 HO_701003 HO715 HO719 HO723 BK686 BK700 HB; (try clear hb); (try clear hb2); (try clear hk); (try clear hi); (try clear ho0); (try clear ho1)) | ((with_reducible refine gate_dst (N := 12) rfl ?_); refine bE 12 #[.int .i64 0, .slice none 0 0, .int .i64 0, .slice none 0 0, .string (⟨#[]⟩ : ByteArray)] 32 ?_; intro gb726 hg w75 hbox hb; have n0_ := Rb HO_687001 hb; have n1_ := Rb HO_687003 hb; have n2_ := Rb HO_701001 hb; have n3_ := Rb HO_701003 hb; have n4_ := Rb HO715 hb; have n5_ := Rb HO719 hb; have n6_ := Rb HO723 hb; have n7_ := Kb BK686 hb; have n8_ := Kb BK700 hb; have n9_ := Bc HB hb; have n10_ := Aside0.mk (hbox); have n11_ := Gm HB hg; have n12_ := Gm HB hg; have n13_ := Nl BK686 hg; have n14_ := Ng BK686 hg; have n15_ := Nl BK700 hg; have n16_ := Ng BK700 hg; clear HO_687001 HO_687003 HO_701001 HO_701003 HO715 HO719 HO723 BK686 BK700 HB; revert n0_ n1_ n2_ n3_ n4_ n5_ n6_ n7_ n8_ n9_ n10_ n11_ n12_ n13_ n14_ n15_ n16_; intro HO_687001 HO_687003 HO_701001 HO_701003 HO715 HO719 HO723 BK686 BK700 HB BK726 GW726 GE726 NB686_726 NB726_686 NB700_726 NB726_700; clear hb hbox hg; have hnb76 := NB726_686.out; have hnc76 := NB686_726.out; have hnb77 := NB726_700.out; have hnc77 := NB700_726.out; obtain ⟨hcz78_0, hcz78_1, hcz78_2, hcz78_3, hcz78_4, hfz78_0, hfz78_1, hfz78_2, hfz78_3, hfz78_4⟩ := cf5 (w := w75) BK726; obtain ⟨Ao79, co79, eo79⟩ := Kd.R_slice HO719.out; subst eo79; obtain ⟨Ao80, co80, eo80⟩ := Kd.R_slice HO723.out; subst eo80))
           (try simp only [Act.put, List.setIfInBounds_toArray, List.set_cons_zero, List.set_cons_succ])
           go_cut [87] (fun v87 wc => ∃ (kq : Nat) (x87_65 : Bool), v87 = .bool x87_65 ∧ Aside0 (laws_FnExactBuildTrie.j2 kq t709 x87_65 t690 t710 t694 t711 t698 = some r) ∧ Aside0 (kq ≤ kj38) ∧ Aside0 (Kd.R (Kd.int .i64) 3 wc w.heap.size (fun k_ => some k_ ≠ ((.slice Ao15 t681.length co15) : Value).ownBlock ∧ some k_ ≠ ((.slice Ao22 t691.length co22) : Value).ownBlock ∧ some k_ ≠ ((.slice Ao23 t695.length co23) : Value).ownBlock ∧ some k_ ≠ ((.slice Ao79 t717.length co79) : Value).ownBlock ∧ some k_ ≠ ((.slice Ao80 t721.length co80) : Value).ownBlock) (.slice Ao14 t677.length co14) t677) ∧ Aside0 (Kd.R (Kd.int .i64) 3 wc w.heap.size (fun k_ => some k_ ≠ ((.slice Ao14 t677.length co14) : Value).ownBlock ∧ some k_ ≠ ((.slice Ao22 t691.length co22) : Value).ownBlock ∧ some k_ ≠ ((.slice Ao23 t695.length co23) : Value).ownBlock ∧ some k_ ≠ ((.slice Ao79 t717.length co79) : Value).ownBlock ∧ some k_ ≠ ((.slice Ao80 t721.length co80) : Value).ownBlock) (.slice Ao15 t681.length co15) t681) ∧ Aside0 (Kd.R (Kd.int .i64) 3 wc w.heap.size (fun k_ => some k_ ≠ ((.slice Ao14 t677.length co14) : Value).ownBlock ∧ some k_ ≠ ((.slice Ao15 t681.length co15) : Value).ownBlock ∧ some k_ ≠ ((.slice Ao23 t695.length co23) : Value).ownBlock ∧ some k_ ≠ ((.slice Ao79 t717.length co79) : Value).ownBlock ∧ some k_ ≠ ((.slice Ao80 t721.length co80) : Value).ownBlock) (.slice Ao22 t691.length co22) t710) ∧ Aside0 (Kd.R (Kd.int .i64) 3 wc w.heap.size (fun k_ => some k_ ≠ ((.slice Ao14 t677.length co14) : Value).ownBlock ∧ some k_ ≠ ((.slice Ao15 t681.length co15) : Value).ownBlock ∧ some k_ ≠ ((.slice Ao22 t691.length co22) : Value).ownBlock ∧ some k_ ≠ ((.slice Ao79 t717.length co79) : Value).ownBlock ∧ some k_ ≠ ((.slice Ao80 t721.length co80) : Value).ownBlock) (.slice Ao23 t695.length co23) t711) ∧ Aside0 (Kd.R (Kd.int .i64) 3 wc w.heap.size (fun k_ => some k_ ≠ ((.slice Ao14 t677.length co14) : Value).ownBlock ∧ some k_ ≠ ((.slice Ao15 t681.length co15) : Value).ownBlock ∧ some k_ ≠ ((.slice Ao22 t691.length co22) : Value).ownBlock ∧ some k_ ≠ ((.slice Ao23 t695.length co23) : Value).ownBlock ∧ some k_ ≠ ((.slice Ao80 t721.length co80) : Value).ownBlock) (.slice Ao79 t717.length co79) t717) ∧ Aside0 (Kd.R (Kd.int .i64) 3 wc w.heap.size (fun k_ => some k_ ≠ ((.slice Ao14 t677.length co14) : Value).ownBlock ∧ some k_ ≠ ((.slice Ao15 t681.length co15) : Value).ownBlock ∧ some k_ ≠ ((.slice Ao22 t691.length co22) : Value).ownBlock ∧ some k_ ≠ ((.slice Ao23 t695.length co23) : Value).ownBlock ∧ some k_ ≠ ((.slice Ao79 t717.length co79) : Value).ownBlock) (.slice Ao80 t721.length co80) t721) ∧ Aside0 (wc.heap[gb686]? = some (.cells #[.int .i64 t676, (.slice Ao14 t677.length co14), .int .i64 t680, (.slice Ao15 t681.length co15), .string t684] 32 (0, 0))) ∧ Aside0 (wc.heap[gb700]? = some (.cells #[.int .i64 t690, (.slice Ao22 t691.length co22), .int .i64 t694, (.slice Ao23 t695.length co23), .string t698] 32 (0, 0))) ∧ Aside0 (wc.heap[gb726]? = some (.cells #[.int .i64 t716, (.slice Ao79 t717.length co79), .int .i64 t720, (.slice Ao80 t721.length co80), .string t724] 32 (0, 0))) ∧ Aside0 (Below w.heap.size w wc))
           case first =>
            have H := HC66.out; clear HC66; replace H := Option.bind_eq_some_iff.mp H; obtain ⟨t727, A810, H⟩ := H; replace H : (if t727 = true then (laws_FnExactBuildTrie.j2 kj38 t709 (t725 != t685) t690 t710 t694 t711 t698) else (laws_FnExactBuildTrie.j2 kj38 t709 true t690 t710 t694 t711 t698)) = some r := H; have A81 := Aside0.mk A810; clear A810
            by_cases c82 : t727 = true
            ·subst c82
             have H1 : (laws_FnExactBuildTrie.j2 kj38 t709 (t725 != t685) t690 t710 t694 t711 t698) = some r := by rw [if_pos rfl] at H; exact H
             clear H; have H := H1; clear H1; have H' := Aside0.mk H; clear H; have hnb83 := NB726_686.out; have hnc83 := NB686_726.out; have hnb84 := NB726_700.out; have hnc84 := NB700_726.out; obtain ⟨hcz85_0, hcz85_1, hcz85_2, hcz85_3, hcz85_4, hfz85_0, hfz85_1, hfz85_2, hfz85_3, hfz85_4⟩ := cf5 (w := w75) BK726; have hnb86 := NB686_700.out; have hnc86 := NB700_686.out; obtain ⟨hcz87_0, hcz87_1, hcz87_2, hcz87_3, hcz87_4, hfz87_0, hfz87_1, hfz87_2, hfz87_3, hfz87_4⟩ := cf5 (w := w75) BK686
             go_wp2_with (first | ((with_reducible refine gate_callee (f := 16) rfl ?_); refine gL (some 81) Try.func16 #[.agg #[.int .i64 t716, .slice Ao79 t717.length co79, .int .i64 t720, .slice Ao80 t721.length co80, .string t724], .agg #[.int .i64 t676, .slice Ao14 t677.length co14, .int .i64 t680, .slice Ao15 t681.length co15, .string t684]] ?_; (with_reducible refine (laws_eqTrie.calls kj38 t716 _ _ t717 t720 _ _ t721 t724 t676 _ _ t677 t680 _ _ t681 t684 true _ ?side1 ?side2 ?side3 ?side4 ?side5 ?side6 ?side7 ?side8 A81.out).mono ?_); (case side1 => refine (Kd.R_reads' (e := 3) (base := w.heap.size) (ok := fun k_ => ((((some k_ ≠ (.slice Ao80 t721.length co80 : Value).ownBlock ∧ some k_ ≠ (.slice Ao14 t677.length co14 : Value).ownBlock) ∧ some k_ ≠ (.slice Ao15 t681.length co15 : Value).ownBlock) ∧ some k_ ≠ (.slice Ao22 t691.length co22 : Value).ownBlock) ∧ some k_ ≠ (.slice Ao23 t695.length co23 : Value).ownBlock)) (n := t717.length) (c := co79) ?_).2.2; exact (Rz (Kd.R_mono (Kd.R_far (p := ⟨gb726, 4, none⟩) (Kd.R_far (p := ⟨gb726, 3, none⟩) (Kd.R_far (p := ⟨gb726, 2, none⟩) (Kd.R_far (p := ⟨gb726, 1, none⟩) (Kd.R_far (p := ⟨gb726, 0, none⟩) (Kd.R_types HO719.out BK726.out (by decide)) (fun _ hk => hk.2) (.int .i64 t716)) (fun _ hk => hk.2) (.slice Ao79 t717.length co79)) (fun _ hk => hk.2) (.int .i64 t720)) (fun _ hk => hk.2) (.slice Ao80 t721.length co80)) (fun _ hk => hk.2) (.string t724)) (fun _ h_ => h_.1)))); (case side2 => exact (Kd.R_reads' HO719.out).2.1); (case side3 => refine (Kd.R_reads' (e := 3) (base := w.heap.size) (ok := fun k_ => ((((some k_ ≠ (.slice Ao79 t717.length co79 : Value).ownBlock ∧ some k_ ≠ (.slice Ao14 t677.length co14 : Value).ownBlock) ∧ some k_ ≠ (.slice Ao15 t681.length co15 : Value).ownBlock) ∧ some k_ ≠ (.slice Ao22 t691.length co22 : Value).ownBlock) ∧ some k_ ≠ (.slice Ao23 t695.length co23 : Value).ownBlock)) (n := t721.length) (c := co80) ?_).2.2; exact (Rz (Kd.R_mono (Kd.R_far (p := ⟨gb726, 4, none⟩) (Kd.R_far (p := ⟨gb726, 3, none⟩) (Kd.R_far (p := ⟨gb726, 2, none⟩) (Kd.R_far (p := ⟨gb726, 1, none⟩) (Kd.R_far (p := ⟨gb726, 0, none⟩) (Kd.R_types HO723.out BK726.out (by decide)) (fun _ hk => hk.2) (.int .i64 t716)) (fun _ hk => hk.2) (.slice Ao79 t717.length co79)) (fun _ hk => hk.2) (.int .i64 t720)) (fun _ hk => hk.2) (.slice Ao80 t721.length co80)) (fun _ hk => hk.2) (.string t724)) (fun _ h_ => h_.1)))); (case side4 => exact (Kd.R_reads' HO723.out).2.1); (case side5 => refine (Kd.R_reads' (e := 3) (base := w.heap.size) (ok := fun k_ => (((some k_ ≠ (.slice Ao15 t681.length co15 : Value).ownBlock ∧ (some k_ ≠ (.slice Ao22 t691.length co22 : Value).ownBlock ∧ some k_ ≠ (.slice Ao23 t695.length co23 : Value).ownBlock)) ∧ some k_ ≠ (.slice Ao79 t717.length co79 : Value).ownBlock) ∧ some k_ ≠ (.slice Ao80 t721.length co80 : Value).ownBlock)) (n := t677.length) (c := co14) ?_).2.2; exact (Rz (Kd.R_mono (Kd.R_far (p := ⟨gb726, 4, none⟩) (Kd.R_far (p := ⟨gb726, 3, none⟩) (Kd.R_far (p := ⟨gb726, 2, none⟩) (Kd.R_far (p := ⟨gb726, 1, none⟩) (Kd.R_far (p := ⟨gb726, 0, none⟩) (Kd.R_types HO_687001.out BK726.out (by decide)) (fun _ hk => hk.2) (.int .i64 t716)) (fun _ hk => hk.2) (.slice Ao79 t717.length co79)) (fun _ hk => hk.2) (.int .i64 t720)) (fun _ hk => hk.2) (.slice Ao80 t721.length co80)) (fun _ hk => hk.2) (.string t724)) (fun _ h_ => h_.1)))); (case side6 => exact (Kd.R_reads' HO_687001.out).2.1); (case side7 => refine (Kd.R_reads' (e := 3) (base := w.heap.size) (ok := fun k_ => (((some k_ ≠ (.slice Ao14 t677.length co14 : Value).ownBlock ∧ (some k_ ≠ (.slice Ao22 t691.length co22 : Value).ownBlock ∧ some k_ ≠ (.slice Ao23 t695.length co23 : Value).ownBlock)) ∧ some k_ ≠ (.slice Ao79 t717.length co79 : Value).ownBlock) ∧ some k_ ≠ (.slice Ao80 t721.length co80 : Value).ownBlock)) (n := t681.length) (c := co15) ?_).2.2; exact (Rz (Kd.R_mono (Kd.R_far (p := ⟨gb726, 4, none⟩) (Kd.R_far (p := ⟨gb726, 3, none⟩) (Kd.R_far (p := ⟨gb726, 2, none⟩) (Kd.R_far (p := ⟨gb726, 1, none⟩) (Kd.R_far (p := ⟨gb726, 0, none⟩) (Kd.R_types HO_687003.out BK726.out (by decide)) (fun _ hk => hk.2) (.int .i64 t716)) (fun _ hk => hk.2) (.slice Ao79 t717.length co79)) (fun _ hk => hk.2) (.int .i64 t720)) (fun _ hk => hk.2) (.slice Ao80 t721.length co80)) (fun _ hk => hk.2) (.string t724)) (fun _ h_ => h_.1)))); (case side8 => exact (Kd.R_reads' HO_687003.out).2.1); rintro e w88 ⟨rfl, hb⟩; refine ⟨_, rfl, ?_⟩; have n0_ := Aside0.mk (Kd.R_below (Rz (Kd.R_mono (Kd.R_far (p := ⟨gb726, 4, none⟩) (Kd.R_far (p := ⟨gb726, 3, none⟩) (Kd.R_far (p := ⟨gb726, 2, none⟩) (Kd.R_far (p := ⟨gb726, 1, none⟩) (Kd.R_far (p := ⟨gb726, 0, none⟩) (Kd.R_types HO_687001.out BK726.out (by decide)) (fun _ hk => hk.2) (.int .i64 t716)) (fun _ hk => hk.2) (.slice Ao79 t717.length co79)) (fun _ hk => hk.2) (.int .i64 t720)) (fun _ hk => hk.2) (.slice Ao80 t721.length co80)) (fun _ hk => hk.2) (.string t724)) (fun _ h_ => h_.1))) hb); have n1_ := Aside0.mk (Kd.R_below (Rz (Kd.R_mono (Kd.R_far (p := ⟨gb726, 4, none⟩) (Kd.R_far (p := ⟨gb726, 3, none⟩) (Kd.R_far (p := ⟨gb726, 2, none⟩) (Kd.R_far (p := ⟨gb726, 1, none⟩) (Kd.R_far (p := ⟨gb726, 0, none⟩) (Kd.R_types HO_687003.out BK726.out (by decide)) (fun _ hk => hk.2) (.int .i64 t716)) (fun _ hk => hk.2) (.slice Ao79 t717.length co79)) (fun _ hk => hk.2) (.int .i64 t720)) (fun _ hk => hk.2) (.slice Ao80 t721.length co80)) (fun _ hk => hk.2) (.string t724)) (fun _ h_ => h_.1))) hb); have n2_ := Aside0.mk (Kd.R_below (Rz (Kd.R_mono (Kd.R_far (p := ⟨gb726, 4, none⟩) (Kd.R_far (p := ⟨gb726, 3, none⟩) (Kd.R_far (p := ⟨gb726, 2, none⟩) (Kd.R_far (p := ⟨gb726, 1, none⟩) (Kd.R_far (p := ⟨gb726, 0, none⟩) (Kd.R_types HO_701001.out BK726.out (by decide)) (fun _ hk => hk.2) (.int .i64 t716)) (fun _ hk => hk.2) (.slice Ao79 t717.length co79)) (fun _ hk => hk.2) (.int .i64 t720)) (fun _ hk => hk.2) (.slice Ao80 t721.length co80)) (fun _ hk => hk.2) (.string t724)) (fun _ h_ => h_.1))) hb); have n3_ := Aside0.mk (Kd.R_below (Rz (Kd.R_mono (Kd.R_far (p := ⟨gb726, 4, none⟩) (Kd.R_far (p := ⟨gb726, 3, none⟩) (Kd.R_far (p := ⟨gb726, 2, none⟩) (Kd.R_far (p := ⟨gb726, 1, none⟩) (Kd.R_far (p := ⟨gb726, 0, none⟩) (Kd.R_types HO_701003.out BK726.out (by decide)) (fun _ hk => hk.2) (.int .i64 t716)) (fun _ hk => hk.2) (.slice Ao79 t717.length co79)) (fun _ hk => hk.2) (.int .i64 t720)) (fun _ hk => hk.2) (.slice Ao80 t721.length co80)) (fun _ hk => hk.2) (.string t724)) (fun _ h_ => h_.1))) hb); have n4_ := Aside0.mk (Kd.R_below (Rz (Kd.R_mono (Kd.R_far (p := ⟨gb726, 4, none⟩) (Kd.R_far (p := ⟨gb726, 3, none⟩) (Kd.R_far (p := ⟨gb726, 2, none⟩) (Kd.R_far (p := ⟨gb726, 1, none⟩) (Kd.R_far (p := ⟨gb726, 0, none⟩) (Kd.R_types HO715.out BK726.out (by decide)) (fun _ hk => hk.2) (.int .i64 t716)) (fun _ hk => hk.2) (.slice Ao79 t717.length co79)) (fun _ hk => hk.2) (.int .i64 t720)) (fun _ hk => hk.2) (.slice Ao80 t721.length co80)) (fun _ hk => hk.2) (.string t724)) (fun _ h_ => h_.1))) hb); have n5_ := Aside0.mk (Kd.R_below (Rz (Kd.R_mono (Kd.R_far (p := ⟨gb726, 4, none⟩) (Kd.R_far (p := ⟨gb726, 3, none⟩) (Kd.R_far (p := ⟨gb726, 2, none⟩) (Kd.R_far (p := ⟨gb726, 1, none⟩) (Kd.R_far (p := ⟨gb726, 0, none⟩) (Kd.R_types HO719.out BK726.out (by decide)) (fun _ hk => hk.2) (.int .i64 t716)) (fun _ hk => hk.2) (.slice Ao79 t717.length co79)) (fun _ hk => hk.2) (.int .i64 t720)) (fun _ hk => hk.2) (.slice Ao80 t721.length co80)) (fun _ hk => hk.2) (.string t724)) (fun _ h_ => h_.1))) hb); have n6_ := Aside0.mk (Kd.R_below (Rz (Kd.R_mono (Kd.R_far (p := ⟨gb726, 4, none⟩) (Kd.R_far (p := ⟨gb726, 3, none⟩) (Kd.R_far (p := ⟨gb726, 2, none⟩) (Kd.R_far (p := ⟨gb726, 1, none⟩) (Kd.R_far (p := ⟨gb726, 0, none⟩) (Kd.R_types HO723.out BK726.out (by decide)) (fun _ hk => hk.2) (.int .i64 t716)) (fun _ hk => hk.2) (.slice Ao79 t717.length co79)) (fun _ hk => hk.2) (.int .i64 t720)) (fun _ hk => hk.2) (.slice Ao80 t721.length co80)) (fun _ hk => hk.2) (.string t724)) (fun _ h_ => h_.1))) hb); have n7_ := Aside0.mk (blk_below (g := gb686) (o := .cells #[.int .i64 t676, .slice Ao14 t677.length co14, .int .i64 t680, .slice Ao15 t681.length co15, .string t684] 32 (0, 0)) (by (with_reducible repeat (first | refine blk_drewN ?_ _ | refine blk_drew ?_ | refine blk_alloc ?_ _)); refine blk_far ?_ NB686_726.out _; (with_reducible repeat (first | refine blk_drewN ?_ _ | refine blk_drew ?_ | refine blk_alloc ?_ _)); refine blk_far ?_ NB686_726.out _; (with_reducible repeat (first | refine blk_drewN ?_ _ | refine blk_drew ?_ | refine blk_alloc ?_ _)); refine blk_far ?_ NB686_726.out _; (with_reducible repeat (first | refine blk_drewN ?_ _ | refine blk_drew ?_ | refine blk_alloc ?_ _)); refine blk_far ?_ NB686_726.out _; (with_reducible repeat (first | refine blk_drewN ?_ _ | refine blk_drew ?_ | refine blk_alloc ?_ _)); refine blk_far ?_ NB686_726.out _; (with_reducible repeat (first | refine blk_drewN ?_ _ | refine blk_drew ?_ | refine blk_alloc ?_ _)); exact BK686.out) hb); have n8_ := Aside0.mk (blk_below (g := gb700) (o := .cells #[.int .i64 t690, .slice Ao22 t691.length co22, .int .i64 t694, .slice Ao23 t695.length co23, .string t698] 32 (0, 0)) (by (with_reducible repeat (first | refine blk_drewN ?_ _ | refine blk_drew ?_ | refine blk_alloc ?_ _)); refine blk_far ?_ NB700_726.out _; (with_reducible repeat (first | refine blk_drewN ?_ _ | refine blk_drew ?_ | refine blk_alloc ?_ _)); refine blk_far ?_ NB700_726.out _; (with_reducible repeat (first | refine blk_drewN ?_ _ | refine blk_drew ?_ | refine blk_alloc ?_ _)); refine blk_far ?_ NB700_726.out _; (with_reducible repeat (first | refine blk_drewN ?_ _ | refine blk_drew ?_ | refine blk_alloc ?_ _)); refine blk_far ?_ NB700_726.out _; (with_reducible repeat (first | refine blk_drewN ?_ _ | refine blk_drew ?_ | refine blk_alloc ?_ _)); refine blk_far ?_ NB700_726.out _; (with_reducible repeat (first | refine blk_drewN ?_ _ | refine blk_drew ?_ | refine blk_alloc ?_ _)); exact BK700.out) hb); have n9_ := Aside0.mk (blk_below (g := gb726) (o := .cells #[.int .i64 t716, .slice Ao79 t717.length co79, .int .i64 t720, .slice Ao80 t721.length co80, .string t724] 32 (0, 0)) (by (with_reducible repeat (first | refine blk_drewN ?_ _ | refine blk_drew ?_ | refine blk_alloc ?_ _)); refine blk_put (cs := #[.int .i64 t716, .slice Ao79 t717.length co79, .int .i64 t720, .slice Ao80 t721.length co80, .string (⟨#[]⟩ : ByteArray)]) ?_ 4 _ rfl; (with_reducible repeat (first | refine blk_drewN ?_ _ | refine blk_drew ?_ | refine blk_alloc ?_ _)); refine blk_put (cs := #[.int .i64 t716, .slice Ao79 t717.length co79, .int .i64 t720, .slice none 0 0, .string (⟨#[]⟩ : ByteArray)]) ?_ 3 _ rfl; (with_reducible repeat (first | refine blk_drewN ?_ _ | refine blk_drew ?_ | refine blk_alloc ?_ _)); refine blk_put (cs := #[.int .i64 t716, .slice Ao79 t717.length co79, .int .i64 0, .slice none 0 0, .string (⟨#[]⟩ : ByteArray)]) ?_ 2 _ rfl; (with_reducible repeat (first | refine blk_drewN ?_ _ | refine blk_drew ?_ | refine blk_alloc ?_ _)); refine blk_put (cs := #[.int .i64 t716, .slice none 0 0, .int .i64 0, .slice none 0 0, .string (⟨#[]⟩ : ByteArray)]) ?_ 1 _ rfl; (with_reducible repeat (first | refine blk_drewN ?_ _ | refine blk_drew ?_ | refine blk_alloc ?_ _)); refine blk_put (cs := #[.int .i64 0, .slice none 0 0, .int .i64 0, .slice none 0 0, .string (⟨#[]⟩ : ByteArray)]) ?_ 0 _ rfl; (with_reducible repeat (first | refine blk_drewN ?_ _ | refine blk_drew ?_ | refine blk_alloc ?_ _)); exact BK726.out) hb); have n10_ := Bc HB hb; clear HO_687001 HO_687003 HO_701001 HO_701003 HO715 HO719 HO723 BK686 BK700 BK726 HB; revert n0_ n1_ n2_ n3_ n4_ n5_ n6_ n7_ n8_ n9_ n10_; intro HO_687001 HO_687003 HO_701001 HO_701003 HO715 HO719 HO723 BK686 BK700 BK726 HB; (try clear hb); (try clear hb2); (try clear hk); (try clear hi)))
             go_meet
             case rel => exact ⟨_, ((t725 != t685)), (by first | rfl | (simp; done) | (simp [*]; done)), H', ⟨by have := HJ7.out; have := HJ38.out; first | omega | exact Nat.le_refl _⟩, ⟨Rz (Kd.R_mono HO_687001.out (fun _ hk => ⟨hk.1.1.1, ⟨hk.1.1.2.1, ⟨hk.1.1.2.2, ⟨hk.1.2, hk.2⟩⟩⟩⟩))⟩, ⟨Rz (Kd.R_mono HO_687003.out (fun _ hk => ⟨hk.1.1.1, ⟨hk.1.1.2.1, ⟨hk.1.1.2.2, ⟨hk.1.2, hk.2⟩⟩⟩⟩))⟩, ⟨Rz (Kd.R_mono HO_701001.out (fun _ hk => ⟨hk.1.1.1, ⟨hk.1.1.2.1, ⟨hk.1.1.2.2, ⟨hk.1.2, hk.2⟩⟩⟩⟩))⟩, ⟨Rz (Kd.R_mono HO_701003.out (fun _ hk => ⟨hk.1.1.1, ⟨hk.1.1.2.1, ⟨hk.1.1.2.2, ⟨hk.1.2, hk.2⟩⟩⟩⟩))⟩, ⟨Rz (Kd.R_mono HO719.out (fun _ hk => ⟨hk.1.1.1.2, ⟨hk.1.1.2, ⟨hk.1.2, ⟨hk.2, hk.1.1.1.1⟩⟩⟩⟩))⟩, ⟨Rz (Kd.R_mono HO723.out (fun _ hk => ⟨hk.1.1.1.2, ⟨hk.1.1.2, ⟨hk.1.2, ⟨hk.2, hk.1.1.1.1⟩⟩⟩⟩))⟩, ⟨Kz BK686.out⟩, ⟨Kz BK700.out⟩, ⟨Kz BK726.out⟩, ⟨Bq⟩⟩
            ·replace c82 := Bool.eq_false_iff.mpr c82
             subst c82
             have H1 : (laws_FnExactBuildTrie.j2 kj38 t709 true t690 t710 t694 t711 t698) = some r := by rw [if_neg (show ¬ (false = true) by decide)] at H; exact H
             clear H; have H := H1; clear H1; have H' := Aside0.mk H; clear H; have hnb89 := NB726_686.out; have hnc89 := NB686_726.out; have hnb90 := NB726_700.out; have hnc90 := NB700_726.out; obtain ⟨hcz91_0, hcz91_1, hcz91_2, hcz91_3, hcz91_4, hfz91_0, hfz91_1, hfz91_2, hfz91_3, hfz91_4⟩ := cf5 (w := w75) BK726; have hnb92 := NB686_700.out; have hnc92 := NB700_686.out; obtain ⟨hcz93_0, hcz93_1, hcz93_2, hcz93_3, hcz93_4, hfz93_0, hfz93_1, hfz93_2, hfz93_3, hfz93_4⟩ := cf5 (w := w75) BK686
             go_wp2_with (first | ((with_reducible refine gate_callee (f := 16) rfl ?_); refine gL (some 81) Try.func16 #[.agg #[.int .i64 t716, .slice Ao79 t717.length co79, .int .i64 t720, .slice Ao80 t721.length co80, .string t724], .agg #[.int .i64 t676, .slice Ao14 t677.length co14, .int .i64 t680, .slice Ao15 t681.length co15, .string t684]] ?_; (with_reducible refine (laws_eqTrie.calls kj38 t716 _ _ t717 t720 _ _ t721 t724 t676 _ _ t677 t680 _ _ t681 t684 false _ ?side1 ?side2 ?side3 ?side4 ?side5 ?side6 ?side7 ?side8 A81.out).mono ?_); (case side1 => refine (Kd.R_reads' (e := 3) (base := w.heap.size) (ok := fun k_ => ((((some k_ ≠ (.slice Ao80 t721.length co80 : Value).ownBlock ∧ some k_ ≠ (.slice Ao14 t677.length co14 : Value).ownBlock) ∧ some k_ ≠ (.slice Ao15 t681.length co15 : Value).ownBlock) ∧ some k_ ≠ (.slice Ao22 t691.length co22 : Value).ownBlock) ∧ some k_ ≠ (.slice Ao23 t695.length co23 : Value).ownBlock)) (n := t717.length) (c := co79) ?_).2.2; exact (Rz (Kd.R_mono (Kd.R_far (p := ⟨gb726, 4, none⟩) (Kd.R_far (p := ⟨gb726, 3, none⟩) (Kd.R_far (p := ⟨gb726, 2, none⟩) (Kd.R_far (p := ⟨gb726, 1, none⟩) (Kd.R_far (p := ⟨gb726, 0, none⟩) (Kd.R_types HO719.out BK726.out (by decide)) (fun _ hk => hk.2) (.int .i64 t716)) (fun _ hk => hk.2) (.slice Ao79 t717.length co79)) (fun _ hk => hk.2) (.int .i64 t720)) (fun _ hk => hk.2) (.slice Ao80 t721.length co80)) (fun _ hk => hk.2) (.string t724)) (fun _ h_ => h_.1)))); (case side2 => exact (Kd.R_reads' HO719.out).2.1); (case side3 => refine (Kd.R_reads' (e := 3) (base := w.heap.size) (ok := fun k_ => ((((some k_ ≠ (.slice Ao79 t717.length co79 : Value).ownBlock ∧ some k_ ≠ (.slice Ao14 t677.length co14 : Value).ownBlock) ∧ some k_ ≠ (.slice Ao15 t681.length co15 : Value).ownBlock) ∧ some k_ ≠ (.slice Ao22 t691.length co22 : Value).ownBlock) ∧ some k_ ≠ (.slice Ao23 t695.length co23 : Value).ownBlock)) (n := t721.length) (c := co80) ?_).2.2; exact (Rz (Kd.R_mono (Kd.R_far (p := ⟨gb726, 4, none⟩) (Kd.R_far (p := ⟨gb726, 3, none⟩) (Kd.R_far (p := ⟨gb726, 2, none⟩) (Kd.R_far (p := ⟨gb726, 1, none⟩) (Kd.R_far (p := ⟨gb726, 0, none⟩) (Kd.R_types HO723.out BK726.out (by decide)) (fun _ hk => hk.2) (.int .i64 t716)) (fun _ hk => hk.2) (.slice Ao79 t717.length co79)) (fun _ hk => hk.2) (.int .i64 t720)) (fun _ hk => hk.2) (.slice Ao80 t721.length co80)) (fun _ hk => hk.2) (.string t724)) (fun _ h_ => h_.1)))); (case side4 => exact (Kd.R_reads' HO723.out).2.1); (case side5 => refine (Kd.R_reads' (e := 3) (base := w.heap.size) (ok := fun k_ => (((some k_ ≠ (.slice Ao15 t681.length co15 : Value).ownBlock ∧ (some k_ ≠ (.slice Ao22 t691.length co22 : Value).ownBlock ∧ some k_ ≠ (.slice Ao23 t695.length co23 : Value).ownBlock)) ∧ some k_ ≠ (.slice Ao79 t717.length co79 : Value).ownBlock) ∧ some k_ ≠ (.slice Ao80 t721.length co80 : Value).ownBlock)) (n := t677.length) (c := co14) ?_).2.2; exact (Rz (Kd.R_mono (Kd.R_far (p := ⟨gb726, 4, none⟩) (Kd.R_far (p := ⟨gb726, 3, none⟩) (Kd.R_far (p := ⟨gb726, 2, none⟩) (Kd.R_far (p := ⟨gb726, 1, none⟩) (Kd.R_far (p := ⟨gb726, 0, none⟩) (Kd.R_types HO_687001.out BK726.out (by decide)) (fun _ hk => hk.2) (.int .i64 t716)) (fun _ hk => hk.2) (.slice Ao79 t717.length co79)) (fun _ hk => hk.2) (.int .i64 t720)) (fun _ hk => hk.2) (.slice Ao80 t721.length co80)) (fun _ hk => hk.2) (.string t724)) (fun _ h_ => h_.1)))); (case side6 => exact (Kd.R_reads' HO_687001.out).2.1); (case side7 => refine (Kd.R_reads' (e := 3) (base := w.heap.size) (ok := fun k_ => (((some k_ ≠ (.slice Ao14 t677.length co14 : Value).ownBlock ∧ (some k_ ≠ (.slice Ao22 t691.length co22 : Value).ownBlock ∧ some k_ ≠ (.slice Ao23 t695.length co23 : Value).ownBlock)) ∧ some k_ ≠ (.slice Ao79 t717.length co79 : Value).ownBlock) ∧ some k_ ≠ (.slice Ao80 t721.length co80 : Value).ownBlock)) (n := t681.length) (c := co15) ?_).2.2; exact (Rz (Kd.R_mono (Kd.R_far (p := ⟨gb726, 4, none⟩) (Kd.R_far (p := ⟨gb726, 3, none⟩) (Kd.R_far (p := ⟨gb726, 2, none⟩) (Kd.R_far (p := ⟨gb726, 1, none⟩) (Kd.R_far (p := ⟨gb726, 0, none⟩) (Kd.R_types HO_687003.out BK726.out (by decide)) (fun _ hk => hk.2) (.int .i64 t716)) (fun _ hk => hk.2) (.slice Ao79 t717.length co79)) (fun _ hk => hk.2) (.int .i64 t720)) (fun _ hk => hk.2) (.slice Ao80 t721.length co80)) (fun _ hk => hk.2) (.string t724)) (fun _ h_ => h_.1)))); (case side8 => exact (Kd.R_reads' HO_687003.out).2.1); rintro e w94 ⟨rfl, hb⟩; refine ⟨_, rfl, ?_⟩; have n0_ := Aside0.mk (Kd.R_below (Rz (Kd.R_mono (Kd.R_far (p := ⟨gb726, 4, none⟩) (Kd.R_far (p := ⟨gb726, 3, none⟩) (Kd.R_far (p := ⟨gb726, 2, none⟩) (Kd.R_far (p := ⟨gb726, 1, none⟩) (Kd.R_far (p := ⟨gb726, 0, none⟩) (Kd.R_types HO_687001.out BK726.out (by decide)) (fun _ hk => hk.2) (.int .i64 t716)) (fun _ hk => hk.2) (.slice Ao79 t717.length co79)) (fun _ hk => hk.2) (.int .i64 t720)) (fun _ hk => hk.2) (.slice Ao80 t721.length co80)) (fun _ hk => hk.2) (.string t724)) (fun _ h_ => h_.1))) hb); have n1_ := Aside0.mk (Kd.R_below (Rz (Kd.R_mono (Kd.R_far (p := ⟨gb726, 4, none⟩) (Kd.R_far (p := ⟨gb726, 3, none⟩) (Kd.R_far (p := ⟨gb726, 2, none⟩) (Kd.R_far (p := ⟨gb726, 1, none⟩) (Kd.R_far (p := ⟨gb726, 0, none⟩) (Kd.R_types HO_687003.out BK726.out (by decide)) (fun _ hk => hk.2) (.int .i64 t716)) (fun _ hk => hk.2) (.slice Ao79 t717.length co79)) (fun _ hk => hk.2) (.int .i64 t720)) (fun _ hk => hk.2) (.slice Ao80 t721.length co80)) (fun _ hk => hk.2) (.string t724)) (fun _ h_ => h_.1))) hb); have n2_ := Aside0.mk (Kd.R_below (Rz (Kd.R_mono (Kd.R_far (p := ⟨gb726, 4, none⟩) (Kd.R_far (p := ⟨gb726, 3, none⟩) (Kd.R_far (p := ⟨gb726, 2, none⟩) (Kd.R_far (p := ⟨gb726, 1, none⟩) (Kd.R_far (p := ⟨gb726, 0, none⟩) (Kd.R_types HO_701001.out BK726.out (by decide)) (fun _ hk => hk.2) (.int .i64 t716)) (fun _ hk => hk.2) (.slice Ao79 t717.length co79)) (fun _ hk => hk.2) (.int .i64 t720)) (fun _ hk => hk.2) (.slice Ao80 t721.length co80)) (fun _ hk => hk.2) (.string t724)) (fun _ h_ => h_.1))) hb); have n3_ := Aside0.mk (Kd.R_below (Rz (Kd.R_mono (Kd.R_far (p := ⟨gb726, 4, none⟩) (Kd.R_far (p := ⟨gb726, 3, none⟩) (Kd.R_far (p := ⟨gb726, 2, none⟩) (Kd.R_far (p := ⟨gb726, 1, none⟩) (Kd.R_far (p := ⟨gb726, 0, none⟩) (Kd.R_types HO_701003.out BK726.out (by decide)) (fun _ hk => hk.2) (.int .i64 t716)) (fun _ hk => hk.2) (.slice Ao79 t717.length co79)) (fun _ hk => hk.2) (.int .i64 t720)) (fun _ hk => hk.2) (.slice Ao80 t721.length co80)) (fun _ hk => hk.2) (.string t724)) (fun _ h_ => h_.1))) hb); have n4_ := Aside0.mk (Kd.R_below (Rz (Kd.R_mono (Kd.R_far (p := ⟨gb726, 4, none⟩) (Kd.R_far (p := ⟨gb726, 3, none⟩) (Kd.R_far (p := ⟨gb726, 2, none⟩) (Kd.R_far (p := ⟨gb726, 1, none⟩) (Kd.R_far (p := ⟨gb726, 0, none⟩) (Kd.R_types HO715.out BK726.out (by decide)) (fun _ hk => hk.2) (.int .i64 t716)) (fun _ hk => hk.2) (.slice Ao79 t717.length co79)) (fun _ hk => hk.2) (.int .i64 t720)) (fun _ hk => hk.2) (.slice Ao80 t721.length co80)) (fun _ hk => hk.2) (.string t724)) (fun _ h_ => h_.1))) hb); have n5_ := Aside0.mk (Kd.R_below (Rz (Kd.R_mono (Kd.R_far (p := ⟨gb726, 4, none⟩) (Kd.R_far (p := ⟨gb726, 3, none⟩) (Kd.R_far (p := ⟨gb726, 2, none⟩) (Kd.R_far (p := ⟨gb726, 1, none⟩) (Kd.R_far (p := ⟨gb726, 0, none⟩) (Kd.R_types HO719.out BK726.out (by decide)) (fun _ hk => hk.2) (.int .i64 t716)) (fun _ hk => hk.2) (.slice Ao79 t717.length co79)) (fun _ hk => hk.2) (.int .i64 t720)) (fun _ hk => hk.2) (.slice Ao80 t721.length co80)) (fun _ hk => hk.2) (.string t724)) (fun _ h_ => h_.1))) hb); have n6_ := Aside0.mk (Kd.R_below (Rz (Kd.R_mono (Kd.R_far (p := ⟨gb726, 4, none⟩) (Kd.R_far (p := ⟨gb726, 3, none⟩) (Kd.R_far (p := ⟨gb726, 2, none⟩) (Kd.R_far (p := ⟨gb726, 1, none⟩) (Kd.R_far (p := ⟨gb726, 0, none⟩) (Kd.R_types HO723.out BK726.out (by decide)) (fun _ hk => hk.2) (.int .i64 t716)) (fun _ hk => hk.2) (.slice Ao79 t717.length co79)) (fun _ hk => hk.2) (.int .i64 t720)) (fun _ hk => hk.2) (.slice Ao80 t721.length co80)) (fun _ hk => hk.2) (.string t724)) (fun _ h_ => h_.1))) hb); have n7_ := Aside0.mk (blk_below (g := gb686) (o := .cells #[.int .i64 t676, .slice Ao14 t677.length co14, .int .i64 t680, .slice Ao15 t681.length co15, .string t684] 32 (0, 0)) (by (with_reducible repeat (first | refine blk_drewN ?_ _ | refine blk_drew ?_ | refine blk_alloc ?_ _)); refine blk_far ?_ NB686_726.out _; (with_reducible repeat (first | refine blk_drewN ?_ _ | refine blk_drew ?_ | refine blk_alloc ?_ _)); refine blk_far ?_ NB686_726.out _; (with_reducible repeat (first | refine blk_drewN ?_ _ | refine blk_drew ?_ | refine blk_alloc ?_ _)); refine blk_far ?_ NB686_726.out _; (with_reducible repeat (first | refine blk_drewN ?_ _ | refine blk_drew ?_ | refine blk_alloc ?_ _)); refine blk_far ?_ NB686_726.out _; (with_reducible repeat (first | refine blk_drewN ?_ _ | refine blk_drew ?_ | refine blk_alloc ?_ _)); refine blk_far ?_ NB686_726.out _; (with_reducible repeat (first | refine blk_drewN ?_ _ | refine blk_drew ?_ | refine blk_alloc ?_ _)); exact BK686.out) hb); have n8_ := Aside0.mk (blk_below (g := gb700) (o := .cells #[.int .i64 t690, .slice Ao22 t691.length co22, .int .i64 t694, .slice Ao23 t695.length co23, .string t698] 32 (0, 0)) (by (with_reducible repeat (first | refine blk_drewN ?_ _ | refine blk_drew ?_ | refine blk_alloc ?_ _)); refine blk_far ?_ NB700_726.out _; (with_reducible repeat (first | refine blk_drewN ?_ _ | refine blk_drew ?_ | refine blk_alloc ?_ _)); refine blk_far ?_ NB700_726.out _; (with_reducible repeat (first | refine blk_drewN ?_ _ | refine blk_drew ?_ | refine blk_alloc ?_ _)); refine blk_far ?_ NB700_726.out _; (with_reducible repeat (first | refine blk_drewN ?_ _ | refine blk_drew ?_ | refine blk_alloc ?_ _)); refine blk_far ?_ NB700_726.out _; (with_reducible repeat (first | refine blk_drewN ?_ _ | refine blk_drew ?_ | refine blk_alloc ?_ _)); refine blk_far ?_ NB700_726.out _; (with_reducible repeat (first | refine blk_drewN ?_ _ | refine blk_drew ?_ | refine blk_alloc ?_ _)); exact BK700.out) hb); have n9_ := Aside0.mk (blk_below (g := gb726) (o := .cells #[.int .i64 t716, .slice Ao79 t717.length co79, .int .i64 t720, .slice Ao80 t721.length co80, .string t724] 32 (0, 0)) (by (with_reducible repeat (first | refine blk_drewN ?_ _ | refine blk_drew ?_ | refine blk_alloc ?_ _)); refine blk_put (cs := #[.int .i64 t716, .slice Ao79 t717.length co79, .int .i64 t720, .slice Ao80 t721.length co80, .string (⟨#[]⟩ : ByteArray)]) ?_ 4 _ rfl; (with_reducible repeat (first | refine blk_drewN ?_ _ | refine blk_drew ?_ | refine blk_alloc ?_ _)); refine blk_put (cs := #[.int .i64 t716, .slice Ao79 t717.length co79, .int .i64 t720, .slice none 0 0, .string (⟨#[]⟩ : ByteArray)]) ?_ 3 _ rfl; (with_reducible repeat (first | refine blk_drewN ?_ _ | refine blk_drew ?_ | refine blk_alloc ?_ _)); refine blk_put (cs := #[.int .i64 t716, .slice Ao79 t717.length co79, .int .i64 0, .slice none 0 0, .string (⟨#[]⟩ : ByteArray)]) ?_ 2 _ rfl; (with_reducible repeat (first | refine blk_drewN ?_ _ | refine blk_drew ?_ | refine blk_alloc ?_ _)); refine blk_put (cs := #[.int .i64 t716, .slice none 0 0, .int .i64 0, .slice none 0 0, .string (⟨#[]⟩ : ByteArray)]) ?_ 1 _ rfl; (with_reducible repeat (first | refine blk_drewN ?_ _ | refine blk_drew ?_ | refine blk_alloc ?_ _)); refine blk_put (cs := #[.int .i64 0, .slice none 0 0, .int .i64 0, .slice none 0 0, .string (⟨#[]⟩ : ByteArray)]) ?_ 0 _ rfl; (with_reducible repeat (first | refine blk_drewN ?_ _ | refine blk_drew ?_ | refine blk_alloc ?_ _)); exact BK726.out) hb); have n10_ := Bc HB hb; clear HO_687001 HO_687003 HO_701001 HO_701003 HO715 HO719 HO723 BK686 BK700 BK726 HB; revert n0_ n1_ n2_ n3_ n4_ n5_ n6_ n7_ n8_ n9_ n10_; intro HO_687001 HO_687003 HO_701001 HO_701003 HO715 HO719 HO723 BK686 BK700 BK726 HB; (try clear hb); (try clear hb2); (try clear hk); (try clear hi)))
             go_meet
             case rel => exact ⟨_, (true), (by first | rfl | (simp; done) | (simp [*]; done)), H', ⟨by have := HJ7.out; have := HJ38.out; first | omega | exact Nat.le_refl _⟩, ⟨Rz (Kd.R_mono HO_687001.out (fun _ hk => ⟨hk.1.1.1, ⟨hk.1.1.2.1, ⟨hk.1.1.2.2, ⟨hk.1.2, hk.2⟩⟩⟩⟩))⟩, ⟨Rz (Kd.R_mono HO_687003.out (fun _ hk => ⟨hk.1.1.1, ⟨hk.1.1.2.1, ⟨hk.1.1.2.2, ⟨hk.1.2, hk.2⟩⟩⟩⟩))⟩, ⟨Rz (Kd.R_mono HO_701001.out (fun _ hk => ⟨hk.1.1.1, ⟨hk.1.1.2.1, ⟨hk.1.1.2.2, ⟨hk.1.2, hk.2⟩⟩⟩⟩))⟩, ⟨Rz (Kd.R_mono HO_701003.out (fun _ hk => ⟨hk.1.1.1, ⟨hk.1.1.2.1, ⟨hk.1.1.2.2, ⟨hk.1.2, hk.2⟩⟩⟩⟩))⟩, ⟨Rz (Kd.R_mono HO719.out (fun _ hk => ⟨hk.1.1.1.2, ⟨hk.1.1.2, ⟨hk.1.2, ⟨hk.2, hk.1.1.1.1⟩⟩⟩⟩))⟩, ⟨Rz (Kd.R_mono HO723.out (fun _ hk => ⟨hk.1.1.1.2, ⟨hk.1.1.2, ⟨hk.1.2, ⟨hk.2, hk.1.1.1.1⟩⟩⟩⟩))⟩, ⟨Kz BK686.out⟩, ⟨Kz BK700.out⟩, ⟨Kz BK726.out⟩, ⟨Bq⟩⟩
           case rest =>
            clear HC66
            try clear c1
            try clear c2
            try clear p2
            try clear c3
            try clear c3b0
            try clear c4
            try clear c5
            try clear c6
            try clear c7
            try clear c8
            try clear c9
            try clear c16
            try clear c20
            try clear c21
            try clear c22
            try clear c23
            try clear c24
            try clear c25
            try clear c26
            try clear c27
            try clear c28
            try clear c30
            try clear c34
            try clear c37
            try clear c43
            try clear c43b0
            try clear c45
            try clear c46
            try clear c50
            try clear c54
            try clear c57
            try clear c57b0
            try clear c58
            try clear c63
            try clear c63b0
            try clear c63b1
            try clear c67
            try clear c76
            try clear c77
            try clear c82
            try clear c83
            try clear c84
            try clear c86
            try clear c89
            try clear c90
            try clear c92
            try clear hcz13_0
            try clear hcz13_1
            try clear hcz13_2
            try clear hcz13_3
            try clear hcz13_4
            try clear hcz21_0
            try clear hcz21_1
            try clear hcz21_2
            try clear hcz21_3
            try clear hcz21_4
            try clear hcz27_0
            try clear hcz27_1
            try clear hcz27_2
            try clear hcz27_3
            try clear hcz27_4
            try clear hcz28_0
            try clear hcz28_1
            try clear hcz28_2
            try clear hcz28_3
            try clear hcz28_4
            try clear hcz31_0
            try clear hcz31_1
            try clear hcz31_2
            try clear hcz31_3
            try clear hcz31_4
            try clear hcz32_0
            try clear hcz32_1
            try clear hcz32_2
            try clear hcz32_3
            try clear hcz32_4
            try clear hcz47_0
            try clear hcz47_1
            try clear hcz47_2
            try clear hcz47_3
            try clear hcz47_4
            try clear hcz48_0
            try clear hcz48_1
            try clear hcz48_2
            try clear hcz48_3
            try clear hcz48_4
            try clear hcz51_0
            try clear hcz51_1
            try clear hcz51_2
            try clear hcz51_3
            try clear hcz51_4
            try clear hcz52_0
            try clear hcz52_1
            try clear hcz52_2
            try clear hcz52_3
            try clear hcz52_4
            try clear hcz59_0
            try clear hcz59_1
            try clear hcz59_2
            try clear hcz59_3
            try clear hcz59_4
            try clear hcz61_0
            try clear hcz61_1
            try clear hcz61_2
            try clear hcz61_3
            try clear hcz61_4
            try clear hcz68_0
            try clear hcz68_1
            try clear hcz68_2
            try clear hcz68_3
            try clear hcz68_4
            try clear hcz70_0
            try clear hcz70_1
            try clear hcz70_2
            try clear hcz70_3
            try clear hcz70_4
            try clear hcz78_0
            try clear hcz78_1
            try clear hcz78_2
            try clear hcz78_3
            try clear hcz78_4
            try clear hcz85_0
            try clear hcz85_1
            try clear hcz85_2
            try clear hcz85_3
            try clear hcz85_4
            try clear hcz87_0
            try clear hcz87_1
            try clear hcz87_2
            try clear hcz87_3
            try clear hcz87_4
            try clear hcz91_0
            try clear hcz91_1
            try clear hcz91_2
            try clear hcz91_3
            try clear hcz91_4
            try clear hcz93_0
            try clear hcz93_1
            try clear hcz93_2
            try clear hcz93_3
            try clear hcz93_4
            try clear hfz13_0
            try clear hfz13_1
            try clear hfz13_2
            try clear hfz13_3
            try clear hfz13_4
            try clear hfz21_0
            try clear hfz21_1
            try clear hfz21_2
            try clear hfz21_3
            try clear hfz21_4
            try clear hfz27_0
            try clear hfz27_1
            try clear hfz27_2
            try clear hfz27_3
            try clear hfz27_4
            try clear hfz28_0
            try clear hfz28_1
            try clear hfz28_2
            try clear hfz28_3
            try clear hfz28_4
            try clear hfz31_0
            try clear hfz31_1
            try clear hfz31_2
            try clear hfz31_3
            try clear hfz31_4
            try clear hfz32_0
            try clear hfz32_1
            try clear hfz32_2
            try clear hfz32_3
            try clear hfz32_4
            try clear hfz47_0
            try clear hfz47_1
            try clear hfz47_2
            try clear hfz47_3
            try clear hfz47_4
            try clear hfz48_0
            try clear hfz48_1
            try clear hfz48_2
            try clear hfz48_3
            try clear hfz48_4
            try clear hfz51_0
            try clear hfz51_1
            try clear hfz51_2
            try clear hfz51_3
            try clear hfz51_4
            try clear hfz52_0
            try clear hfz52_1
            try clear hfz52_2
            try clear hfz52_3
            try clear hfz52_4
            try clear hfz59_0
            try clear hfz59_1
            try clear hfz59_2
            try clear hfz59_3
            try clear hfz59_4
            try clear hfz61_0
            try clear hfz61_1
            try clear hfz61_2
            try clear hfz61_3
            try clear hfz61_4
            try clear hfz68_0
            try clear hfz68_1
            try clear hfz68_2
            try clear hfz68_3
            try clear hfz68_4
            try clear hfz70_0
            try clear hfz70_1
            try clear hfz70_2
            try clear hfz70_3
            try clear hfz70_4
            try clear hfz78_0
            try clear hfz78_1
            try clear hfz78_2
            try clear hfz78_3
            try clear hfz78_4
            try clear hfz85_0
            try clear hfz85_1
            try clear hfz85_2
            try clear hfz85_3
            try clear hfz85_4
            try clear hfz87_0
            try clear hfz87_1
            try clear hfz87_2
            try clear hfz87_3
            try clear hfz87_4
            try clear hfz91_0
            try clear hfz91_1
            try clear hfz91_2
            try clear hfz91_3
            try clear hfz91_4
            try clear hfz93_0
            try clear hfz93_1
            try clear hfz93_2
            try clear hfz93_3
            try clear hfz93_4
            try clear p2
            obtain ⟨kq, x87_65, rfl, HA, HJ65, HO_687001, HO_687003, HO_701001, HO_701003, HO_727001, HO_727003, BK686, BK700, BK726, HB⟩ := hcut; have hl701001_65 := (Kd.R_reads' HO_701001.out).1; rw [hl701001_65] at HO_701001
            (try simp only [hl701001_65])
            (try simp only [hl701001_65] at BK686)
            (try simp only [hl701001_65] at BK700)
            (try simp only [hl701001_65] at BK726)
            (try simp only [hl701001_65] at HO_687001)
            (try simp only [hl701001_65] at HO_687003)
            (try simp only [hl701001_65] at HO_701003)
            (try simp only [hl701001_65] at HO_727001)
            (try simp only [hl701001_65] at HO_727003)
            have hl701003_65 := (Kd.R_reads' HO_701003.out).1; rw [hl701003_65] at HO_701003
            (try simp only [hl701003_65])
            (try simp only [hl701003_65] at BK686)
            (try simp only [hl701003_65] at BK700)
            (try simp only [hl701003_65] at BK726)
            (try simp only [hl701003_65] at HO_687001)
            (try simp only [hl701003_65] at HO_687003)
            (try simp only [hl701003_65] at HO_701001)
            (try simp only [hl701003_65] at HO_727001)
            (try simp only [hl701003_65] at HO_727003)
            cases kq with
            | zero => exact absurd HA.out (by simp [laws_FnExactBuildTrie.j2])
            | succ kj65 =>
             have H := HA.out; clear HA
             simp only [laws_FnExactBuildTrie.j2] at H
             by_cases c95 : x87_65 = true
             ·subst c95
              have H1 : (some false) = some r := by rw [if_pos rfl] at H; exact H
              clear H; have H := H1; clear H1; obtain rfl := Option.some.inj H
              go_wp2
              go_ret
              exact ⟨by first | rfl | (simp [errW_none, errW_some] <;> rfl) | (simp [*, errW_none, errW_some] <;> rfl), Bq⟩
             ·replace c95 := Bool.eq_false_iff.mpr c95
              subst c95
              have H1 : ((laws_heldTrie.f kj65 t690 t710 t694 t711 t698 1).bind fun t728 => (if t728 < 0 then (some false) else (if t728 = t709 then (some true) else (some false)))) = some r := by rw [if_neg (show ¬ (false = true) by decide)] at H; exact H
              clear H; have H := H1; clear H1; replace H := Option.bind_eq_some_iff.mp H; obtain ⟨t728, A960, H⟩ := H; replace H : (if t728 < 0 then (some false) else (if t728 = t709 then (some true) else (some false))) = some r := H; have A96 := Aside0.mk A960; clear A960
              by_cases c97 : t728 < 0
              ·rw [if_pos c97] at H
               have c97b0 : decide (t728 < 0) = true := decide_eq_true c97; clear c97; obtain rfl := Option.some.inj H; have hnb98 := NB700_686.out; have hnc98 := NB686_700.out; have hnb99 := NB700_726.out; have hnc99 := NB726_700.out; obtain ⟨hcz100_0, hcz100_1, hcz100_2, hcz100_3, hcz100_4, hfz100_0, hfz100_1, hfz100_2, hfz100_3, hfz100_4⟩ := cf5 (w := wc) BK700
               go_wp2_with (first | ((with_reducible refine gate_callee (f := 28) rfl ?_); refine gL (some 90) Try.func28 #[.agg #[.int .i64 t690, .slice Ao22 t710.length co22, .int .i64 t694, .slice Ao23 t711.length co23, .string t698], .int .i64 1] ?_; (with_reducible refine (laws_heldTrie.calls kj65 t690 _ _ t710 t694 _ _ t711 t698 1 t728 _ ?side1 ?side2 ?side3 ?side4 A96.out).mono ?_); (case side1 => exact Cz ((Kd.R_reads' HO_701001.out).2.2)); (case side2 => exact (Kd.R_reads' HO_701001.out).2.1); (case side3 => exact Cz ((Kd.R_reads' HO_701003.out).2.2)); (case side4 => exact (Kd.R_reads' HO_701003.out).2.1); rintro e w101 ⟨rfl, hb⟩; refine ⟨_, rfl, ?_⟩; have n0_ := Rb HO_687001 hb; have n1_ := Rb HO_687003 hb; have n2_ := Rb HO_701001 hb; have n3_ := Rb HO_701003 hb; have n4_ := Rb HO_727001 hb; have n5_ := Rb HO_727003 hb; have n6_ := Kb BK686 hb; have n7_ := Kb BK700 hb; have n8_ := Kb BK726 hb; have n9_ := Bc HB hb; clear HO_687001 HO_687003 HO_701001 HO_701003 HO_727001 HO_727003 BK686 BK700 BK726 HB; revert n0_ n1_ n2_ n3_ n4_ n5_ n6_ n7_ n8_ n9_; intro HO_687001 HO_687003 HO_701001 HO_701003 HO_727001 HO_727003 BK686 BK700 BK726 HB; (try clear hb); (try clear hb2); (try clear hk); (try clear hi)))
               go_ret
               exact ⟨by first | rfl | (simp [errW_none, errW_some] <;> rfl) | (simp [*, errW_none, errW_some] <;> rfl), Bq⟩
              ·rw [if_neg c97] at H
               have c97b0 : decide (t728 < 0) = false := decide_eq_false c97; clear c97
               by_cases c102 : t728 = t709
               ·rw [if_pos c102] at H
                have c102b0 : (t728 == t709) = true := beq_iff_eq.mpr c102; have c102b1 : (t728 != t709) = false := bne_eq_false_iff_eq.mpr c102; clear c102; obtain rfl := Option.some.inj H; have hnb103 := NB700_686.out; have hnc103 := NB686_700.out; have hnb104 := NB700_726.out; have hnc104 := NB726_700.out; obtain ⟨hcz105_0, hcz105_1, hcz105_2, hcz105_3, hcz105_4, hfz105_0, hfz105_1, hfz105_2, hfz105_3, hfz105_4⟩ := cf5 (w := wc) BK700
                go_wp2_with (first | ((with_reducible refine gate_callee (f := 28) rfl ?_); refine gL (some 90) Try.func28 #[.agg #[.int .i64 t690, .slice Ao22 t710.length co22, .int .i64 t694, .slice Ao23 t711.length co23, .string t698], .int .i64 1] ?_; (with_reducible refine (laws_heldTrie.calls kj65 t690 _ _ t710 t694 _ _ t711 t698 1 t728 _ ?side1 ?side2 ?side3 ?side4 A96.out).mono ?_); (case side1 => exact Cz ((Kd.R_reads' HO_701001.out).2.2)); (case side2 => exact (Kd.R_reads' HO_701001.out).2.1); (case side3 => exact Cz ((Kd.R_reads' HO_701003.out).2.2)); (case side4 => exact (Kd.R_reads' HO_701003.out).2.1); rintro e w106 ⟨rfl, hb⟩; refine ⟨_, rfl, ?_⟩; have n0_ := Rb HO_687001 hb; have n1_ := Rb HO_687003 hb; have n2_ := Rb HO_701001 hb; have n3_ := Rb HO_701003 hb; have n4_ := Rb HO_727001 hb; have n5_ := Rb HO_727003 hb; have n6_ := Kb BK686 hb; have n7_ := Kb BK700 hb; have n8_ := Kb BK726 hb; have n9_ := Bc HB hb; clear HO_687001 HO_687003 HO_701001 HO_701003 HO_727001 HO_727003 BK686 BK700 BK726 HB; revert n0_ n1_ n2_ n3_ n4_ n5_ n6_ n7_ n8_ n9_; intro HO_687001 HO_687003 HO_701001 HO_701003 HO_727001 HO_727003 BK686 BK700 BK726 HB; (try clear hb); (try clear hb2); (try clear hk); (try clear hi)))
                go_ret
                exact ⟨by first | rfl | (simp [errW_none, errW_some] <;> rfl) | (simp [*, errW_none, errW_some] <;> rfl), Bq⟩
               ·rw [if_neg c102] at H
                have c102b0 : (t728 == t709) = false := beq_eq_false_iff_ne.mpr c102; have c102b1 : (t728 != t709) = true := bne_iff_ne.mpr c102; obtain rfl := Option.some.inj H; have hnb107 := NB700_686.out; have hnc107 := NB686_700.out; have hnb108 := NB700_726.out; have hnc108 := NB726_700.out; obtain ⟨hcz109_0, hcz109_1, hcz109_2, hcz109_3, hcz109_4, hfz109_0, hfz109_1, hfz109_2, hfz109_3, hfz109_4⟩ := cf5 (w := wc) BK700
                go_wp2_with (first | ((with_reducible refine gate_callee (f := 28) rfl ?_); refine gL (some 90) Try.func28 #[.agg #[.int .i64 t690, .slice Ao22 t710.length co22, .int .i64 t694, .slice Ao23 t711.length co23, .string t698], .int .i64 1] ?_; (with_reducible refine (laws_heldTrie.calls kj65 t690 _ _ t710 t694 _ _ t711 t698 1 t728 _ ?side1 ?side2 ?side3 ?side4 A96.out).mono ?_); (case side1 => exact Cz ((Kd.R_reads' HO_701001.out).2.2)); (case side2 => exact (Kd.R_reads' HO_701001.out).2.1); (case side3 => exact Cz ((Kd.R_reads' HO_701003.out).2.2)); (case side4 => exact (Kd.R_reads' HO_701003.out).2.1); rintro e w110 ⟨rfl, hb⟩; refine ⟨_, rfl, ?_⟩; have n0_ := Rb HO_687001 hb; have n1_ := Rb HO_687003 hb; have n2_ := Rb HO_701001 hb; have n3_ := Rb HO_701003 hb; have n4_ := Rb HO_727001 hb; have n5_ := Rb HO_727003 hb; have n6_ := Kb BK686 hb; have n7_ := Kb BK700 hb; have n8_ := Kb BK726 hb; have n9_ := Bc HB hb; clear HO_687001 HO_687003 HO_701001 HO_701003 HO_727001 HO_727003 BK686 BK700 BK726 HB; revert n0_ n1_ n2_ n3_ n4_ n5_ n6_ n7_ n8_ n9_; intro HO_687001 HO_687003 HO_701001 HO_701003 HO_727001 HO_727003 BK686 BK700 BK726 HB; (try clear hb); (try clear hb2); (try clear hk); (try clear hi)))
                go_ret
                exact ⟨by first | rfl | (simp [errW_none, errW_some] <;> rfl) | (simp [*, errW_none, errW_some] <;> rfl), Bq⟩
          ·rw [if_neg c63] at H
           have c63b0 : (t712 == t709) = false := beq_eq_false_iff_ne.mpr c63; have c63b1 : (t712 != t709) = true := bne_iff_ne.mpr c63; obtain rfl := Option.some.inj H; have hnb111 := NB700_686.out; have hnc111 := NB686_700.out; obtain ⟨hcz112_0, hcz112_1, hcz112_2, hcz112_3, hcz112_4, hfz112_0, hfz112_1, hfz112_2, hfz112_3, hfz112_4⟩ := cf5 (w := wc) BK700
           go_wp2_with (first | ((with_reducible refine gate_callee (f := 27) rfl ?_); refine gL (some 64) Try.func27 #[.agg #[.int .i64 t690, .slice Ao22 t691.length co22, .int .i64 t694, .slice Ao23 t695.length co23, .string t698], .int .i64 1] ?_; (with_reducible refine (laws_markTrie.calls kj38 t690 (fun k_ => some k_ = (.slice Ao22 t691.length co22 : Value).ownBlock) (.slice Ao22 t691.length co22) t691 t694 (fun k_ => some k_ = (.slice Ao23 t695.length co23 : Value).ownBlock) (.slice Ao23 t695.length co23) t695 t698 1 t709 t710 t711 w _ ?side1 ?side2 ?side3 ?side4 ?side5 A55.out).mono ?_); (case side1 => repeat (first | (with_reducible first | exact HB.out | apply below_alloc | apply pw_below_drewN | apply below_drew1 | refine below_set ?_ GE686.out | refine below_set ?_ GE700.out) | exact HB.out)); (case side2 => exact Kd.R_tight rfl HO_701001.out); (case side3 => exact fun k_ e_ => (HO_701001.out.1 k_ e_.symm).2.2); (case side4 => exact Kd.R_tight rfl HO_701003.out); (case side5 => exact fun k_ e_ => (HO_701003.out.1 k_ e_.symm).2.2); rintro e w113 ⟨rfl, hy0, hy1, hb, hkp⟩; refine ⟨_, rfl, ?_⟩; have n0_ := Aside0.mk (Kd.R_mono (ok' := fun k_ => some k_ ≠ (.slice Ao15 t681.length co15 : Value).ownBlock ∧ some k_ ≠ (.slice Ao22 t691.length co22 : Value).ownBlock ∧ some k_ ≠ (.slice Ao23 t695.length co23 : Value).ownBlock) (Kd.R_keptB (HO_687001.out) hkp (fun k_ hk_ hs_ => Or.elim hs_ (fun e_ => (hk_.2.1) e_) (fun e_ => (hk_.2.2) e_))) (fun k_ hk_ => ⟨hk_.1.1, hk_.1.2.1, hk_.1.2.2⟩)); have n1_ := Aside0.mk (Kd.R_mono (ok' := fun k_ => some k_ ≠ (.slice Ao14 t677.length co14 : Value).ownBlock ∧ some k_ ≠ (.slice Ao22 t691.length co22 : Value).ownBlock ∧ some k_ ≠ (.slice Ao23 t695.length co23 : Value).ownBlock) (Kd.R_keptB (HO_687003.out) hkp (fun k_ hk_ hs_ => Or.elim hs_ (fun e_ => (hk_.2.1) e_) (fun e_ => (hk_.2.2) e_))) (fun k_ hk_ => ⟨hk_.1.1, hk_.1.2.1, hk_.1.2.2⟩)); have n2_ := Aside0.mk (Kd.R_reok rfl hy0 (fun k_ e_ => HO_701001.out.1 k_ e_)); have n3_ := Aside0.mk (Kd.R_reok rfl hy1 (fun k_ e_ => HO_701003.out.1 k_ e_)); have n4_ := Aside0.mk (blk_kept (Kz BK686.out) hkp (fun hs_ => Or.elim hs_ (fun e_ => (fun e_ => (Kd.R_ne HO_701001.out BK686.out (by decide)) e_) e_) (fun e_ => (fun e_ => (Kd.R_ne HO_701003.out BK686.out (by decide)) e_) e_))); have n5_ := Aside0.mk (blk_kept (Kz BK700.out) hkp (fun hs_ => Or.elim hs_ (fun e_ => (fun e_ => (Kd.R_ne HO_701001.out BK700.out (by decide)) e_) e_) (fun e_ => (fun e_ => (Kd.R_ne HO_701003.out BK700.out (by decide)) e_) e_))); have n6_ := Aside0.mk (hb); clear HO_687001 HO_687003 HO_701001 HO_701003 BK686 BK700 HB; revert n0_ n1_ n2_ n3_ n4_ n5_ n6_; intro HO_687001 HO_687003 HO_701001 HO_701003 BK686 BK700 HB; (try clear hb); (try clear hkp); (try clear hy0); (try clear hy1); obtain ⟨hcz114_0, hcz114_1, hcz114_2, hcz114_3, hcz114_4, hfz114_0, hfz114_1, hfz114_2, hfz114_3, hfz114_4⟩ := cf5 (w := w113) BK700) | ((with_reducible refine gate_callee (f := 28) rfl ?_); refine goesL_ (some 67) rfl rfl Try.func28 (by kernel_rfl) rfl #[.agg #[.int .i64 t690, .slice Ao22 t710.length co22, .int .i64 t694, .slice Ao23 t711.length co23, .string t698], .int .i64 1] rfl (by (try simp only [List.map_toArray, List.map_cons, List.map_nil]); first | done | (rw [show t710.length = t691.length from (Kd.R_reads' HO_701001.out).1.symm, show t711.length = t695.length from (Kd.R_reads' HO_701003.out).1.symm] <;> rfl) | rfl | (simp only [List.length_drop, List.length_take]; rfl)) ?_; (with_reducible refine (laws_heldTrie.calls kj38 t690 _ _ t710 t694 _ _ t711 t698 1 t712 _ ?side1 ?side2 ?side3 ?side4 A56.out).mono ?_); (case side1 => exact Cz ((Kd.R_reads' HO_701001.out).2.2)); (case side2 => rw [show t710.length = t691.length from (Kd.R_reads' HO_701001.out).1.symm]; exact (Kd.R_reads' HO_701001.out).2.1); (case side3 => exact Cz ((Kd.R_reads' HO_701003.out).2.2)); (case side4 => rw [show t711.length = t695.length from (Kd.R_reads' HO_701003.out).1.symm]; exact (Kd.R_reads' HO_701003.out).2.1); rintro e w115 ⟨rfl, hb⟩; refine ⟨_, rfl, ?_⟩; have n0_ := Rb HO_687001 hb; have n1_ := Rb HO_687003 hb; have n2_ := Rb HO_701001 hb; have n3_ := Rb HO_701003 hb; have n4_ := Kb BK686 hb; have n5_ := Kb BK700 hb; have n6_ := Bc HB hb; clear HO_687001 HO_687003 HO_701001 HO_701003 BK686 BK700 HB; revert n0_ n1_ n2_ n3_ n4_ n5_ n6_; intro HO_687001 HO_687003 HO_701001 HO_701003 BK686 BK700 HB; (try clear hb); (try clear hb2); (try clear hk); (try clear hi)))
           go_ret
           exact ⟨by first | rfl | (simp [errW_none, errW_some] <;> rfl) | (simp [*, errW_none, errW_some] <;> rfl), Bq⟩
     ·replace c37 := Bool.eq_false_iff.mpr c37
      subst c37
      have H1 : (some false) = some r := by rw [if_neg (show ¬ (false = true) by decide)] at H; exact H
      clear H; have H := H1; clear H1; obtain rfl := Option.some.inj H
      go_wp2_with (first | ((with_reducible refine gate_callee (f := 23) rfl ?_); refine gL (some 43) Try.func23 #[.slice A0 l0.length c0] ?_; (with_reducible refine (laws_toStringS.calls kj7 _ _ l0 t702 _ ?side1 ?side2 A35.out).mono ?_); (case side1 => exact Cz (Kd.C_below HR0.out HB.out)); (case side2 => exact HC0.out); rintro e w116 ⟨v703, rfl, ho0, hb⟩; refine ⟨_, rfl, ?_⟩; have n0_ := Re HO_6 (Kd.R_base ho0) hb; have n1_ := Rb HO_687001 hb; have n2_ := Rb HO_687003 hb; have n3_ := Rb HO_701001 hb; have n4_ := Rb HO_701003 hb; have n5_ := Rm (Kd.R_new' ho0 (Kd.R_lt (Rz HO_6.out))) HB; have n6_ := Kb BK686 hb; have n7_ := Kb BK700 hb; have n8_ := Bc HB hb; clear HO_6 HO_687001 HO_687003 HO_701001 HO_701003 BK686 BK700 HB; revert n0_ n1_ n2_ n3_ n4_ n5_ n6_ n7_ n8_; intro HO_6 HO_687001 HO_687003 HO_701001 HO_701003 HO704 BK686 BK700 HB; (try clear hb); (try clear hb2); (try clear hk); (try clear hi); (try clear ho0); obtain ⟨Ao117, co117, eo117⟩ := Kd.R_slice HO704.out; subst eo117) | ((with_reducible refine gate_callee (f := 25) rfl ?_); refine gL (some 44) Try.func25 #[.slice Ao17 t687.length co17, .slice Ao117 t702.length co117] ?_; (with_reducible refine (laws_eqStringS.calls kj7 _ _ t687 _ _ t702 false _ ?side1 ?side2 ?side3 ?side4 A36.out).mono ?_); (case side1 => exact Cz ((Kd.R_reads' HO_6.out).2.2)); (case side2 => exact (Kd.R_reads' HO_6.out).2.1); (case side3 => exact Cz ((Kd.R_reads' HO704.out).2.2)); (case side4 => exact (Kd.R_reads' HO704.out).2.1); rintro e w' ⟨rfl, ⟨nd, rfl⟩⟩; refine ⟨_, rfl, ?_⟩))
      go_ret
      exact ⟨by first | rfl | (simp [errW_none, errW_some] <;> rfl) | (simp [*, errW_none, errW_some] <;> rfl), Bq⟩

def laws_FnExactBuildTrie.Pure : Prop := ∀ (l0 : List ByteArray), l0.length ≤ maxLen → (∀ x ∈ l0, x.size ≤ maxLen) → ∃ k, laws_FnExactBuildTrie.f k l0 = some true
theorem laws_FnExactBuildTrie.walk (P : laws_FnExactBuildTrie.Pure) (A0 : Option Addr) (c0 : Nat) (l0 : List ByteArray) (w : World) (hr0 : Kd.C Kd.string w A0 l0.length l0) (hc0 : l0.length ≤ c0) (hm0 : l0.length ≤ maxLen) (hw0 : ∀ x ∈ l0, x.size ≤ maxLen) :
  Calls Try.prog 6 #[.slice A0 l0.length c0] w fun e w' => e = .returned (.bool true) ∧ Below w.heap.size w w' := by
 obtain ⟨k, h⟩ := P l0 hm0 hw0; refine (laws_FnExactBuildTrie.calls k A0 c0 l0 true w hr0 hc0 h).mono ?_; rintro e w' ⟨rfl, hd⟩; exact ⟨rfl, hd⟩

end Go.Proofs.Ytalfkfddpamnjaa.PA
