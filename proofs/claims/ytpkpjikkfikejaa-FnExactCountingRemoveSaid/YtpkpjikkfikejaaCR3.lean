import Derived.Test.YtpkpjikkfikejaaCR1
import Derived.Test.YtpkpjikkfikejaaCR2
import Derived.Test.YtpkpjikkfikejaaCR0
import Derived.ProofKit
import Derived.SliceStrings
import Derived.ChangeSlices
import Derived.Lib.Bytes
import Derived.Laws.BitsLemmas
-- printed by a program of this session (wip/gp) out of the translation; Lean checks it
namespace Go.Proofs.Ytpkpjikkfikejaa.PC
open Go.RowKit Go.Proofs.YtpkpjikkfikejaaW.PrintWords Go.Proofs.YtpkpjikkfikejaaW.PrintLast Go.Proofs.YtpkpjikkfikejaaW.PrintMore Go.Proofs.YtpkpjikkfikejaaSq
attribute [local go_sem] max2_int min2_int max_two min_two max_three min_three max_four min_four   -- for this text's walks alone
attribute [local go_sem] Go.Proofs.YtpkpjikkfikejaaGp.str_geq Go.Proofs.YtpkpjikkfikejaaGp.str_gtr Go.Proofs.YtpkpjikkfikejaaGp.str_leq
set_option linter.unusedVariables false
set_option linter.unusedSimpArgs false

set_option maxHeartbeats 8000000
set_option maxRecDepth 100000
def laws_szIntS.f (l0 : List Int) (a1 : Int) : Option (Int) := if (wrap64 (a1 - (l0.length : Int))) < 0 then (some (-1)) else (some (wrap64 (a1 - (l0.length : Int))))
theorem laws_szIntS.calls (A0 : Option Addr) (c0 : Nat) (l0 : List Int) (a1 : Int) (r : Int) (w : World) (hr0 : Kd.C (Kd.int .i64) w A0 l0.length l0) (hc0 : l0.length ≤ c0) (h : laws_szIntS.f l0 a1 = some r) :
  Calls Try.prog 106 #[.slice A0 l0.length c0, .int .i64 a1] w fun e w' => e = .returned (.int .i64 r) ∧ Drawn0 w w' := by
 have HR0 := am hr0; have HC0 := am hc0; clear hr0 hc0; have H : (if (wrap64 (a1 - (l0.length : Int))) < 0 then (some (-1)) else (some (wrap64 (a1 - (l0.length : Int))))) = some r := h; clear h
 by_cases c3 : (wrap64 (a1 - (l0.length : Int))) < 0
 ·rw [if_pos c3] at H
  have c3b0 : decide ((wrap64 (a1 - (l0.length : Int))) < 0) = true := decide_eq_true c3; clear c3; obtain rfl := Option.some.inj H
  go_enter Try.func106, Try.ntmps106
  go_wp2
  go_ret
  exact ⟨by first | rfl | (simp; done) | (simp [*]; done), by repeat (first | exact Drawn0.refl _ | apply Drawn0.step)⟩
 ·rw [if_neg c3] at H
  have c3b0 : decide ((wrap64 (a1 - (l0.length : Int))) < 0) = false := decide_eq_false c3; clear c3; obtain rfl := Option.some.inj H
  go_enter Try.func106, Try.ntmps106
  go_wp2
  go_ret
  exact ⟨by first | rfl | (simp; done) | (simp [*]; done), by repeat (first | exact Drawn0.refl _ | apply Drawn0.step)⟩

def laws_szCounting.f (a0_0 : Int) (a0_1 : Int) (l0_2 : List Int) (a1 : Int) : Option (Int) := (laws_szIntS.f l0_2 a1).bind fun t102 => (if t102 < 0 then (some (-1)) else (some t102))
theorem laws_szCounting.calls (a0_0 : Int) (a0_1 : Int) (A0_2 : Option Addr) (c0_2 : Nat) (l0_2 : List Int) (a1 : Int) (r : Int) (w : World) (hr0_2 : Kd.C (Kd.int .i64) w A0_2 l0_2.length l0_2) (hc0_2 : l0_2.length ≤ c0_2) (h : laws_szCounting.f a0_0 a0_1 l0_2 a1 = some r) :
  Calls Try.prog 29 #[.agg #[.int .i64 a0_0, .int .i64 a0_1, .slice A0_2 l0_2.length c0_2], .int .i64 a1] w fun e w' => e = .returned (.int .i64 r) ∧ Below w.heap.size w w' := by
 have hu47 := Try.underlying47; have HR0_2 := am hr0_2; have HC0_2 := am hc0_2; clear hr0_2 hc0_2; have HB := am (Below.refl w.heap.size w); have H : ((laws_szIntS.f l0_2 a1).bind fun t102 => (if t102 < 0 then (some (-1)) else (some t102))) = some r := h; clear h; replace H := Option.bind_eq_some_iff.mp H; obtain ⟨t102, A30, H⟩ := H; (try dsimp -simprocs only at H); have A3 := am A30; clear A30
 by_cases c4 : t102 < 0
 ·rw [if_pos c4] at H
  have c4b0 : decide (t102 < 0) = true := decide_eq_true c4; clear c4; obtain rfl := Option.some.inj H
  go_enter Try.func29, Try.ntmps29
  go_wp2_with (first | ((with_reducible refine gate_dst (N := 2) rfl ?_); refine bE 2 #[.int .i64 a0_0, .int .i64 a0_1, .slice A0_2 l0_2.length c0_2] 47 ?_; intro gb101 hg w5 hbox hb; have n0_ := Bb HB hb; have n1_ := am (hbox); have n2_ := Gl HB hg; have n3_ := Gl HB hg; clear HB; revert n0_ n1_ n2_ n3_; intro HB BK101 GW101 GE101; clear hb hbox hg; obtain ⟨hcz6_0, hcz6_1, hcz6_2, hfz6_0, hfz6_1, hfz6_2⟩ := cf3 (w := w5) BK101) | ((with_reducible refine gate_callee (f := 106) rfl ?_); refine gL (some 8) Try.func106 #[.slice A0_2 l0_2.length c0_2, .int .i64 a1] ?_; (with_reducible refine (laws_szIntS.calls _ _ l0_2 a1 t102 _ ?side1 ?side2 A3.out).mono ?_); (case side1 => exact Cz (Kd.C_below HR0_2.out HB.out)); (case side2 => exact HC0_2.out); rintro e w' ⟨rfl, ⟨nd, rfl⟩⟩; refine ⟨_, rfl, ?_⟩))
  go_ret
  exact ⟨eZ, Bq⟩
 ·rw [if_neg c4] at H
  have c4b0 : decide (t102 < 0) = false := decide_eq_false c4; clear c4; obtain rfl := Option.some.inj H
  go_enter Try.func29, Try.ntmps29
  go_wp2_with (first | ((with_reducible refine gate_dst (N := 2) rfl ?_); refine bE 2 #[.int .i64 a0_0, .int .i64 a0_1, .slice A0_2 l0_2.length c0_2] 47 ?_; intro gb101 hg w7 hbox hb; have n0_ := Bb HB hb; have n1_ := am (hbox); have n2_ := Gl HB hg; have n3_ := Gl HB hg; clear HB; revert n0_ n1_ n2_ n3_; intro HB BK101 GW101 GE101; clear hb hbox hg; obtain ⟨hcz8_0, hcz8_1, hcz8_2, hfz8_0, hfz8_1, hfz8_2⟩ := cf3 (w := w7) BK101) | ((with_reducible refine gate_callee (f := 106) rfl ?_); refine gL (some 8) Try.func106 #[.slice A0_2 l0_2.length c0_2, .int .i64 a1] ?_; (with_reducible refine (laws_szIntS.calls _ _ l0_2 a1 t102 _ ?side1 ?side2 A3.out).mono ?_); (case side1 => exact Cz (Kd.C_below HR0_2.out HB.out)); (case side2 => exact HC0_2.out); rintro e w' ⟨rfl, ⟨nd, rfl⟩⟩; refine ⟨_, rfl, ?_⟩))
  go_ret
  exact ⟨eZ, Bq⟩

def laws_toIntS.l0 : Nat → List Int → List Int → Int → Option (List Int)
 | 0, _, _, _ => none
 | k + 1, x0, x3, x4 => if x4 < (x0.length : Int) then (if 0 ≤ x4 then (if x4 < (x3.length : Int) then (laws_toIntS.l0 k x0 (x3.set (x4 : Int).toNat (rd x0 x4)) (wrap64 (x4 + 1))) else (none)) else (none)) else (some x3)
def laws_toIntS.f (k : Nat) (l0 : List Int) : Option (List Int) := if 0 ≤ (l0.length : Int) then (if ((l0.length : Int) : Int).toNat ≤ 35184372088832 then (laws_toIntS.l0 k l0 (List.replicate ((l0.length : Int) : Int).toNat 0) 0) else (none)) else (none)
theorem laws_toIntS.calls (k : Nat) (A0 : Option Addr) (c0 : Nat) (l0 : List Int) (r : List Int) (w : World) (hr0 : Kd.C (Kd.int .i64) w A0 l0.length l0) (hc0 : l0.length ≤ c0) (h : laws_toIntS.f k l0 = some r) :
  Calls Try.prog 111 #[.slice A0 l0.length c0] w fun e w' => ∃ v0_ : Value, e = .returned (v0_) ∧ Kd.R (Kd.int .i64) 3 w' w.heap.size (fun _ => True) v0_ r ∧ Below w.heap.size w w' := by
 have HR0 := am hr0; have HC0 := am hc0; clear hr0 hc0; have HB := am (Below.refl w.heap.size w); have H : (if 0 ≤ (l0.length : Int) then (if ((l0.length : Int) : Int).toNat ≤ 35184372088832 then (laws_toIntS.l0 k l0 (List.replicate ((l0.length : Int) : Int).toNat 0) 0) else (none)) else (none)) = some r := h; clear h
 by_cases c2 : 0 ≤ (l0.length : Int)
 ·rw [if_pos c2] at H
  have c2b0 := eq_true c2; have c2b1 : decide (0 ≤ (l0.length : Int)) = true := decide_eq_true c2; clear c2
  by_cases c3 : ((l0.length : Int) : Int).toNat ≤ 35184372088832
  ·rw [if_pos c3] at H
   have c3b0 := eq_true c3; have c3b1 : decide (((l0.length : Int) : Int).toNat ≤ 35184372088832) = true := decide_eq_true c3; clear c3; obtain ⟨y185, hy185⟩ : ∃ y_ : List Int, y_ = (List.replicate ((l0.length : Int) : Int).toNat 0) := ⟨_, rfl⟩
   replace H : (laws_toIntS.l0 k l0 y185 0) = some r := by first | (rw [hy185]; with_reducible exact H) | (have H2_ := (Option.bind_some _ _).symm.trans H; rw [hy185]; with_reducible exact H2_) | (have H2_ := (Option.bind_some _ _).symm.trans H; with_reducible exact H2_) | with_reducible exact H | (rw [hy185]; exact H) | exact H
   have Ny185 := am hy185; clear hy185; have H' := am H; clear H
   go_enter Try.func111, Try.ntmps111
   go_wp2_with (first | ((with_reducible refine gate_dst (N := 7) rfl ?_); refine Kd.R_make (Kd.int .i64) _ 3 rfl (N := 7) rfl 24 _ _ rfl (l0.length : Int) rfl rfl Try.underlying24 (.int .i64 0) 8 info3 rfl (by decide) (by omega) 0 (ok := fun _ => True) (okp := fun _ => True) rfl (fun _ hk => hk) trivial (dT) (Nat.le_trans (Nat.mul_le_mul_right _ (dT : (l0.length : Int).toNat ≤ 35184372088832)) (by omega)) (Below.refl _ _) (Nat.le_refl _) ?_; intro v186 w4 ho5 hb hg_ hnew_; clear hg_ hnew_; (first | rw [← Ny185.out] at ho5 | (simp only [Int.reduceToNat] at ho5; rw [← Ny185.out] at ho5)); have n0_ := Rl ho5 HB; have n1_ := Bb HB hb; clear HB; revert n0_ n1_; intro HO187 HB; clear hb ho5))
   (try simp only [aP])
   go_loopg [4] k (fun kq v4 w' => ∃ (x3_1 : List Int) (x4_1 : Int), v4 = .int .i64 x4_1 ∧ Aside0 (laws_toIntS.l0 kq l0 x3_1 x4_1 = some r) ∧ Aside0 (kq ≤ k) ∧ Aside0 (Kd.R (Kd.int .i64) 3 w' w.heap.size (fun _ => True) v186 x3_1) ∧ Aside0 (Below w.heap.size w w'))
   case atStart => exact ⟨(y185), (0), wZ, H', ⟨Nat.le_refl _⟩, ⟨Rz HO187.out⟩, ⟨Bz HB.out⟩⟩
   case round =>
    clear H'
    try clear c1
    try clear c2
    try clear c2b0
    try clear c2b1
    try clear p2
    try clear c3
    try clear c3b0
    try clear c3b1
    obtain ⟨x3_1, x4_1, rfl, HA, HK1, HO_3, HB⟩ := hrel; cases gk with
    | zero => exact absurd HA.out (by simp [laws_toIntS.l0])
    | succ k1 =>
     have H := HA.out; clear HA
     simp only [laws_toIntS.l0] at H
     by_cases c6 : x4_1 < (l0.length : Int)
     ·rw [if_pos c6] at H
      have c6b0 : decide (x4_1 < (l0.length : Int)) = true := decide_eq_true c6; clear c6
      by_cases c7 : 0 ≤ x4_1
      ·rw [if_pos c7] at H
       have c7b0 : decide (0 ≤ x4_1) = true := decide_eq_true c7; clear c7
       by_cases c8 : x4_1 < (x3_1.length : Int)
       ·rw [if_pos c8] at H
        have c8b0 : decide (x4_1 < (x3_1.length : Int)) = true := decide_eq_true c8; clear c8; obtain ⟨y189, hy189⟩ : ∃ y_ : List Int, y_ = (x3_1.set (x4_1 : Int).toNat (rd l0 x4_1)) := ⟨_, rfl⟩
        replace H : (laws_toIntS.l0 k1 l0 y189 (wrap64 (x4_1 + 1))) = some r := by first | (rw [hy189]; with_reducible exact H) | (have H2_ := (Option.bind_some _ _).symm.trans H; rw [hy189]; with_reducible exact H2_) | (have H2_ := (Option.bind_some _ _).symm.trans H; with_reducible exact H2_) | with_reducible exact H | (rw [hy189]; exact H) | exact H
        have Ny189 := am hy189; clear hy189; have H' := am H; clear H; have p188 : 0 ≤ (x4_1 : Int) := dT; have q188 : x4_1 < (l0.length : Int) := dT; obtain ⟨ad188, e188, hx188_0⟩ := Kd.at_int HR0.out x4_1 p188 q188; cases e188; replace hx188_0 := (HB.out.cell (World.block_lt_of_cell? w _ hx188_0)).trans hx188_0; replace p188 := eq_true p188; replace q188 := eq_true q188; have p9 : 0 ≤ (x4_1 : Int) := dT; have q9 : (x4_1 : Int) < ((x3_1.length : Int) : Int) := dT; obtain ⟨go9, co9, eo9, gb9, gl9, cl9, HG9⟩ := Kd.R_form HO_3.out (by omega)
        (first | cases eo9 | (injection eo9 with ea_ en_ ec_; (first | subst ea_ | (injection ea_ with ea_; subst ea_)); subst ec_; clear en_))
        have GB9 := am gb9; have GG9 := am HG9; clear gb9 gl9 HG9; obtain ⟨hx9_0, hf9_0⟩ := Kd.R_celln 0 HO_3.out (x4_1 : Int) p9 q9; replace p9 := eq_true p9; replace q9 := eq_true q9; have HP10 := Kd.R_putg HO_3.out (x4_1 : Int) (rd l0 x4_1)
        go_wp2_with (first | ((with_reducible refine gate_store (t := 3) (p := 20) rfl ?_); refine store_event (t := 3) (p := 20) (v := ?vo_w11) (w1 := (wr.setCell ⟨go9, (x4_1 : Int).toNat, none⟩ (.int .i64 (rd l0 x4_1)))) ?hg ?ho ?hn ?hr ?_; (case ho => rfl); (case hg => rfl); (case hn => rfl); (case hr => first | (go_simp; done) | (go_simp; rfl)); intro w11 hw; have hg : wr.grownBy w11 (some go9) := (by rw [hw]; exact HP10.2); have hp_ : Kd.R (Kd.int .i64) 3 w11 w.heap.size (fun _ => True) (.slice (some ⟨go9, 0, none⟩) x3_1.length co9) y189 := (by rw [hw, Ny189.out]; exact HP10.1); clear HP10; have n0_ := am (hp_); have n1_ := am ((by rw [hw]; exact below_set (HB.out) GB9.out : Below w.heap.size w w11)); clear HO_3 HB; revert n0_ n1_; intro HO_3 HB; clear hg hw hp_))
        go_roundg k1
        case measure => have := HK1.out; omega
        case rel => exact ⟨(y189), (wrap64 (x4_1 + 1)), wZ, H', ⟨by have := HK1.out; omega⟩, ⟨Rz HO_3.out⟩, ⟨Bz HB.out⟩⟩
       ·rw [if_neg c8] at H
        exact absurd H (by simp)
      ·rw [if_neg c7] at H
       exact absurd H (by simp)
     ·rw [if_neg c6] at H
      have c6b0 : decide (x4_1 < (l0.length : Int)) = false := decide_eq_false c6; clear c6; obtain rfl := Option.some.inj H
      go_wp2
      go_ret
      exact ⟨_, eZ, Rz HO_3.out, Bz HB.out⟩
  ·rw [if_neg c3] at H
   exact absurd H (by simp)
 ·rw [if_neg c2] at H
  exact absurd H (by simp)

def laws_toCounting.f (k : Nat) (a0_0 : Int) (a0_1 : Int) (l0_2 : List Int) : Option (Int × Int × List Int) := (laws_toIntS.f k l0_2).bind fun t193 => (some (a0_0, a0_1, t193))
theorem laws_toCounting.calls (k : Nat) (a0_0 : Int) (a0_1 : Int) (A0_2 : Option Addr) (c0_2 : Nat) (l0_2 : List Int) (r1 : Int) (r2 : Int) (r3 : List Int) (w : World) (hr0_2 : Kd.C (Kd.int .i64) w A0_2 l0_2.length l0_2) (hc0_2 : l0_2.length ≤ c0_2) (h : laws_toCounting.f k a0_0 a0_1 l0_2 = some (r1, r2, r3)) :
  Calls Try.prog 31 #[.agg #[.int .i64 a0_0, .int .i64 a0_1, .slice A0_2 l0_2.length c0_2]] w fun e w' => ∃ v2_ : Value, e = .returned (.agg #[.int .i64 r1, .int .i64 r2, v2_]) ∧ Kd.R (Kd.int .i64) 3 w' w.heap.size (fun _ => True) v2_ r3 ∧ Below w.heap.size w w' := by
 have hu47 := Try.underlying47; have hu49 := Try.underlying49; have HR0_2 := am hr0_2; have HC0_2 := am hc0_2; clear hr0_2 hc0_2; have HB := am (Below.refl w.heap.size w); have H : ((laws_toIntS.f k l0_2).bind fun t193 => (some (a0_0, a0_1, t193))) = some (r1, r2, r3) := h; clear h; replace H := Option.bind_eq_some_iff.mp H; obtain ⟨t193, A20, H⟩ := H; (try dsimp -simprocs only at H); have A2 := am A20; clear A20
 simp only [Option.some.injEq, Prod.mk.injEq] at H
 obtain ⟨rfl, rfl, rfl⟩ := H
 go_enter Try.func31, Try.ntmps31
 go_wp2_with (first | ((with_reducible refine gate_dst (N := 1) rfl ?_); refine bE 1 #[.int .i64 a0_0, .int .i64 a0_1, .slice A0_2 l0_2.length c0_2] 47 ?_; intro gb190 hg w3 hbox hb; have n0_ := Bb HB hb; have n1_ := am (hbox); have n2_ := Gl HB hg; have n3_ := Gl HB hg; clear HB; revert n0_ n1_ n2_ n3_; intro HB BK190 GW190 GE190; clear hb hbox hg) | ((with_reducible refine gate_dst (N := 2) rfl ?_); refine bE 2 #[.int .i64 0, .int .i64 0, .slice none 0 0] 49 ?_; intro gb191 hg w4 hbox hb; have n0_ := Kb BK190 hb; have n1_ := Bc HB hb; have n2_ := am (hbox); have n3_ := Gm HB hg; have n4_ := Gm HB hg; have n5_ := Nl BK190 hg; have n6_ := Ng BK190 hg; clear BK190 HB; revert n0_ n1_ n2_ n3_ n4_ n5_ n6_; intro BK190 HB BK191 GW191 GE191 NB190_191 NB191_190; clear hb hbox hg) | ((with_reducible refine gate_dst (N := 3) rfl ?_); refine bE 3 #[.int .i64 0, .int .i64 0, .slice none 0 0] 49 ?_; intro gb192 hg w5 hbox hb; have n0_ := Kb BK190 hb; have n1_ := Kb BK191 hb; have n2_ := Bc HB hb; have n3_ := am (hbox); have n4_ := Gm HB hg; have n5_ := Gm HB hg; have n6_ := Nl BK190 hg; have n7_ := Ng BK190 hg; have n8_ := Nl BK191 hg; have n9_ := Ng BK191 hg; clear BK190 BK191 HB; revert n0_ n1_ n2_ n3_ n4_ n5_ n6_ n7_ n8_ n9_; intro BK190 BK191 HB BK192 GW192 GE192 NB190_192 NB192_190 NB191_192 NB192_191; clear hb hbox hg; have hnb6 := NB190_191.out; have hnc6 := NB191_190.out; have hnb7 := NB190_192.out; have hnc7 := NB192_190.out; obtain ⟨hcz8_0, hcz8_1, hcz8_2, hfz8_0, hfz8_1, hfz8_2⟩ := cf3 (w := w5) BK190; have hnb9 := NB192_191.out; have hnc9 := NB191_192.out; obtain ⟨hcz10_0, hcz10_1, hcz10_2, hfz10_0, hfz10_1, hfz10_2⟩ := cf3 (w := w5) BK192) | ((with_reducible refine gate_callee (f := 111) rfl ?_); refine gL (some 12) Try.func111 #[.slice A0_2 l0_2.length c0_2] ?_; (with_reducible refine (laws_toIntS.calls k _ _ l0_2 t193 _ ?side1 ?side2 A2.out).mono ?_); (case side1 => exact Kd.C_below HR0_2.out (Bq)); (case side2 => exact HC0_2.out); rintro e w11 ⟨v194, rfl, ho0, hb⟩; refine ⟨_, rfl, ?_⟩; have n0_ := Rm ho0 HB; have n1_ := am (blk_below (g := gb190) (o := .cells #[.int .i64 a0_0, .int .i64 a0_1, .slice A0_2 l0_2.length c0_2] 47 (0, 0)) (by (with_reducible repeat (first | refine blk_drewN ?_ _ | refine blk_drew ?_ | refine blk_alloc ?_ _)); refine blk_far ?_ NB190_192.out _; (with_reducible repeat (first | refine blk_drewN ?_ _ | refine blk_drew ?_ | refine blk_alloc ?_ _)); refine blk_far ?_ NB190_192.out _; exact Kz BK190.out) hb); have n2_ := am (blk_below (g := gb191) (o := .cells #[.int .i64 0, .int .i64 0, .slice none 0 0] 49 (0, 0)) (by (with_reducible repeat (first | refine blk_drewN ?_ _ | refine blk_drew ?_ | refine blk_alloc ?_ _)); refine blk_far ?_ NB191_192.out _; (with_reducible repeat (first | refine blk_drewN ?_ _ | refine blk_drew ?_ | refine blk_alloc ?_ _)); refine blk_far ?_ NB191_192.out _; exact Kz BK191.out) hb); have n3_ := am (blk_below (g := gb192) (o := .cells #[.int .i64 a0_0, .int .i64 a0_1, .slice none 0 0] 49 (0, 0)) (by (with_reducible repeat (first | refine blk_drewN ?_ _ | refine blk_drew ?_ | refine blk_alloc ?_ _)); refine blk_put (cs := #[.int .i64 a0_0, .int .i64 0, .slice none 0 0]) ?_ 1 _ rfl; (with_reducible repeat (first | refine blk_drewN ?_ _ | refine blk_drew ?_ | refine blk_alloc ?_ _)); refine blk_put (cs := #[.int .i64 0, .int .i64 0, .slice none 0 0]) ?_ 0 _ rfl; exact Kz BK192.out) hb); have n4_ := Bc HB hb; clear BK190 BK191 BK192 HB; revert n0_ n1_ n2_ n3_ n4_; intro HO195 BK190 BK191 BK192 HB; (try clear hb); (try clear hb2); (try clear hk); (try clear hi); (try clear ho0); obtain ⟨Ao12, co12, eo12⟩ := Kd.R_slice HO195.out; subst eo12; obtain ⟨hcz13_0, hcz13_1, hcz13_2, hfz13_0, hfz13_1, hfz13_2⟩ := cf3 (w := w11) BK192; obtain ⟨hcz14_0, hcz14_1, hcz14_2, hfz14_0, hfz14_1, hfz14_2⟩ := cf3 (w := w11) BK191))
 refine bodyPost_ret (results_cell_row rfl _ _ gb191 49 #[.int .i64 a0_0, .int .i64 a0_1, .slice Ao12 t193.length co12] (0, 0) _ rfl (by (with_reducible repeat (first | refine blk_drewN ?_ _ | refine blk_drew ?_ | refine blk_alloc ?_ _)); refine blk_put (cs := #[.int .i64 a0_0, .int .i64 a0_1, .slice none 0 0]) ?_ 2 _ rfl; (with_reducible repeat (first | refine blk_drewN ?_ _ | refine blk_drew ?_ | refine blk_alloc ?_ _)); refine blk_put (cs := #[.int .i64 a0_0, .int .i64 0, .slice none 0 0]) ?_ 1 _ rfl; (with_reducible repeat (first | refine blk_drewN ?_ _ | refine blk_drew ?_ | refine blk_alloc ?_ _)); refine blk_put (cs := #[.int .i64 0, .int .i64 0, .slice none 0 0]) ?_ 0 _ rfl; (with_reducible repeat (first | refine blk_drewN ?_ _ | refine blk_drew ?_ | refine blk_alloc ?_ _)); refine blk_far ?_ NB191_192.out _; exact Kz BK191.out) Try.underlying49 rfl (by kernel_rfl)) rfl ?_; exact ⟨_, eZ, Rz (Kd.R_mono (Kd.R_far (p := ⟨gb191, 2, none⟩) (Kd.R_far (p := ⟨gb191, 1, none⟩) (Kd.R_far (p := ⟨gb191, 0, none⟩) (Kd.R_far (p := ⟨gb192, 2, none⟩) (Kd.R_types (Kd.R_types HO195.out BK192.out (by decide)) BK191.out (by decide)) (fun _ hk => hk.1.2) (.slice Ao12 t193.length co12)) (fun _ hk => hk.2) (.int .i64 a0_0)) (fun _ hk => hk.2) (.int .i64 a0_1)) (fun _ hk => hk.2) (.slice Ao12 t193.length co12)) (fun _ hk => trivial)), Bq⟩

def laws_eqIntS.l0 : Nat → List Int → List Int → Int → Option (Bool)
 | 0, _, _, _ => none
 | k + 1, x0, x1, x5 => if x5 < (x0.length : Int) then (if 0 ≤ x5 then (if x5 < (x1.length : Int) then (if (rd x0 x5) = (rd x1 x5) then (laws_eqIntS.l0 k x0 x1 (wrap64 (x5 + 1))) else (some false)) else (none)) else (none)) else (some true)
def laws_eqIntS.f (k : Nat) (l0 : List Int) (l1 : List Int) : Option (Bool) := if (l0.length : Int) = (l1.length : Int) then (laws_eqIntS.l0 k l0 l1 0) else (some false)
theorem laws_eqIntS.calls (k : Nat) (A0 : Option Addr) (c0 : Nat) (l0 : List Int) (A1 : Option Addr) (c1 : Nat) (l1 : List Int) (r : Bool) (w : World) (hr0 : Kd.C (Kd.int .i64) w A0 l0.length l0) (hc0 : l0.length ≤ c0) (hr1 : Kd.C (Kd.int .i64) w A1 l1.length l1) (hc1 : l1.length ≤ c1) (h : laws_eqIntS.f k l0 l1 = some r) :
  Calls Try.prog 40 #[.slice A0 l0.length c0, .slice A1 l1.length c1] w fun e w' => e = .returned (.bool r) ∧ Drawn0 w w' := by
 have HR0 := am hr0; have HC0 := am hc0; clear hr0 hc0; have HR1 := am hr1; have HC1 := am hc1; clear hr1 hc1; have H : (if (l0.length : Int) = (l1.length : Int) then (laws_eqIntS.l0 k l0 l1 0) else (some false)) = some r := h; clear h
 by_cases c3 : (l0.length : Int) = (l1.length : Int)
 ·rw [if_pos c3] at H
  have c3b0 : ((l0.length : Int) == (l1.length : Int)) = true := beq_iff_eq.mpr c3; have c3b1 : ((l0.length : Int) != (l1.length : Int)) = false := bne_eq_false_iff_eq.mpr c3
  have c3b2 : (l0.length == l1.length) = true := by first | simpa using c3 | (simp at c3 ⊢; omega)
  clear c3; have H' := am H; clear H
  go_enter Try.func40, Try.ntmps40
  go_wp2
  repeat (go_quiet (fail); try go_wp2)
  go_loopg [5] k (fun kq v5 w' => ∃ (x5_1 : Int), v5 = .int .i64 x5_1 ∧ Aside0 (laws_eqIntS.l0 kq l0 l1 x5_1 = some r) ∧ Aside0 (kq ≤ k) ∧ Drawn0 w w')
  case atStart => exact ⟨(0), wZ, H', ⟨Nat.le_refl _⟩, by repeat (first | exact Drawn0.refl _ | apply Drawn0.step)⟩
  case round =>
   clear H'
   try clear c1
   try clear p2
   try clear c3
   try clear c3b0
   try clear c3b1
   try clear c3b2
   obtain ⟨x5_1, rfl, HA, HK1, ⟨m1, rfl⟩⟩ := hrel; cases gk with
   | zero => exact absurd HA.out (by simp [laws_eqIntS.l0])
   | succ k1 =>
    have H := HA.out; clear HA
    simp only [laws_eqIntS.l0] at H
    by_cases c4 : x5_1 < (l0.length : Int)
    ·rw [if_pos c4] at H
     have c4b0 : decide (x5_1 < (l0.length : Int)) = true := decide_eq_true c4; clear c4
     by_cases c5 : 0 ≤ x5_1
     ·rw [if_pos c5] at H
      have c5b0 : decide (0 ≤ x5_1) = true := decide_eq_true c5; clear c5
      by_cases c6 : x5_1 < (l1.length : Int)
      ·rw [if_pos c6] at H
       have c6b0 : decide (x5_1 < (l1.length : Int)) = true := decide_eq_true c6; clear c6
       by_cases c7 : (rd l0 x5_1) = (rd l1 x5_1)
       ·rw [if_pos c7] at H
        have c7b0 : ((rd l0 x5_1) == (rd l1 x5_1)) = true := beq_iff_eq.mpr c7; have c7b1 : ((rd l0 x5_1) != (rd l1 x5_1)) = false := bne_eq_false_iff_eq.mpr c7; clear c7; have H' := am H; clear H; obtain ⟨ad270, e270, hx270_0⟩ := Kd.at_int HR0.out x5_1 dT dT; cases e270; have p270 := eT (0 ≤ (x5_1 : Int)); have q270 := eT (x5_1 < (l0.length : Int)); obtain ⟨ad271, e271, hx271_0⟩ := Kd.at_int HR1.out x5_1 dT dT; cases e271; have p271 := eT (0 ≤ (x5_1 : Int)); have q271 := eT (x5_1 < (l1.length : Int))
        go_wp2
        repeat (go_quiet (fail); try go_wp2)
        go_roundg k1
        case measure => have := HK1.out; omega
        case rel => exact ⟨(wrap64 (x5_1 + 1)), wZ, H', ⟨by have := HK1.out; omega⟩, by repeat (first | exact Drawn0.refl _ | apply Drawn0.step)⟩
       ·rw [if_neg c7] at H
        have c7b0 : ((rd l0 x5_1) == (rd l1 x5_1)) = false := beq_eq_false_iff_ne.mpr c7; have c7b1 : ((rd l0 x5_1) != (rd l1 x5_1)) = true := bne_iff_ne.mpr c7; obtain rfl := Option.some.inj H; obtain ⟨ad270, e270, hx270_0⟩ := Kd.at_int HR0.out x5_1 dT dT; cases e270; have p270 := eT (0 ≤ (x5_1 : Int)); have q270 := eT (x5_1 < (l0.length : Int)); obtain ⟨ad271, e271, hx271_0⟩ := Kd.at_int HR1.out x5_1 dT dT; cases e271; have p271 := eT (0 ≤ (x5_1 : Int)); have q271 := eT (x5_1 < (l1.length : Int))
        go_wp2
        repeat (go_quiet (fail); try go_wp2)
        go_ret
        exact ⟨by first | rfl | (simp; done) | (simp [*]; done), by repeat (first | exact Drawn0.refl _ | apply Drawn0.step)⟩
      ·rw [if_neg c6] at H
       exact absurd H (by simp)
     ·rw [if_neg c5] at H
      exact absurd H (by simp)
    ·rw [if_neg c4] at H
     have c4b0 : decide (x5_1 < (l0.length : Int)) = false := decide_eq_false c4; clear c4; obtain rfl := Option.some.inj H
     go_wp2
     repeat (go_quiet (fail); try go_wp2)
     go_ret
     exact ⟨by first | rfl | (simp; done) | (simp [*]; done), by repeat (first | exact Drawn0.refl _ | apply Drawn0.step)⟩
 ·rw [if_neg c3] at H
  have c3b0 : ((l0.length : Int) == (l1.length : Int)) = false := beq_eq_false_iff_ne.mpr c3; have c3b1 : ((l0.length : Int) != (l1.length : Int)) = true := bne_iff_ne.mpr c3
  have c3b2 : (l0.length == l1.length) = false := by first | simpa using c3 | (simp at c3 ⊢; omega)
  obtain rfl := Option.some.inj H
  go_enter Try.func40, Try.ntmps40
  go_wp2
  repeat (go_quiet (fail); try go_wp2)
  go_ret
  exact ⟨by first | rfl | (simp; done) | (simp [*]; done), by repeat (first | exact Drawn0.refl _ | apply Drawn0.step)⟩

def laws_eqCounting.f (k : Nat) (a0_0 : Int) (a0_1 : Int) (l0_2 : List Int) (a1_0 : Int) (a1_1 : Int) (l1_2 : List Int) : Option (Bool) := if a0_0 = a1_0 then (if a0_1 = a1_1 then ((laws_eqIntS.f k l0_2 l1_2).bind fun t274 => (if t274 = true then (some true) else (some false))) else (some false)) else (some false)
theorem laws_eqCounting.calls (k : Nat) (a0_0 : Int) (a0_1 : Int) (A0_2 : Option Addr) (c0_2 : Nat) (l0_2 : List Int) (a1_0 : Int) (a1_1 : Int) (A1_2 : Option Addr) (c1_2 : Nat) (l1_2 : List Int) (r : Bool) (w : World) (hr0_2 : Kd.C (Kd.int .i64) w A0_2 l0_2.length l0_2) (hc0_2 : l0_2.length ≤ c0_2) (hr1_2 : Kd.C (Kd.int .i64) w A1_2 l1_2.length l1_2) (hc1_2 : l1_2.length ≤ c1_2) (h : laws_eqCounting.f k a0_0 a0_1 l0_2 a1_0 a1_1 l1_2 = some r) :
  Calls Try.prog 33 #[.agg #[.int .i64 a0_0, .int .i64 a0_1, .slice A0_2 l0_2.length c0_2], .agg #[.int .i64 a1_0, .int .i64 a1_1, .slice A1_2 l1_2.length c1_2]] w fun e w' => e = .returned (.bool r) ∧ Below w.heap.size w w' := by
 have hu49 := Try.underlying49; have HR0_2 := am hr0_2; have HC0_2 := am hc0_2; clear hr0_2 hc0_2; have HR1_2 := am hr1_2; have HC1_2 := am hc1_2; clear hr1_2 hc1_2; have HB := am (Below.refl w.heap.size w); have H : (if a0_0 = a1_0 then (if a0_1 = a1_1 then ((laws_eqIntS.f k l0_2 l1_2).bind fun t274 => (if t274 = true then (some true) else (some false))) else (some false)) else (some false)) = some r := h; clear h
 by_cases c3 : a0_0 = a1_0
 ·rw [if_pos c3] at H
  have c3b0 : (a0_0 == a1_0) = true := beq_iff_eq.mpr c3; have c3b1 : (a0_0 != a1_0) = false := bne_eq_false_iff_eq.mpr c3; clear c3
  by_cases c4 : a0_1 = a1_1
  ·rw [if_pos c4] at H
   have c4b0 : (a0_1 == a1_1) = true := beq_iff_eq.mpr c4; have c4b1 : (a0_1 != a1_1) = false := bne_eq_false_iff_eq.mpr c4; clear c4; replace H := Option.bind_eq_some_iff.mp H; obtain ⟨t274, A50, H⟩ := H; (try dsimp -simprocs only at H); have A5 := am A50; clear A50
   by_cases c6 : t274 = true
   ·subst c6
    rw [if_pos rfl] at H; obtain rfl := Option.some.inj H
    go_enter Try.func33, Try.ntmps33
    go_wp2_with (first | ((with_reducible refine gate_dst (N := 2) rfl ?_); refine bE 2 #[.int .i64 a0_0, .int .i64 a0_1, .slice A0_2 l0_2.length c0_2] 49 ?_; intro gb272 hg w7 hbox hb; have n0_ := Bb HB hb; have n1_ := am (hbox); have n2_ := Gl HB hg; have n3_ := Gl HB hg; clear HB; revert n0_ n1_ n2_ n3_; intro HB BK272 GW272 GE272; clear hb hbox hg) | ((with_reducible refine gate_dst (N := 3) rfl ?_); refine bE 3 #[.int .i64 a1_0, .int .i64 a1_1, .slice A1_2 l1_2.length c1_2] 49 ?_; intro gb273 hg w8 hbox hb; have n0_ := Kb BK272 hb; have n1_ := Bc HB hb; have n2_ := am (hbox); have n3_ := Gm HB hg; have n4_ := Gm HB hg; have n5_ := Nl BK272 hg; have n6_ := Ng BK272 hg; clear BK272 HB; revert n0_ n1_ n2_ n3_ n4_ n5_ n6_; intro BK272 HB BK273 GW273 GE273 NB272_273 NB273_272; clear hb hbox hg; have hnb9 := NB272_273.out; have hnc9 := NB273_272.out; obtain ⟨hcz10_0, hcz10_1, hcz10_2, hfz10_0, hfz10_1, hfz10_2⟩ := cf3 (w := w8) BK272; obtain ⟨hcz11_0, hcz11_1, hcz11_2, hfz11_0, hfz11_1, hfz11_2⟩ := cf3 (w := w8) BK273) | ((with_reducible refine gate_callee (f := 40) rfl ?_); refine gL (some 19) Try.func40 #[.slice A0_2 l0_2.length c0_2, .slice A1_2 l1_2.length c1_2] ?_; (with_reducible refine (laws_eqIntS.calls k _ _ l0_2 _ _ l1_2 true _ ?side1 ?side2 ?side3 ?side4 A5.out).mono ?_); (case side1 => exact Cz (Kd.C_below HR0_2.out HB.out)); (case side2 => exact HC0_2.out); (case side3 => exact Cz (Kd.C_below HR1_2.out HB.out)); (case side4 => exact HC1_2.out); rintro e w' ⟨rfl, ⟨nd, rfl⟩⟩; refine ⟨_, rfl, ?_⟩))
    go_ret
    exact ⟨eZ, Bq⟩
   ·replace c6 := Bool.eq_false_iff.mpr c6
    subst c6
    rw [if_neg (show ¬ (false = true) by decide)] at H; obtain rfl := Option.some.inj H
    go_enter Try.func33, Try.ntmps33
    go_wp2_with (first | ((with_reducible refine gate_dst (N := 2) rfl ?_); refine bE 2 #[.int .i64 a0_0, .int .i64 a0_1, .slice A0_2 l0_2.length c0_2] 49 ?_; intro gb272 hg w12 hbox hb; have n0_ := Bb HB hb; have n1_ := am (hbox); have n2_ := Gl HB hg; have n3_ := Gl HB hg; clear HB; revert n0_ n1_ n2_ n3_; intro HB BK272 GW272 GE272; clear hb hbox hg) | ((with_reducible refine gate_dst (N := 3) rfl ?_); refine bE 3 #[.int .i64 a1_0, .int .i64 a1_1, .slice A1_2 l1_2.length c1_2] 49 ?_; intro gb273 hg w13 hbox hb; have n0_ := Kb BK272 hb; have n1_ := Bc HB hb; have n2_ := am (hbox); have n3_ := Gm HB hg; have n4_ := Gm HB hg; have n5_ := Nl BK272 hg; have n6_ := Ng BK272 hg; clear BK272 HB; revert n0_ n1_ n2_ n3_ n4_ n5_ n6_; intro BK272 HB BK273 GW273 GE273 NB272_273 NB273_272; clear hb hbox hg; have hnb14 := NB272_273.out; have hnc14 := NB273_272.out; obtain ⟨hcz15_0, hcz15_1, hcz15_2, hfz15_0, hfz15_1, hfz15_2⟩ := cf3 (w := w13) BK272; obtain ⟨hcz16_0, hcz16_1, hcz16_2, hfz16_0, hfz16_1, hfz16_2⟩ := cf3 (w := w13) BK273) | ((with_reducible refine gate_callee (f := 40) rfl ?_); refine gL (some 19) Try.func40 #[.slice A0_2 l0_2.length c0_2, .slice A1_2 l1_2.length c1_2] ?_; (with_reducible refine (laws_eqIntS.calls k _ _ l0_2 _ _ l1_2 false _ ?side1 ?side2 ?side3 ?side4 A5.out).mono ?_); (case side1 => exact Cz (Kd.C_below HR0_2.out HB.out)); (case side2 => exact HC0_2.out); (case side3 => exact Cz (Kd.C_below HR1_2.out HB.out)); (case side4 => exact HC1_2.out); rintro e w' ⟨rfl, ⟨nd, rfl⟩⟩; refine ⟨_, rfl, ?_⟩))
    go_ret
    exact ⟨eZ, Bq⟩
  ·rw [if_neg c4] at H
   have c4b0 : (a0_1 == a1_1) = false := beq_eq_false_iff_ne.mpr c4; have c4b1 : (a0_1 != a1_1) = true := bne_iff_ne.mpr c4; obtain rfl := Option.some.inj H
   go_enter Try.func33, Try.ntmps33
   go_wp2_with (first | ((with_reducible refine gate_dst (N := 2) rfl ?_); refine bE 2 #[.int .i64 a0_0, .int .i64 a0_1, .slice A0_2 l0_2.length c0_2] 49 ?_; intro gb272 hg w17 hbox hb; have n0_ := Bb HB hb; have n1_ := am (hbox); have n2_ := Gl HB hg; have n3_ := Gl HB hg; clear HB; revert n0_ n1_ n2_ n3_; intro HB BK272 GW272 GE272; clear hb hbox hg) | ((with_reducible refine gate_dst (N := 3) rfl ?_); refine bE 3 #[.int .i64 a1_0, .int .i64 a1_1, .slice A1_2 l1_2.length c1_2] 49 ?_; intro gb273 hg w18 hbox hb; have n0_ := Kb BK272 hb; have n1_ := Bc HB hb; have n2_ := am (hbox); have n3_ := Gm HB hg; have n4_ := Gm HB hg; have n5_ := Nl BK272 hg; have n6_ := Ng BK272 hg; clear BK272 HB; revert n0_ n1_ n2_ n3_ n4_ n5_ n6_; intro BK272 HB BK273 GW273 GE273 NB272_273 NB273_272; clear hb hbox hg; have hnb19 := NB272_273.out; have hnc19 := NB273_272.out; obtain ⟨hcz20_0, hcz20_1, hcz20_2, hfz20_0, hfz20_1, hfz20_2⟩ := cf3 (w := w18) BK272; obtain ⟨hcz21_0, hcz21_1, hcz21_2, hfz21_0, hfz21_1, hfz21_2⟩ := cf3 (w := w18) BK273))
   go_ret
   exact ⟨eZ, Bq⟩
 ·rw [if_neg c3] at H
  have c3b0 : (a0_0 == a1_0) = false := beq_eq_false_iff_ne.mpr c3; have c3b1 : (a0_0 != a1_0) = true := bne_iff_ne.mpr c3; obtain rfl := Option.some.inj H
  go_enter Try.func33, Try.ntmps33
  go_wp2_with (first | ((with_reducible refine gate_dst (N := 2) rfl ?_); refine bE 2 #[.int .i64 a0_0, .int .i64 a0_1, .slice A0_2 l0_2.length c0_2] 49 ?_; intro gb272 hg w22 hbox hb; have n0_ := Bb HB hb; have n1_ := am (hbox); have n2_ := Gl HB hg; have n3_ := Gl HB hg; clear HB; revert n0_ n1_ n2_ n3_; intro HB BK272 GW272 GE272; clear hb hbox hg) | ((with_reducible refine gate_dst (N := 3) rfl ?_); refine bE 3 #[.int .i64 a1_0, .int .i64 a1_1, .slice A1_2 l1_2.length c1_2] 49 ?_; intro gb273 hg w23 hbox hb; have n0_ := Kb BK272 hb; have n1_ := Bc HB hb; have n2_ := am (hbox); have n3_ := Gm HB hg; have n4_ := Gm HB hg; have n5_ := Nl BK272 hg; have n6_ := Ng BK272 hg; clear BK272 HB; revert n0_ n1_ n2_ n3_ n4_ n5_ n6_; intro BK272 HB BK273 GW273 GE273 NB272_273 NB273_272; clear hb hbox hg; have hnb24 := NB272_273.out; have hnc24 := NB273_272.out; obtain ⟨hcz25_0, hcz25_1, hcz25_2, hfz25_0, hfz25_1, hfz25_2⟩ := cf3 (w := w23) BK272; obtain ⟨hcz26_0, hcz26_1, hcz26_2, hfz26_0, hfz26_1, hfz26_2⟩ := cf3 (w := w23) BK273))
  go_ret
  exact ⟨eZ, Bq⟩

def laws_markIntS.l0 : Nat → List Int → Int → Int → Option (Int × List Int)
 | 0, _, _, _ => none
 | k + 1, x0, x1, x5 => if x5 < (x0.length : Int) then (if 0 ≤ x5 then (laws_markIntS.l0 k (x0.set (x5 : Int).toNat x1) (wrap64 (x1 + 1)) (wrap64 (x5 + 1))) else (none)) else (some (x1, x0))
def laws_markIntS.f (k : Nat) (l0 : List Int) (a1 : Int) : Option (Int × List Int) := laws_markIntS.l0 k l0 a1 0
theorem laws_markIntS.calls (k : Nat) (P0_ : Nat → Prop) (u9000_ : Value) (l0 : List Int) (a1 : Int) (r1 : Int) (r2 : List Int) (w0 w : World) (hB : Below w0.heap.size w0 w) (ho0 : Kd.R (Kd.int .i64) 3 w w0.heap.size P0_ u9000_ l0) (h : laws_markIntS.f k l0 a1 = some (r1, r2)) :
  Calls Try.prog 41 #[u9000_, .int .i64 a1] w fun e w' => e = .returned (.int .i64 r1) ∧ Kd.R (Kd.int .i64) 3 w' w0.heap.size (fun k_ => (P0_ k_ ∨ w.heap.size ≤ k_)) u9000_ r2 ∧ Below w0.heap.size w0 w' ∧ Kept w w' (fun k_ => P0_ k_) := by
 have HO0 := am (show Kd.R (Kd.int .i64) 3 w w0.heap.size (fun k_ => (P0_ k_ ∨ w.heap.size ≤ k_)) u9000_ l0 from Kd.R_mono ho0 (fun k_ hk => (.inl hk))); have HK := am (Kept.refl w (fun k_ => P0_ k_)); have HW0 := am hB.size; have HB := am hB; clear hB; have H : (laws_markIntS.l0 k l0 a1 0) = some (r1, r2) := h; clear h; have H' := am H; clear H
 go_enter Try.func41, Try.ntmps41
 go_wp2
 go_loopg [1, 5] k (fun kq v1 v5 w' => ∃ (x0_1 : List Int) (x1_1 : Int) (x5_1 : Int), v1 = .int .i64 x1_1 ∧ v5 = .int .i64 x5_1 ∧ Aside0 (laws_markIntS.l0 kq x0_1 x1_1 x5_1 = some (r1, r2)) ∧ Aside0 (kq ≤ k) ∧ Aside0 (Kd.R (Kd.int .i64) 3 w' w0.heap.size (fun k_ => (P0_ k_ ∨ w.heap.size ≤ k_)) u9000_ x0_1) ∧ Aside0 (Kept w w' (fun k_ => P0_ k_)) ∧ Aside0 (Below w0.heap.size w0 w'))
 case atStart => exact ⟨(l0), (a1), (0), wZ, wZ, H', ⟨Nat.le_refl _⟩, ⟨Rz HO0.out⟩, ⟨by repeat (first | (with_reducible first | exact HK.out | apply Kept.alloc | apply Kept.drewN | apply Kept.drew) | exact HK.out)⟩, ⟨Bz HB.out⟩⟩
 case round =>
  clear H'
  try clear p2
  obtain ⟨x0_1, x1_1, x5_1, rfl, rfl, HA, HK1, HO_0, HK, HB⟩ := hrel; cases gk with
  | zero => exact absurd HA.out (by simp [laws_markIntS.l0])
  | succ k1 =>
   have H := HA.out; clear HA
   simp only [laws_markIntS.l0] at H
   by_cases c3 : x5_1 < (x0_1.length : Int)
   ·rw [if_pos c3] at H
    have c3b0 : decide (x5_1 < (x0_1.length : Int)) = true := decide_eq_true c3; clear c3
    by_cases c4 : 0 ≤ x5_1
    ·rw [if_pos c4] at H
     have c4b0 : decide (0 ≤ x5_1) = true := decide_eq_true c4; clear c4; obtain ⟨y275, hy275⟩ : ∃ y_ : List Int, y_ = (x0_1.set (x5_1 : Int).toNat x1_1) := ⟨_, rfl⟩
     replace H : (laws_markIntS.l0 k1 y275 (wrap64 (x1_1 + 1)) (wrap64 (x5_1 + 1))) = some (r1, r2) := by first | (rw [hy275]; with_reducible exact H) | (have H2_ := (Option.bind_some _ _).symm.trans H; rw [hy275]; with_reducible exact H2_) | (have H2_ := (Option.bind_some _ _).symm.trans H; with_reducible exact H2_) | with_reducible exact H | (rw [hy275]; exact H) | exact H
     have Ny275 := am hy275; clear hy275; have H' := am H; clear H; obtain ⟨Ao6, co6, eo6⟩ := Kd.R_slice HO_0.out; subst eo6; have p5 : 0 ≤ (x5_1 : Int) := dT; have q5 : (x5_1 : Int) < ((x0_1.length : Int) : Int) := dT; obtain ⟨go5, co5, eo5, gb5, gl5, cl5, HG5⟩ := Kd.R_form HO_0.out (by omega)
     (first | cases eo5 | (injection eo5 with ea_ en_ ec_; (first | subst ea_ | (injection ea_ with ea_; subst ea_)); subst ec_; clear en_))
     have GB5 := am gb5; have GG5 := am HG5; clear gb5 gl5 HG5; have HMgo5 := am (show (P0_ go5 ∨ w.heap.size ≤ go5) from (HO_0.out.1 _ rfl)); obtain ⟨hx5_0, hf5_0⟩ := Kd.R_celln 0 HO_0.out (x5_1 : Int) p5 q5; replace p5 := eq_true p5; replace q5 := eq_true q5; have HP7 := Kd.R_putg HO_0.out (x5_1 : Int) x1_1
     go_wp2_with (first | ((with_reducible refine gate_store (t := 3) (p := 15) rfl ?_); refine store_event (t := 3) (p := 15) (v := ?vo_w8) (w1 := (wr.setCell ⟨go5, (x5_1 : Int).toNat, none⟩ (.int .i64 x1_1))) ?hg ?ho ?hn ?hr ?_; (case ho => rfl); (case hg => rfl); (case hn => rfl); (case hr => first | (go_simp; done) | (go_simp; rfl)); intro w8 hw; have hg : wr.grownBy w8 (some go5) := (by rw [hw]; exact HP7.2); have hp_ : Kd.R (Kd.int .i64) 3 w8 w0.heap.size (fun k_ => (P0_ k_ ∨ w.heap.size ≤ k_)) (.slice (some ⟨go5, 0, none⟩) x0_1.length co6) y275 := (by rw [hw, Ny275.out]; exact HP7.1); clear HP7; have n0_ := am (hp_); have n1_ := am ((by rw [hw]; exact below_set (HB.out) GB5.out : Below w0.heap.size w0 w8)); have n2_ := am (Kept.of_grown (S := (fun k_ => P0_ k_)) hg (by repeat (first | (with_reducible first | exact HK.out | apply Kept.alloc | apply Kept.drewN | apply Kept.drew) | exact HK.out)) (fun k_ e_ => (HO_0.out.1 k_ e_))); clear HO_0 HB HK; revert n0_ n1_ n2_; intro HO_0 HB HK; clear hg hw hp_))
     go_roundg k1
     case measure => have := HK1.out; omega
     case rel => exact ⟨(y275), (wrap64 (x1_1 + 1)), (wrap64 (x5_1 + 1)), wZ, wZ, H', ⟨by have := HK1.out; omega⟩, ⟨Rz HO_0.out⟩, ⟨by repeat (first | (with_reducible first | exact HK.out | apply Kept.alloc | apply Kept.drewN | apply Kept.drew) | exact HK.out)⟩, ⟨Bz HB.out⟩⟩
    ·rw [if_neg c4] at H
     exact absurd H (by simp)
   ·rw [if_neg c3] at H
    have c3b0 : decide (x5_1 < (x0_1.length : Int)) = false := decide_eq_false c3; clear c3
    simp only [Option.some.injEq, Prod.mk.injEq] at H
    obtain ⟨rfl, rfl⟩ := H; obtain ⟨Ao9, co9, eo9⟩ := Kd.R_slice HO_0.out; subst eo9
    go_wp2
    go_ret
    exact ⟨eZ, Rz HO_0.out, Bz HB.out, by repeat (first | (with_reducible first | exact HK.out | apply Kept.alloc | apply Kept.drewN | apply Kept.drew) | exact HK.out)⟩

def laws_markCounting.f (k : Nat) (a0_0 : Int) (a0_1 : Int) (l0_2 : List Int) (a1 : Int) : Option (Int × List Int) := (laws_markIntS.f k l0_2 a1).bind fun bt277 => (some (bt277.1, bt277.2))
theorem laws_markCounting.calls (k : Nat) (a0_0 : Int) (a0_1 : Int) (P0_2_ : Nat → Prop) (u9000_ : Value) (l0_2 : List Int) (a1 : Int) (r1 : Int) (r2 : List Int) (w0 w : World) (hB : Below w0.heap.size w0 w) (ho0_2 : Kd.R (Kd.int .i64) 3 w w0.heap.size P0_2_ u9000_ l0_2) (h : laws_markCounting.f k a0_0 a0_1 l0_2 a1 = some (r1, r2)) :
  Calls Try.prog 34 #[.agg #[.int .i64 a0_0, .int .i64 a0_1, u9000_], .int .i64 a1] w fun e w' => e = .returned (.int .i64 r1) ∧ Kd.R (Kd.int .i64) 3 w' w0.heap.size (fun k_ => (P0_2_ k_ ∨ w.heap.size ≤ k_)) u9000_ r2 ∧ Below w0.heap.size w0 w' ∧ Kept w w' (fun k_ => P0_2_ k_) := by
 have hu49 := Try.underlying49; have HO0_2 := am (show Kd.R (Kd.int .i64) 3 w w0.heap.size (fun k_ => (P0_2_ k_ ∨ w.heap.size ≤ k_)) u9000_ l0_2 from Kd.R_mono ho0_2 (fun k_ hk => (.inl hk))); have HK := am (Kept.refl w (fun k_ => P0_2_ k_)); have HW0 := am hB.size; have HB := am hB; clear hB; have H : ((laws_markIntS.f k l0_2 a1).bind fun bt277 => (some (bt277.1, bt277.2))) = some (r1, r2) := h; clear h; replace H := Option.bind_eq_some_iff.mp H; obtain ⟨⟨t277, t278⟩, A30, H⟩ := H; (try dsimp -simprocs only at H); have A3 := am A30; clear A30
 simp only [Option.some.injEq, Prod.mk.injEq] at H
 obtain ⟨rfl, rfl⟩ := H; obtain ⟨Ao4, co4, eo4⟩ := Kd.R_slice HO0_2.out; subst eo4
 go_enter Try.func34, Try.ntmps34
 go_wp2_with (first | ((with_reducible refine gate_dst (N := 2) rfl ?_); refine bE 2 #[.int .i64 a0_0, .int .i64 a0_1, .slice Ao4 l0_2.length co4] 49 ?_; intro gb276 hg w5 hbox hb; have n0_ := Rb HO0_2 hb; have n1_ := am (Kept.below (S := (fun k_ => P0_2_ k_)) (by repeat (first | (with_reducible first | exact HK.out | apply Kept.alloc | apply Kept.drewN | apply Kept.drew) | exact HK.out)) hb); have n2_ := Bb HB hb; have n3_ := am (hbox); have n4_ := am ((by rw [hg]; exact (by first | exact HK.out.1 | exact (show Kept w _ (fun k_ => P0_2_ k_) from by repeat (first | (with_reducible first | exact HK.out | apply Kept.alloc | apply Kept.drewN | apply Kept.drew) | exact HK.out)).1) : w.heap.size ≤ gb276)); have n5_ := am ((by rw [hg]; exact (below_size (Bz HB.out)) : w0.heap.size ≤ gb276)); clear HO0_2 HK HB; revert n0_ n1_ n2_ n3_ n4_ n5_; intro HO0_2 HK HB BK276 GW276 GE276; clear hb hbox hg; obtain ⟨hcz6_0, hcz6_1, hcz6_2, hfz6_0, hfz6_1, hfz6_2⟩ := cf3 (w := w5) BK276) | ((with_reducible refine gate_callee (f := 41) rfl ?_); refine gL (some 8) Try.func41 #[.slice Ao4 l0_2.length co4, .int .i64 a1] ?_; (with_reducible refine (laws_markIntS.calls k (fun k_ => some k_ = (.slice Ao4 l0_2.length co4 : Value).ownBlock) (.slice Ao4 l0_2.length co4) l0_2 a1 t277 t278 w0 _ ?side1 ?side2 A3.out).mono ?_); (case side1 => repeat (first | (with_reducible first | exact HB.out | apply below_alloc | apply pw_below_drewN | apply below_drew1 | refine below_set ?_ GE276.out) | exact HB.out)); (case side2 => exact Kd.R_tight rfl HO0_2.out); rintro e w7 ⟨rfl, hy0, hb, hkp⟩; refine ⟨_, rfl, ?_⟩; have n0_ := am (Kd.R_reok rfl hy0 (fun k_ e_ => HO0_2.out.1 k_ e_)); have n1_ := am (blk_kept (Kz BK276.out) hkp (fun hs_ => (fun e_ => (Kd.R_ne HO0_2.out BK276.out (by decide)) e_) hs_)); have n2_ := am (Kept.then_ (S := (fun k_ => P0_2_ k_)) (by repeat (first | (with_reducible first | exact HK.out | apply Kept.alloc | apply Kept.drewN | apply Kept.drew | refine Kept.setCell ?_ (.inr GW276.out) _) | exact HK.out)) hkp (fun k_ hs_ => (fun e_ => (HO0_2.out.1 k_ e_.symm)) hs_)); have n3_ := am (hb); clear HO0_2 BK276 HK HB; revert n0_ n1_ n2_ n3_; intro HO0_2 BK276 HK HB; (try clear hb); (try clear hkp); (try clear hy0)))
 go_ret
 exact ⟨eZ, Rz HO0_2.out, Bq, by repeat (first | (with_reducible first | exact HK.out | apply Kept.alloc | apply Kept.drewN | apply Kept.drew | refine Kept.setCell ?_ (.inr GW276.out) _) | exact HK.out)⟩

def laws_heldIntS.l0 : Nat → List Int → Int → Int → Option (Int)
 | 0, _, _, _ => none
 | k + 1, x0, x1, x5 => if x5 < (x0.length : Int) then (if 0 ≤ x5 then (if (rd x0 x5) = x1 then (laws_heldIntS.l0 k x0 (wrap64 (x1 + 1)) (wrap64 (x5 + 1))) else (some (-1))) else (none)) else (some x1)
def laws_heldIntS.f (k : Nat) (l0 : List Int) (a1 : Int) : Option (Int) := laws_heldIntS.l0 k l0 a1 0
theorem laws_heldIntS.calls (k : Nat) (A0 : Option Addr) (c0 : Nat) (l0 : List Int) (a1 : Int) (r : Int) (w : World) (hr0 : Kd.C (Kd.int .i64) w A0 l0.length l0) (hc0 : l0.length ≤ c0) (h : laws_heldIntS.f k l0 a1 = some r) :
  Calls Try.prog 42 #[.slice A0 l0.length c0, .int .i64 a1] w fun e w' => e = .returned (.int .i64 r) ∧ Drawn0 w w' := by
 have HR0 := am hr0; have HC0 := am hc0; clear hr0 hc0; have H : (laws_heldIntS.l0 k l0 a1 0) = some r := h; clear h; have H' := am H; clear H
 go_enter Try.func42, Try.ntmps42
 go_wp2
 go_loopg [1, 5] k (fun kq v1 v5 w' => ∃ (x1_1 : Int) (x5_1 : Int), v1 = .int .i64 x1_1 ∧ v5 = .int .i64 x5_1 ∧ Aside0 (laws_heldIntS.l0 kq l0 x1_1 x5_1 = some r) ∧ Aside0 (kq ≤ k) ∧ Drawn0 w w')
 case atStart => exact ⟨(a1), (0), wZ, wZ, H', ⟨Nat.le_refl _⟩, by repeat (first | exact Drawn0.refl _ | apply Drawn0.step)⟩
 case round =>
  clear H'
  try clear p2
  obtain ⟨x1_1, x5_1, rfl, rfl, HA, HK1, ⟨m1, rfl⟩⟩ := hrel; cases gk with
  | zero => exact absurd HA.out (by simp [laws_heldIntS.l0])
  | succ k1 =>
   have H := HA.out; clear HA
   simp only [laws_heldIntS.l0] at H
   by_cases c3 : x5_1 < (l0.length : Int)
   ·rw [if_pos c3] at H
    have c3b0 : decide (x5_1 < (l0.length : Int)) = true := decide_eq_true c3; clear c3
    by_cases c4 : 0 ≤ x5_1
    ·rw [if_pos c4] at H
     have c4b0 : decide (0 ≤ x5_1) = true := decide_eq_true c4; clear c4
     by_cases c5 : (rd l0 x5_1) = x1_1
     ·rw [if_pos c5] at H
      have c5b0 : ((rd l0 x5_1) == x1_1) = true := beq_iff_eq.mpr c5; have c5b1 : ((rd l0 x5_1) != x1_1) = false := bne_eq_false_iff_eq.mpr c5; clear c5; have H' := am H; clear H; obtain ⟨ad279, e279, hx279_0⟩ := Kd.at_int HR0.out x5_1 dT dT; cases e279; have p279 := eT (0 ≤ (x5_1 : Int)); have q279 := eT (x5_1 < (l0.length : Int))
      go_wp2
      go_roundg k1
      case measure => have := HK1.out; omega
      case rel => exact ⟨(wrap64 (x1_1 + 1)), (wrap64 (x5_1 + 1)), wZ, wZ, H', ⟨by have := HK1.out; omega⟩, by repeat (first | exact Drawn0.refl _ | apply Drawn0.step)⟩
     ·rw [if_neg c5] at H
      have c5b0 : ((rd l0 x5_1) == x1_1) = false := beq_eq_false_iff_ne.mpr c5; have c5b1 : ((rd l0 x5_1) != x1_1) = true := bne_iff_ne.mpr c5; obtain rfl := Option.some.inj H; obtain ⟨ad279, e279, hx279_0⟩ := Kd.at_int HR0.out x5_1 dT dT; cases e279; have p279 := eT (0 ≤ (x5_1 : Int)); have q279 := eT (x5_1 < (l0.length : Int))
      go_wp2
      go_ret
      exact ⟨by first | rfl | (simp; done) | (simp [*]; done), by repeat (first | exact Drawn0.refl _ | apply Drawn0.step)⟩
    ·rw [if_neg c4] at H
     exact absurd H (by simp)
   ·rw [if_neg c3] at H
    have c3b0 : decide (x5_1 < (l0.length : Int)) = false := decide_eq_false c3; clear c3; obtain rfl := Option.some.inj H
    go_wp2
    go_ret
    exact ⟨by first | rfl | (simp; done) | (simp [*]; done), by repeat (first | exact Drawn0.refl _ | apply Drawn0.step)⟩

def laws_heldCounting.f (k : Nat) (a0_0 : Int) (a0_1 : Int) (l0_2 : List Int) (a1 : Int) : Option (Int) := (laws_heldIntS.f k l0_2 a1).bind fun t281 => (if t281 < 0 then (some (-1)) else (some t281))
theorem laws_heldCounting.calls (k : Nat) (a0_0 : Int) (a0_1 : Int) (A0_2 : Option Addr) (c0_2 : Nat) (l0_2 : List Int) (a1 : Int) (r : Int) (w : World) (hr0_2 : Kd.C (Kd.int .i64) w A0_2 l0_2.length l0_2) (hc0_2 : l0_2.length ≤ c0_2) (h : laws_heldCounting.f k a0_0 a0_1 l0_2 a1 = some r) :
  Calls Try.prog 35 #[.agg #[.int .i64 a0_0, .int .i64 a0_1, .slice A0_2 l0_2.length c0_2], .int .i64 a1] w fun e w' => e = .returned (.int .i64 r) ∧ Below w.heap.size w w' := by
 have hu49 := Try.underlying49; have HR0_2 := am hr0_2; have HC0_2 := am hc0_2; clear hr0_2 hc0_2; have HB := am (Below.refl w.heap.size w); have H : ((laws_heldIntS.f k l0_2 a1).bind fun t281 => (if t281 < 0 then (some (-1)) else (some t281))) = some r := h; clear h; replace H := Option.bind_eq_some_iff.mp H; obtain ⟨t281, A30, H⟩ := H; (try dsimp -simprocs only at H); have A3 := am A30; clear A30
 by_cases c4 : t281 < 0
 ·rw [if_pos c4] at H
  have c4b0 : decide (t281 < 0) = true := decide_eq_true c4; clear c4; obtain rfl := Option.some.inj H
  go_enter Try.func35, Try.ntmps35
  go_wp2_with (first | ((with_reducible refine gate_dst (N := 2) rfl ?_); refine bE 2 #[.int .i64 a0_0, .int .i64 a0_1, .slice A0_2 l0_2.length c0_2] 49 ?_; intro gb280 hg w5 hbox hb; have n0_ := Bb HB hb; have n1_ := am (hbox); have n2_ := Gl HB hg; have n3_ := Gl HB hg; clear HB; revert n0_ n1_ n2_ n3_; intro HB BK280 GW280 GE280; clear hb hbox hg; obtain ⟨hcz6_0, hcz6_1, hcz6_2, hfz6_0, hfz6_1, hfz6_2⟩ := cf3 (w := w5) BK280) | ((with_reducible refine gate_callee (f := 42) rfl ?_); refine gL (some 8) Try.func42 #[.slice A0_2 l0_2.length c0_2, .int .i64 a1] ?_; (with_reducible refine (laws_heldIntS.calls k _ _ l0_2 a1 t281 _ ?side1 ?side2 A3.out).mono ?_); (case side1 => exact Cz (Kd.C_below HR0_2.out HB.out)); (case side2 => exact HC0_2.out); rintro e w' ⟨rfl, ⟨nd, rfl⟩⟩; refine ⟨_, rfl, ?_⟩))
  go_ret
  exact ⟨eZ, Bq⟩
 ·rw [if_neg c4] at H
  have c4b0 : decide (t281 < 0) = false := decide_eq_false c4; clear c4; obtain rfl := Option.some.inj H
  go_enter Try.func35, Try.ntmps35
  go_wp2_with (first | ((with_reducible refine gate_dst (N := 2) rfl ?_); refine bE 2 #[.int .i64 a0_0, .int .i64 a0_1, .slice A0_2 l0_2.length c0_2] 49 ?_; intro gb280 hg w7 hbox hb; have n0_ := Bb HB hb; have n1_ := am (hbox); have n2_ := Gl HB hg; have n3_ := Gl HB hg; clear HB; revert n0_ n1_ n2_ n3_; intro HB BK280 GW280 GE280; clear hb hbox hg; obtain ⟨hcz8_0, hcz8_1, hcz8_2, hfz8_0, hfz8_1, hfz8_2⟩ := cf3 (w := w7) BK280) | ((with_reducible refine gate_callee (f := 42) rfl ?_); refine gL (some 8) Try.func42 #[.slice A0_2 l0_2.length c0_2, .int .i64 a1] ?_; (with_reducible refine (laws_heldIntS.calls k _ _ l0_2 a1 t281 _ ?side1 ?side2 A3.out).mono ?_); (case side1 => exact Cz (Kd.C_below HR0_2.out HB.out)); (case side2 => exact HC0_2.out); rintro e w' ⟨rfl, ⟨nd, rfl⟩⟩; refine ⟨_, rfl, ?_⟩))
  go_ret
  exact ⟨eZ, Bq⟩

mutual
def laws_FnExactCountingRemove.j0 : Nat → ByteArray → Bool → Bool → Bool → Int → Int → List Int → Int → Int → List Int → Int → Int → List Int → Int → Int → List Int → Option (Bool)
 | 0, _, _, _, _, _, _, _, _, _, _, _, _, _, _, _, _ => none
 | k + 1, x1, x7, x10, x47, x283000, x283001, x283002, x296000, x296001, x296002, x302000, x302001, x302002, x309000, x309001, x309002 => if x47 = true then (some false) else ((laws_toCounting.f k x283000 x283001 x283002).bind fun bt310 => ((laws_eqCounting.f k x302000 x302001 x302002 bt310.1 bt310.2.1 bt310.2.2).bind fun t315 => (if t315 = true then ((laws_markCounting.f k x302000 x302001 x302002 1).bind fun bt316 => (if bt316.1 < 0 then (laws_FnExactCountingRemove.j1 k x1 x7 true x283000 x283001 x283002 x296000 x296001 x296002 x309000 x309001 x309002) else ((laws_eqCounting.f k x309000 x309001 x309002 x296000 x296001 x296002).bind fun t318 => (if t318 = true then (laws_FnExactCountingRemove.j1 k x1 x7 (x10 != x7) x283000 x283001 x283002 x296000 x296001 x296002 x309000 x309001 x309002) else (laws_FnExactCountingRemove.j1 k x1 x7 true x283000 x283001 x283002 x296000 x296001 x296002 x309000 x309001 x309002))))) else (some false))))
def laws_FnExactCountingRemove.j1 : Nat → ByteArray → Bool → Bool → Int → Int → List Int → Int → Int → List Int → Int → Int → List Int → Option (Bool)
 | 0, _, _, _, _, _, _, _, _, _, _, _, _ => none
 | k + 1, x1, x7, x68, x283000, x283001, x283002, x296000, x296001, x296002, x309000, x309001, x309002 => if x68 = true then (some false) else ((laws_markCounting.f k x309000 x309001 x309002 1).bind fun bt319 => ((laws_heldCounting.f k x309000 x309001 bt319.2 1).bind fun t321 => (if t321 < 0 then (some false) else (if t321 = bt319.1 then ((laws_toCounting.f k x283000 x283001 x283002).bind fun bt322 => ((impl_CountingRemove.f k bt322.1 bt322.2.1 bt322.2.2 x1).bind fun bt327 => ((laws_eqCounting.f k bt327.1 bt327.2.1 bt327.2.2.1 x296000 x296001 x296002).bind fun t334 => (if t334 = true then (laws_FnExactCountingRemove.j2 k bt319.1 (bt327.2.2.2 != x7) x309000 x309001 bt319.2) else (laws_FnExactCountingRemove.j2 k bt319.1 true x309000 x309001 bt319.2))))) else (some false)))))
def laws_FnExactCountingRemove.j2 : Nat → Int → Bool → Int → Int → List Int → Option (Bool)
 | 0, _, _, _, _, _ => none
 | k + 1, x12, x95, x309000, x309001, x309002 => if x95 = true then (some false) else ((laws_heldCounting.f k x309000 x309001 x309002 1).bind fun t335 => (if t335 < 0 then (some false) else (if t335 = x12 then (some true) else (some false))))
end
def laws_FnExactCountingRemove.f (k : Nat) (a0_0 : Int) (a0_1 : Int) (l0_2 : List Int) (a1 : ByteArray) : Option (Bool) := if (a1.size : Int) > 1048576 then (some true) else ((laws_szCounting.f a0_0 a0_1 l0_2 1048576).bind fun t283 => (if t283 < 0 then (some true) else ((laws_toCounting.f k a0_0 a0_1 l0_2).bind fun bt284 => ((spec_CountingRemove.f k bt284.1 bt284.2.1 bt284.2.2 a1).bind fun bt289 => ((laws_toCounting.f k a0_0 a0_1 l0_2).bind fun bt296 => ((impl_CountingRemove.f k bt296.1 bt296.2.1 bt296.2.2 a1).bind fun bt302 => ((laws_eqCounting.f k bt302.1 bt302.2.1 bt302.2.2.1 bt289.1 bt289.2.1 bt289.2.2.1).bind fun t309 => (if t309 = true then (laws_FnExactCountingRemove.j0 k a1 bt289.2.2.2 bt302.2.2.2 (bt302.2.2.2 != bt289.2.2.2) a0_0 a0_1 l0_2 bt289.1 bt289.2.1 bt289.2.2.1 bt296.1 bt296.2.1 bt296.2.2 bt302.1 bt302.2.1 bt302.2.2.1) else (laws_FnExactCountingRemove.j0 k a1 bt289.2.2.2 bt302.2.2.2 true a0_0 a0_1 l0_2 bt289.1 bt289.2.1 bt289.2.2.1 bt296.1 bt296.2.1 bt296.2.2 bt302.1 bt302.2.1 bt302.2.2.1)))))))))
theorem laws_FnExactCountingRemove.j0.dead (k : Nat) (y0 : ByteArray) (y1 : Bool) (y2 : Bool) (y4 : Int) (y5 : Int) (y6 : List Int) (y7 : Int) (y8 : Int) (y9 : List Int) (y10 : Int) (y11 : Int) (y12 : List Int) (y13 : Int) (y14 : Int) (y15 : List Int) : laws_FnExactCountingRemove.j0 k y0 y1 y2 true y4 y5 y6 y7 y8 y9 y10 y11 y12 y13 y14 y15 ≠ some true := by cases k <;> simp [laws_FnExactCountingRemove.j0]
theorem laws_FnExactCountingRemove.j1.dead (k : Nat) (y0 : ByteArray) (y1 : Bool) (y3 : Int) (y4 : Int) (y5 : List Int) (y6 : Int) (y7 : Int) (y8 : List Int) (y9 : Int) (y10 : Int) (y11 : List Int) : laws_FnExactCountingRemove.j1 k y0 y1 true y3 y4 y5 y6 y7 y8 y9 y10 y11 ≠ some true := by cases k <;> simp [laws_FnExactCountingRemove.j1]
theorem laws_FnExactCountingRemove.j2.dead (k : Nat) (y0 : Int) (y2 : Int) (y3 : Int) (y4 : List Int) : laws_FnExactCountingRemove.j2 k y0 true y2 y3 y4 ≠ some true := by cases k <;> simp [laws_FnExactCountingRemove.j2]
theorem laws_FnExactCountingRemove.calls (k : Nat) (a0_0 : Int) (a0_1 : Int) (A0_2 : Option Addr) (c0_2 : Nat) (l0_2 : List Int) (a1 : ByteArray) (r : Bool) (w : World) (hr0_2 : Kd.C (Kd.int .i64) w A0_2 l0_2.length l0_2) (hc0_2 : l0_2.length ≤ c0_2) (h : laws_FnExactCountingRemove.f k a0_0 a0_1 l0_2 a1 = some r) (hT_ : r = true) :
  Calls Try.prog 6 #[.agg #[.int .i64 a0_0, .int .i64 a0_1, .slice A0_2 l0_2.length c0_2], .string a1] w fun e w' => e = .returned (.bool r) ∧ Below w.heap.size w w' := by
 have hu47 := Try.underlying47; have hu49 := Try.underlying49; have HR0_2 := am hr0_2; have HC0_2 := am hc0_2; clear hr0_2 hc0_2; have HB := am (Below.refl w.heap.size w); have H : (if (a1.size : Int) > 1048576 then (some true) else ((laws_szCounting.f a0_0 a0_1 l0_2 1048576).bind fun t283 => (if t283 < 0 then (some true) else ((laws_toCounting.f k a0_0 a0_1 l0_2).bind fun bt284 => ((spec_CountingRemove.f k bt284.1 bt284.2.1 bt284.2.2 a1).bind fun bt289 => ((laws_toCounting.f k a0_0 a0_1 l0_2).bind fun bt296 => ((impl_CountingRemove.f k bt296.1 bt296.2.1 bt296.2.2 a1).bind fun bt302 => ((laws_eqCounting.f k bt302.1 bt302.2.1 bt302.2.2.1 bt289.1 bt289.2.1 bt289.2.2.1).bind fun t309 => (if t309 = true then (laws_FnExactCountingRemove.j0 k a1 bt289.2.2.2 bt302.2.2.2 (bt302.2.2.2 != bt289.2.2.2) a0_0 a0_1 l0_2 bt289.1 bt289.2.1 bt289.2.2.1 bt296.1 bt296.2.1 bt296.2.2 bt302.1 bt302.2.1 bt302.2.2.1) else (laws_FnExactCountingRemove.j0 k a1 bt289.2.2.2 bt302.2.2.2 true a0_0 a0_1 l0_2 bt289.1 bt289.2.1 bt289.2.2.1 bt296.1 bt296.2.1 bt296.2.2 bt302.1 bt302.2.1 bt302.2.2.1)))))))))) = some r := h; clear h; have HT_ := am hT_; clear hT_
 by_cases c3 : (a1.size : Int) > 1048576
 ·rw [if_pos c3] at H
  have c3b0 : decide (1048576 < (a1.size : Int)) = true := decide_eq_true c3; have c3b1 : decide (1048576 < a1.size) = true := decide_eq_true (by omega); clear c3; obtain rfl := Option.some.inj H
  go_enter Try.func6, Try.ntmps6
  go_wp2_with (first | ((with_reducible refine gate_dst (N := 2) rfl ?_); refine bE 2 #[.int .i64 a0_0, .int .i64 a0_1, .slice A0_2 l0_2.length c0_2] 47 ?_; intro gb282 hg w4 hbox hb; have n0_ := Bb HB hb; have n1_ := am (hbox); have n2_ := Gl HB hg; have n3_ := Gl HB hg; clear HB; revert n0_ n1_ n2_ n3_; intro HB BK282 GW282 GE282; clear hb hbox hg))
  go_ret
  exact ⟨eZ, Bq⟩
 ·rw [if_neg c3] at H
  have c3b0 : decide (1048576 < (a1.size : Int)) = false := decide_eq_false c3; have c3b1 : decide (1048576 < a1.size) = false := decide_eq_false (by omega); clear c3; replace H := Option.bind_eq_some_iff.mp H; obtain ⟨t283, A50, H⟩ := H; (try dsimp -simprocs only at H); have A5 := am A50; clear A50
  by_cases c6 : t283 < 0
  ·rw [if_pos c6] at H
   have c6b0 : decide (t283 < 0) = true := decide_eq_true c6; clear c6; obtain rfl := Option.some.inj H
   go_enter Try.func6, Try.ntmps6
   go_wp2_with (first | ((with_reducible refine gate_dst (N := 2) rfl ?_); refine bE 2 #[.int .i64 a0_0, .int .i64 a0_1, .slice A0_2 l0_2.length c0_2] 47 ?_; intro gb282 hg w7 hbox hb; have n0_ := Bb HB hb; have n1_ := am (hbox); have n2_ := Gl HB hg; have n3_ := Gl HB hg; clear HB; revert n0_ n1_ n2_ n3_; intro HB BK282 GW282 GE282; clear hb hbox hg; obtain ⟨hcz8_0, hcz8_1, hcz8_2, hfz8_0, hfz8_1, hfz8_2⟩ := cf3 (w := w7) BK282) | ((with_reducible refine gate_callee (f := 29) rfl ?_); refine gL (some 21) Try.func29 #[.agg #[.int .i64 a0_0, .int .i64 a0_1, .slice A0_2 l0_2.length c0_2], .int .i64 1048576] ?_; (with_reducible refine (laws_szCounting.calls a0_0 a0_1 _ _ l0_2 1048576 t283 _ ?side1 ?side2 A5.out).mono ?_); (case side1 => exact Cz (Kd.C_below HR0_2.out HB.out)); (case side2 => exact HC0_2.out); rintro e w9 ⟨rfl, hb⟩; refine ⟨_, rfl, ?_⟩; have n0_ := Kb BK282 hb; have n1_ := Bc HB hb; clear BK282 HB; revert n0_ n1_; intro BK282 HB; (try clear hb); (try clear hb2); (try clear hk); (try clear hi)))
   go_ret
   exact ⟨eZ, Bq⟩
  ·rw [if_neg c6] at H
   have c6b0 : decide (t283 < 0) = false := decide_eq_false c6; clear c6; replace H := Option.bind_eq_some_iff.mp H; obtain ⟨⟨t284, t285, t286⟩, A100, H⟩ := H; (try dsimp -simprocs only at H); have A10 := am A100; clear A100; replace H := Option.bind_eq_some_iff.mp H; obtain ⟨⟨t289, t290, t291, t294⟩, A110, H⟩ := H; (try dsimp -simprocs only at H); have A11 := am A110; clear A110; replace H := Option.bind_eq_some_iff.mp H; obtain ⟨⟨t296, t297, t298⟩, A120, H⟩ := H; (try dsimp -simprocs only at H); have A12 := am A120; clear A120; replace H := Option.bind_eq_some_iff.mp H; obtain ⟨⟨t302, t303, t304, t307⟩, A130, H⟩ := H; (try dsimp -simprocs only at H); have A13 := am A130; clear A130; have HC14 := am H; clear H
   go_enter Try.func6, Try.ntmps6
   go_upto_region 10 with (first | ((with_reducible refine gate_dst (N := 2) rfl ?_); refine bE 2 #[.int .i64 a0_0, .int .i64 a0_1, .slice A0_2 l0_2.length c0_2] 47 ?_; intro gb282 hg w15 hbox hb; have n0_ := Bb HB hb; have n1_ := am (hbox); have n2_ := Gl HB hg; have n3_ := Gl HB hg; clear HB; revert n0_ n1_ n2_ n3_; intro HB BK282 GW282 GE282; clear hb hbox hg; obtain ⟨hcz16_0, hcz16_1, hcz16_2, hfz16_0, hfz16_1, hfz16_2⟩ := cf3 (w := w15) BK282) | ((with_reducible refine gate_callee (f := 29) rfl ?_); refine gL (some 21) Try.func29 #[.agg #[.int .i64 a0_0, .int .i64 a0_1, .slice A0_2 l0_2.length c0_2], .int .i64 1048576] ?_; (with_reducible refine (laws_szCounting.calls a0_0 a0_1 _ _ l0_2 1048576 t283 _ ?side1 ?side2 A5.out).mono ?_); (case side1 => exact Cz (Kd.C_below HR0_2.out HB.out)); (case side2 => exact HC0_2.out); rintro e w17 ⟨rfl, hb⟩; refine ⟨_, rfl, ?_⟩; have n0_ := Kb BK282 hb; have n1_ := Bc HB hb; clear BK282 HB; revert n0_ n1_; intro BK282 HB; (try clear hb); (try clear hb2); (try clear hk); (try clear hi); obtain ⟨hcz18_0, hcz18_1, hcz18_2, hfz18_0, hfz18_1, hfz18_2⟩ := cf3 (w := w17) BK282) | ((with_reducible refine gate_callee (f := 31) rfl ?_); refine gL (some 26) Try.func31 #[.agg #[.int .i64 a0_0, .int .i64 a0_1, .slice A0_2 l0_2.length c0_2]] ?_; (with_reducible refine (laws_toCounting.calls k a0_0 a0_1 _ _ l0_2 t284 t285 t286 _ ?side1 ?side2 A10.out).mono ?_); (case side1 => exact Cz (Kd.C_below HR0_2.out HB.out)); (case side2 => exact HC0_2.out); rintro e w19 ⟨v287, rfl, ho0, hb⟩; refine ⟨_, rfl, ?_⟩; have n0_ := Rm ho0 HB; have n1_ := Kb BK282 hb; have n2_ := Bc HB hb; clear BK282 HB; revert n0_ n1_ n2_; intro HO288 BK282 HB; (try clear hb); (try clear hb2); (try clear hk); (try clear hi); (try clear ho0); obtain ⟨Ao20, co20, eo20⟩ := Kd.R_slice HO288.out; subst eo20) | ((with_reducible refine gate_callee (f := 30) rfl ?_); refine gL (some 28) Try.func30 #[.agg #[.int .i64 t284, .int .i64 t285, .slice Ao20 t286.length co20], .string a1] ?_; (with_reducible refine (spec_CountingRemove.calls k t284 t285 _ _ t286 a1 t289 t290 t291 t294 _ ?side1 ?side2 A11.out).mono ?_); (case side1 => exact Cz ((Kd.R_reads' HO288.out).2.2)); (case side2 => exact (Kd.R_reads' HO288.out).2.1); rintro e w21 ⟨v292, rfl, ho0, hb⟩; refine ⟨_, rfl, ?_⟩; have n0_ := Re HO288 (Kd.R_base ho0) hb; have n1_ := Rm (Kd.R_new' ho0 (Kd.R_lt (Rz HO288.out))) HB; have n2_ := Kb BK282 hb; have n3_ := Bc HB hb; clear HO288 BK282 HB; revert n0_ n1_ n2_ n3_; intro HO288 HO293 BK282 HB; (try clear hb); (try clear hb2); (try clear hk); (try clear hi); (try clear ho0)) | ((with_reducible refine gate_dst (N := 6) rfl ?_); refine bE 6 #[.int .i64 0, .int .i64 0, .slice none 0 0] 49 ?_; intro gb295 hg w22 hbox hb; have n0_ := Rb HO288 hb; have n1_ := Rb HO293 hb; have n2_ := Kb BK282 hb; have n3_ := Bc HB hb; have n4_ := am (hbox); have n5_ := Gm HB hg; have n6_ := Gm HB hg; have n7_ := Nl BK282 hg; have n8_ := Ng BK282 hg; clear HO288 HO293 BK282 HB; revert n0_ n1_ n2_ n3_ n4_ n5_ n6_ n7_ n8_; intro HO288 HO293 BK282 HB BK295 GW295 GE295 NB282_295 NB295_282; clear hb hbox hg; have hnb23 := NB295_282.out; have hnc23 := NB282_295.out; obtain ⟨hcz24_0, hcz24_1, hcz24_2, hfz24_0, hfz24_1, hfz24_2⟩ := cf3 (w := w22) BK295; obtain ⟨Ao25, co25, eo25⟩ := Kd.R_slice HO293.out; subst eo25; obtain ⟨hcz26_0, hcz26_1, hcz26_2, hfz26_0, hfz26_1, hfz26_2⟩ := cf3 (w := w22) BK282) | ((with_reducible refine gate_callee (f := 31) rfl ?_); refine gL (some 32) Try.func31 #[.agg #[.int .i64 a0_0, .int .i64 a0_1, .slice A0_2 l0_2.length c0_2]] ?_; (with_reducible refine (laws_toCounting.calls k a0_0 a0_1 _ _ l0_2 t296 t297 t298 _ ?side1 ?side2 A12.out).mono ?_); (case side1 => exact Kd.C_below HR0_2.out (Bq)); (case side2 => exact HC0_2.out); rintro e w27 ⟨v299, rfl, ho0, hb⟩; refine ⟨_, rfl, ?_⟩; have n0_ := am (Kd.R_elder' (Rz (Kd.R_mono (Kd.R_far (p := ⟨gb295, 2, none⟩) (Kd.R_far (p := ⟨gb295, 1, none⟩) (Kd.R_far (p := ⟨gb295, 0, none⟩) (Kd.R_types HO288.out BK295.out (by decide)) (fun _ hk => hk.2) (.int .i64 t289)) (fun _ hk => hk.2) (.int .i64 t290)) (fun _ hk => hk.2) (.slice Ao25 t291.length co25)) (fun _ h_ => h_.1))) (Kd.R_base ho0) hb); have n1_ := am (Kd.R_elder' (Rz (Kd.R_mono (Kd.R_far (p := ⟨gb295, 2, none⟩) (Kd.R_far (p := ⟨gb295, 1, none⟩) (Kd.R_far (p := ⟨gb295, 0, none⟩) (Kd.R_types HO293.out BK295.out (by decide)) (fun _ hk => hk.2) (.int .i64 t289)) (fun _ hk => hk.2) (.int .i64 t290)) (fun _ hk => hk.2) (.slice Ao25 t291.length co25)) (fun _ h_ => h_.1))) (Kd.R_base ho0) hb); have n2_ := am (Kd.R_lower (Kd.R_new' (Kd.R_new' ho0 (Kd.R_lt (Rz (Kd.R_mono (Kd.R_far (p := ⟨gb295, 2, none⟩) (Kd.R_far (p := ⟨gb295, 1, none⟩) (Kd.R_far (p := ⟨gb295, 0, none⟩) (Kd.R_types HO288.out BK295.out (by decide)) (fun _ hk => hk.2) (.int .i64 t289)) (fun _ hk => hk.2) (.int .i64 t290)) (fun _ hk => hk.2) (.slice Ao25 t291.length co25)) (fun _ h_ => h_.1))))) (Kd.R_lt (Rz (Kd.R_mono (Kd.R_far (p := ⟨gb295, 2, none⟩) (Kd.R_far (p := ⟨gb295, 1, none⟩) (Kd.R_far (p := ⟨gb295, 0, none⟩) (Kd.R_types HO293.out BK295.out (by decide)) (fun _ hk => hk.2) (.int .i64 t289)) (fun _ hk => hk.2) (.int .i64 t290)) (fun _ hk => hk.2) (.slice Ao25 t291.length co25)) (fun _ h_ => h_.1))))) (below_size (w := w) (Bq))); have n3_ := am (blk_below (g := gb282) (o := .cells #[.int .i64 a0_0, .int .i64 a0_1, .slice A0_2 l0_2.length c0_2] 47 (0, 0)) (by (with_reducible repeat (first | refine blk_drewN ?_ _ | refine blk_drew ?_ | refine blk_alloc ?_ _)); refine blk_far ?_ NB282_295.out _; (with_reducible repeat (first | refine blk_drewN ?_ _ | refine blk_drew ?_ | refine blk_alloc ?_ _)); refine blk_far ?_ NB282_295.out _; (with_reducible repeat (first | refine blk_drewN ?_ _ | refine blk_drew ?_ | refine blk_alloc ?_ _)); refine blk_far ?_ NB282_295.out _; exact Kz BK282.out) hb); have n4_ := am (blk_below (g := gb295) (o := .cells #[.int .i64 t289, .int .i64 t290, .slice Ao25 t291.length co25] 49 (0, 0)) (by (with_reducible repeat (first | refine blk_drewN ?_ _ | refine blk_drew ?_ | refine blk_alloc ?_ _)); refine blk_put (cs := #[.int .i64 t289, .int .i64 t290, .slice none 0 0]) ?_ 2 _ rfl; (with_reducible repeat (first | refine blk_drewN ?_ _ | refine blk_drew ?_ | refine blk_alloc ?_ _)); refine blk_put (cs := #[.int .i64 t289, .int .i64 0, .slice none 0 0]) ?_ 1 _ rfl; (with_reducible repeat (first | refine blk_drewN ?_ _ | refine blk_drew ?_ | refine blk_alloc ?_ _)); refine blk_put (cs := #[.int .i64 0, .int .i64 0, .slice none 0 0]) ?_ 0 _ rfl; exact Kz BK295.out) hb); have n5_ := Bc HB hb; clear HO288 HO293 BK282 BK295 HB; revert n0_ n1_ n2_ n3_ n4_ n5_; intro HO288 HO293 HO300 BK282 BK295 HB; (try clear hb); (try clear hb2); (try clear hk); (try clear hi); (try clear ho0)) | ((with_reducible refine gate_dst (N := 8) rfl ?_); refine bE 8 #[.int .i64 0, .int .i64 0, .slice none 0 0] 49 ?_; intro gb301 hg w28 hbox hb; have n0_ := Rb HO288 hb; have n1_ := Rb HO293 hb; have n2_ := Rb HO300 hb; have n3_ := Kb BK282 hb; have n4_ := Kb BK295 hb; have n5_ := Bc HB hb; have n6_ := am (hbox); have n7_ := Gm HB hg; have n8_ := Gm HB hg; have n9_ := Nl BK282 hg; have n10_ := Ng BK282 hg; have n11_ := Nl BK295 hg; have n12_ := Ng BK295 hg; clear HO288 HO293 HO300 BK282 BK295 HB; revert n0_ n1_ n2_ n3_ n4_ n5_ n6_ n7_ n8_ n9_ n10_ n11_ n12_; intro HO288 HO293 HO300 BK282 BK295 HB BK301 GW301 GE301 NB282_301 NB301_282 NB295_301 NB301_295; clear hb hbox hg; have hnb29 := NB301_282.out; have hnc29 := NB282_301.out; have hnb30 := NB301_295.out; have hnc30 := NB295_301.out; obtain ⟨hcz31_0, hcz31_1, hcz31_2, hfz31_0, hfz31_1, hfz31_2⟩ := cf3 (w := w28) BK301; obtain ⟨Ao32, co32, eo32⟩ := Kd.R_slice HO300.out; subst eo32) | ((with_reducible refine gate_callee (f := 32) rfl ?_); refine gL (some 36) Try.func32 #[.agg #[.int .i64 t296, .int .i64 t297, .slice Ao32 t298.length co32], .string a1] ?_; (with_reducible refine (impl_CountingRemove.calls k t296 t297 _ _ t298 a1 t302 t303 t304 t307 _ ?side1 ?side2 A13.out).mono ?_); (case side1 => refine (Kd.R_reads' (e := 3) (base := w.heap.size) (ok := fun k_ => ((True ∧ some k_ ≠ (.slice Ao20 t286.length co20 : Value).ownBlock) ∧ some k_ ≠ (.slice Ao25 t291.length co25 : Value).ownBlock)) (n := t298.length) (c := co32) ?_).2.2; exact (Rz (Kd.R_mono (Kd.R_far (p := ⟨gb301, 2, none⟩) (Kd.R_far (p := ⟨gb301, 1, none⟩) (Kd.R_far (p := ⟨gb301, 0, none⟩) (Kd.R_types HO300.out BK301.out (by decide)) (fun _ hk => hk.2) (.int .i64 t296)) (fun _ hk => hk.2) (.int .i64 t297)) (fun _ hk => hk.2) (.slice Ao32 t298.length co32)) (fun _ h_ => h_.1)))); (case side2 => exact (Kd.R_reads' HO300.out).2.1); rintro e w33 ⟨v305, rfl, ho0, hb⟩; refine ⟨_, rfl, ?_⟩; have n0_ := am (Kd.R_elder' (Rz (Kd.R_mono (Kd.R_far (p := ⟨gb301, 2, none⟩) (Kd.R_far (p := ⟨gb301, 1, none⟩) (Kd.R_far (p := ⟨gb301, 0, none⟩) (Kd.R_types HO288.out BK301.out (by decide)) (fun _ hk => hk.2) (.int .i64 t296)) (fun _ hk => hk.2) (.int .i64 t297)) (fun _ hk => hk.2) (.slice Ao32 t298.length co32)) (fun _ h_ => h_.1))) (Kd.R_base ho0) hb); have n1_ := am (Kd.R_elder' (Rz (Kd.R_mono (Kd.R_far (p := ⟨gb301, 2, none⟩) (Kd.R_far (p := ⟨gb301, 1, none⟩) (Kd.R_far (p := ⟨gb301, 0, none⟩) (Kd.R_types HO293.out BK301.out (by decide)) (fun _ hk => hk.2) (.int .i64 t296)) (fun _ hk => hk.2) (.int .i64 t297)) (fun _ hk => hk.2) (.slice Ao32 t298.length co32)) (fun _ h_ => h_.1))) (Kd.R_base ho0) hb); have n2_ := am (Kd.R_elder' (Rz (Kd.R_mono (Kd.R_far (p := ⟨gb301, 2, none⟩) (Kd.R_far (p := ⟨gb301, 1, none⟩) (Kd.R_far (p := ⟨gb301, 0, none⟩) (Kd.R_types HO300.out BK301.out (by decide)) (fun _ hk => hk.2) (.int .i64 t296)) (fun _ hk => hk.2) (.int .i64 t297)) (fun _ hk => hk.2) (.slice Ao32 t298.length co32)) (fun _ h_ => h_.1))) (Kd.R_base ho0) hb); have n3_ := am (Kd.R_lower (Kd.R_new' (Kd.R_new' (Kd.R_new' ho0 (Kd.R_lt (Rz (Kd.R_mono (Kd.R_far (p := ⟨gb301, 2, none⟩) (Kd.R_far (p := ⟨gb301, 1, none⟩) (Kd.R_far (p := ⟨gb301, 0, none⟩) (Kd.R_types HO288.out BK301.out (by decide)) (fun _ hk => hk.2) (.int .i64 t296)) (fun _ hk => hk.2) (.int .i64 t297)) (fun _ hk => hk.2) (.slice Ao32 t298.length co32)) (fun _ h_ => h_.1))))) (Kd.R_lt (Rz (Kd.R_mono (Kd.R_far (p := ⟨gb301, 2, none⟩) (Kd.R_far (p := ⟨gb301, 1, none⟩) (Kd.R_far (p := ⟨gb301, 0, none⟩) (Kd.R_types HO293.out BK301.out (by decide)) (fun _ hk => hk.2) (.int .i64 t296)) (fun _ hk => hk.2) (.int .i64 t297)) (fun _ hk => hk.2) (.slice Ao32 t298.length co32)) (fun _ h_ => h_.1))))) (Kd.R_lt (Rz (Kd.R_mono (Kd.R_far (p := ⟨gb301, 2, none⟩) (Kd.R_far (p := ⟨gb301, 1, none⟩) (Kd.R_far (p := ⟨gb301, 0, none⟩) (Kd.R_types HO300.out BK301.out (by decide)) (fun _ hk => hk.2) (.int .i64 t296)) (fun _ hk => hk.2) (.int .i64 t297)) (fun _ hk => hk.2) (.slice Ao32 t298.length co32)) (fun _ h_ => h_.1))))) (below_size (w := w) (Bq))); have n4_ := am (blk_below (g := gb282) (o := .cells #[.int .i64 a0_0, .int .i64 a0_1, .slice A0_2 l0_2.length c0_2] 47 (0, 0)) (by (with_reducible repeat (first | refine blk_drewN ?_ _ | refine blk_drew ?_ | refine blk_alloc ?_ _)); refine blk_far ?_ NB282_301.out _; (with_reducible repeat (first | refine blk_drewN ?_ _ | refine blk_drew ?_ | refine blk_alloc ?_ _)); refine blk_far ?_ NB282_301.out _; (with_reducible repeat (first | refine blk_drewN ?_ _ | refine blk_drew ?_ | refine blk_alloc ?_ _)); refine blk_far ?_ NB282_301.out _; exact Kz BK282.out) hb); have n5_ := am (blk_below (g := gb295) (o := .cells #[.int .i64 t289, .int .i64 t290, .slice Ao25 t291.length co25] 49 (0, 0)) (by (with_reducible repeat (first | refine blk_drewN ?_ _ | refine blk_drew ?_ | refine blk_alloc ?_ _)); refine blk_far ?_ NB295_301.out _; (with_reducible repeat (first | refine blk_drewN ?_ _ | refine blk_drew ?_ | refine blk_alloc ?_ _)); refine blk_far ?_ NB295_301.out _; (with_reducible repeat (first | refine blk_drewN ?_ _ | refine blk_drew ?_ | refine blk_alloc ?_ _)); refine blk_far ?_ NB295_301.out _; exact Kz BK295.out) hb); have n6_ := am (blk_below (g := gb301) (o := .cells #[.int .i64 t296, .int .i64 t297, .slice Ao32 t298.length co32] 49 (0, 0)) (by (with_reducible repeat (first | refine blk_drewN ?_ _ | refine blk_drew ?_ | refine blk_alloc ?_ _)); refine blk_put (cs := #[.int .i64 t296, .int .i64 t297, .slice none 0 0]) ?_ 2 _ rfl; (with_reducible repeat (first | refine blk_drewN ?_ _ | refine blk_drew ?_ | refine blk_alloc ?_ _)); refine blk_put (cs := #[.int .i64 t296, .int .i64 0, .slice none 0 0]) ?_ 1 _ rfl; (with_reducible repeat (first | refine blk_drewN ?_ _ | refine blk_drew ?_ | refine blk_alloc ?_ _)); refine blk_put (cs := #[.int .i64 0, .int .i64 0, .slice none 0 0]) ?_ 0 _ rfl; exact Kz BK301.out) hb); have n7_ := Bc HB hb; clear HO288 HO293 HO300 BK282 BK295 BK301 HB; revert n0_ n1_ n2_ n3_ n4_ n5_ n6_ n7_; intro HO288 HO293 HO300 HO306 BK282 BK295 BK301 HB; (try clear hb); (try clear hb2); (try clear hk); (try clear hi); (try clear ho0)) | ((with_reducible refine gate_dst (N := 9) rfl ?_); refine bE 9 #[.int .i64 0, .int .i64 0, .slice none 0 0] 49 ?_; intro gb308 hg w34 hbox hb; have n0_ := Rb HO288 hb; have n1_ := Rb HO293 hb; have n2_ := Rb HO300 hb; have n3_ := Rb HO306 hb; have n4_ := Kb BK282 hb; have n5_ := Kb BK295 hb; have n6_ := Kb BK301 hb; have n7_ := Bc HB hb; have n8_ := am (hbox); have n9_ := Gm HB hg; have n10_ := Gm HB hg; have n11_ := Nl BK282 hg; have n12_ := Ng BK282 hg; have n13_ := Nl BK295 hg; have n14_ := Ng BK295 hg; have n15_ := Nl BK301 hg; have n16_ := Ng BK301 hg; clear HO288 HO293 HO300 HO306 BK282 BK295 BK301 HB; revert n0_ n1_ n2_ n3_ n4_ n5_ n6_ n7_ n8_ n9_ n10_ n11_ n12_ n13_ n14_ n15_ n16_; intro HO288 HO293 HO300 HO306 BK282 BK295 BK301 HB BK308 GW308 GE308 NB282_308 NB308_282 NB295_308 NB308_295 NB301_308 NB308_301; clear hb hbox hg; have hnb35 := NB308_282.out; have hnc35 := NB282_308.out; have hnb36 := NB308_295.out; have hnc36 := NB295_308.out; have hnb37 := NB308_301.out; have hnc37 := NB301_308.out; obtain ⟨hcz38_0, hcz38_1, hcz38_2, hfz38_0, hfz38_1, hfz38_2⟩ := cf3 (w := w34) BK308; obtain ⟨Ao39, co39, eo39⟩ := Kd.R_slice HO306.out; subst eo39))
   (try simp only [aP])
   go_cut [47] (fun v47 wc => ∃ (kq : Nat) (x47_13 : Bool), v47 = .bool x47_13 ∧ Aside0 (laws_FnExactCountingRemove.j0 kq a1 t294 t307 x47_13 a0_0 a0_1 l0_2 t289 t290 t291 t296 t297 t298 t302 t303 t304 = some r) ∧ Aside0 (kq ≤ k) ∧ Aside0 (Kd.R (Kd.int .i64) 3 wc w.heap.size (fun k_ => some k_ ≠ ((.slice Ao32 t298.length co32) : Value).ownBlock ∧ some k_ ≠ ((.slice Ao39 t304.length co39) : Value).ownBlock) (.slice Ao25 t291.length co25) t291) ∧ Aside0 (Kd.R (Kd.int .i64) 3 wc w.heap.size (fun k_ => some k_ ≠ ((.slice Ao25 t291.length co25) : Value).ownBlock ∧ some k_ ≠ ((.slice Ao39 t304.length co39) : Value).ownBlock) (.slice Ao32 t298.length co32) t298) ∧ Aside0 (Kd.R (Kd.int .i64) 3 wc w.heap.size (fun k_ => some k_ ≠ ((.slice Ao25 t291.length co25) : Value).ownBlock ∧ some k_ ≠ ((.slice Ao32 t298.length co32) : Value).ownBlock) (.slice Ao39 t304.length co39) t304) ∧ Aside0 (wc.heap[gb282]? = some (.cells #[.int .i64 a0_0, .int .i64 a0_1, (.slice A0_2 l0_2.length c0_2)] 47 (0, 0))) ∧ Aside0 (wc.heap[gb295]? = some (.cells #[.int .i64 t289, .int .i64 t290, (.slice Ao25 t291.length co25)] 49 (0, 0))) ∧ Aside0 (wc.heap[gb301]? = some (.cells #[.int .i64 t296, .int .i64 t297, (.slice Ao32 t298.length co32)] 49 (0, 0))) ∧ Aside0 (wc.heap[gb308]? = some (.cells #[.int .i64 t302, .int .i64 t303, (.slice Ao39 t304.length co39)] 49 (0, 0))) ∧ Aside0 (Below w.heap.size w wc))
   case first =>
    have H := HC14.out; clear HC14; replace H := Option.bind_eq_some_iff.mp H; obtain ⟨t309, A400, H⟩ := H; (try dsimp -simprocs only at H); have A40 := am A400; clear A400
    by_cases c41 : t309 = true
    ·subst c41
     rw [if_pos rfl] at H; have H' := am H; clear H; have hnb42 := NB308_282.out; have hnc42 := NB282_308.out; have hnb43 := NB308_295.out; have hnc43 := NB295_308.out; have hnb44 := NB308_301.out; have hnc44 := NB301_308.out; obtain ⟨hcz45_0, hcz45_1, hcz45_2, hfz45_0, hfz45_1, hfz45_2⟩ := cf3 (w := w34) BK308; have hnb46 := NB295_282.out; have hnc46 := NB282_295.out; have hnb47 := NB295_301.out; have hnc47 := NB301_295.out; obtain ⟨hcz48_0, hcz48_1, hcz48_2, hfz48_0, hfz48_1, hfz48_2⟩ := cf3 (w := w34) BK295
     go_wp2_with (first | ((with_reducible refine gate_callee (f := 33) rfl ?_); refine gL (some 41) Try.func33 #[.agg #[.int .i64 t302, .int .i64 t303, .slice Ao39 t304.length co39], .agg #[.int .i64 t289, .int .i64 t290, .slice Ao25 t291.length co25]] ?_; (with_reducible refine (laws_eqCounting.calls k t302 t303 _ _ t304 t289 t290 _ _ t291 true _ ?side1 ?side2 ?side3 ?side4 A40.out).mono ?_); (case side1 => refine (Kd.R_reads' (e := 3) (base := w.heap.size) (ok := fun k_ => (((True ∧ some k_ ≠ (.slice Ao20 t286.length co20 : Value).ownBlock) ∧ some k_ ≠ (.slice Ao25 t291.length co25 : Value).ownBlock) ∧ some k_ ≠ (.slice Ao32 t298.length co32 : Value).ownBlock)) (n := t304.length) (c := co39) ?_).2.2; exact (Rz (Kd.R_mono (Kd.R_far (p := ⟨gb308, 2, none⟩) (Kd.R_far (p := ⟨gb308, 1, none⟩) (Kd.R_far (p := ⟨gb308, 0, none⟩) (Kd.R_types HO306.out BK308.out (by decide)) (fun _ hk => hk.2) (.int .i64 t302)) (fun _ hk => hk.2) (.int .i64 t303)) (fun _ hk => hk.2) (.slice Ao39 t304.length co39)) (fun _ h_ => h_.1)))); (case side2 => exact (Kd.R_reads' HO306.out).2.1); (case side3 => refine (Kd.R_reads' (e := 3) (base := w.heap.size) (ok := fun k_ => (((True ∧ some k_ ≠ (.slice Ao20 t286.length co20 : Value).ownBlock) ∧ some k_ ≠ (.slice Ao32 t298.length co32 : Value).ownBlock) ∧ some k_ ≠ (.slice Ao39 t304.length co39 : Value).ownBlock)) (n := t291.length) (c := co25) ?_).2.2; exact (Rz (Kd.R_mono (Kd.R_far (p := ⟨gb308, 2, none⟩) (Kd.R_far (p := ⟨gb308, 1, none⟩) (Kd.R_far (p := ⟨gb308, 0, none⟩) (Kd.R_types HO293.out BK308.out (by decide)) (fun _ hk => hk.2) (.int .i64 t302)) (fun _ hk => hk.2) (.int .i64 t303)) (fun _ hk => hk.2) (.slice Ao39 t304.length co39)) (fun _ h_ => h_.1)))); (case side4 => exact (Kd.R_reads' HO293.out).2.1); rintro e w49 ⟨rfl, hb⟩; refine ⟨_, rfl, ?_⟩; have n0_ := am (Kd.R_below (Rz (Kd.R_mono (Kd.R_far (p := ⟨gb308, 2, none⟩) (Kd.R_far (p := ⟨gb308, 1, none⟩) (Kd.R_far (p := ⟨gb308, 0, none⟩) (Kd.R_types HO288.out BK308.out (by decide)) (fun _ hk => hk.2) (.int .i64 t302)) (fun _ hk => hk.2) (.int .i64 t303)) (fun _ hk => hk.2) (.slice Ao39 t304.length co39)) (fun _ h_ => h_.1))) hb); have n1_ := am (Kd.R_below (Rz (Kd.R_mono (Kd.R_far (p := ⟨gb308, 2, none⟩) (Kd.R_far (p := ⟨gb308, 1, none⟩) (Kd.R_far (p := ⟨gb308, 0, none⟩) (Kd.R_types HO293.out BK308.out (by decide)) (fun _ hk => hk.2) (.int .i64 t302)) (fun _ hk => hk.2) (.int .i64 t303)) (fun _ hk => hk.2) (.slice Ao39 t304.length co39)) (fun _ h_ => h_.1))) hb); have n2_ := am (Kd.R_below (Rz (Kd.R_mono (Kd.R_far (p := ⟨gb308, 2, none⟩) (Kd.R_far (p := ⟨gb308, 1, none⟩) (Kd.R_far (p := ⟨gb308, 0, none⟩) (Kd.R_types HO300.out BK308.out (by decide)) (fun _ hk => hk.2) (.int .i64 t302)) (fun _ hk => hk.2) (.int .i64 t303)) (fun _ hk => hk.2) (.slice Ao39 t304.length co39)) (fun _ h_ => h_.1))) hb); have n3_ := am (Kd.R_below (Rz (Kd.R_mono (Kd.R_far (p := ⟨gb308, 2, none⟩) (Kd.R_far (p := ⟨gb308, 1, none⟩) (Kd.R_far (p := ⟨gb308, 0, none⟩) (Kd.R_types HO306.out BK308.out (by decide)) (fun _ hk => hk.2) (.int .i64 t302)) (fun _ hk => hk.2) (.int .i64 t303)) (fun _ hk => hk.2) (.slice Ao39 t304.length co39)) (fun _ h_ => h_.1))) hb); have n4_ := am (blk_below (g := gb282) (o := .cells #[.int .i64 a0_0, .int .i64 a0_1, .slice A0_2 l0_2.length c0_2] 47 (0, 0)) (by (with_reducible repeat (first | refine blk_drewN ?_ _ | refine blk_drew ?_ | refine blk_alloc ?_ _)); refine blk_far ?_ NB282_308.out _; (with_reducible repeat (first | refine blk_drewN ?_ _ | refine blk_drew ?_ | refine blk_alloc ?_ _)); refine blk_far ?_ NB282_308.out _; (with_reducible repeat (first | refine blk_drewN ?_ _ | refine blk_drew ?_ | refine blk_alloc ?_ _)); refine blk_far ?_ NB282_308.out _; exact Kz BK282.out) hb); have n5_ := am (blk_below (g := gb295) (o := .cells #[.int .i64 t289, .int .i64 t290, .slice Ao25 t291.length co25] 49 (0, 0)) (by (with_reducible repeat (first | refine blk_drewN ?_ _ | refine blk_drew ?_ | refine blk_alloc ?_ _)); refine blk_far ?_ NB295_308.out _; (with_reducible repeat (first | refine blk_drewN ?_ _ | refine blk_drew ?_ | refine blk_alloc ?_ _)); refine blk_far ?_ NB295_308.out _; (with_reducible repeat (first | refine blk_drewN ?_ _ | refine blk_drew ?_ | refine blk_alloc ?_ _)); refine blk_far ?_ NB295_308.out _; exact Kz BK295.out) hb); have n6_ := am (blk_below (g := gb301) (o := .cells #[.int .i64 t296, .int .i64 t297, .slice Ao32 t298.length co32] 49 (0, 0)) (by (with_reducible repeat (first | refine blk_drewN ?_ _ | refine blk_drew ?_ | refine blk_alloc ?_ _)); refine blk_far ?_ NB301_308.out _; (with_reducible repeat (first | refine blk_drewN ?_ _ | refine blk_drew ?_ | refine blk_alloc ?_ _)); refine blk_far ?_ NB301_308.out _; (with_reducible repeat (first | refine blk_drewN ?_ _ | refine blk_drew ?_ | refine blk_alloc ?_ _)); refine blk_far ?_ NB301_308.out _; exact Kz BK301.out) hb); have n7_ := am (blk_below (g := gb308) (o := .cells #[.int .i64 t302, .int .i64 t303, .slice Ao39 t304.length co39] 49 (0, 0)) (by (with_reducible repeat (first | refine blk_drewN ?_ _ | refine blk_drew ?_ | refine blk_alloc ?_ _)); refine blk_put (cs := #[.int .i64 t302, .int .i64 t303, .slice none 0 0]) ?_ 2 _ rfl; (with_reducible repeat (first | refine blk_drewN ?_ _ | refine blk_drew ?_ | refine blk_alloc ?_ _)); refine blk_put (cs := #[.int .i64 t302, .int .i64 0, .slice none 0 0]) ?_ 1 _ rfl; (with_reducible repeat (first | refine blk_drewN ?_ _ | refine blk_drew ?_ | refine blk_alloc ?_ _)); refine blk_put (cs := #[.int .i64 0, .int .i64 0, .slice none 0 0]) ?_ 0 _ rfl; exact Kz BK308.out) hb); have n8_ := Bc HB hb; clear HO288 HO293 HO300 HO306 BK282 BK295 BK301 BK308 HB; revert n0_ n1_ n2_ n3_ n4_ n5_ n6_ n7_ n8_; intro HO288 HO293 HO300 HO306 BK282 BK295 BK301 BK308 HB; (try clear hb); (try clear hb2); (try clear hk); (try clear hi)))
     go_meet
     case rel => exact ⟨_, ((t307 != t294)), wZ, H', ⟨by first | omega | exact Nat.le_refl _⟩, ⟨Rz (Kd.R_mono HO293.out (fun _ hk => ⟨hk.1.2, hk.2⟩))⟩, ⟨Rz (Kd.R_mono HO300.out (fun _ hk => ⟨hk.1.2, hk.2⟩))⟩, ⟨Rz (Kd.R_mono HO306.out (fun _ hk => ⟨hk.1.2, hk.2⟩))⟩, ⟨Kz BK282.out⟩, ⟨Kz BK295.out⟩, ⟨Kz BK301.out⟩, ⟨Kz BK308.out⟩, ⟨Bq⟩⟩
    ·replace c41 := Bool.eq_false_iff.mpr c41
     subst c41
     rw [if_neg (show ¬ (false = true) by decide)] at H; exact absurd (H.trans (congrArg some HT_.out)) (laws_FnExactCountingRemove.j0.dead _ _ _ _ _ _ _ _ _ _ _ _ _ _ _ _)
   case rest =>
    clear HC14
    try clear c2
    try clear p2
    try clear c3
    try clear c3b0
    try clear c3b1
    try clear c4
    try clear c6
    try clear c6b0
    try clear c23
    try clear c29
    try clear c30
    try clear c31
    try clear c32
    try clear c33
    try clear c35
    try clear c36
    try clear c37
    try clear c41
    try clear c42
    try clear c43
    try clear c44
    try clear c46
    try clear c47
    try clear hcz16_0
    try clear hcz16_1
    try clear hcz16_2
    try clear hcz18_0
    try clear hcz18_1
    try clear hcz18_2
    try clear hcz24_0
    try clear hcz24_1
    try clear hcz24_2
    try clear hcz26_0
    try clear hcz26_1
    try clear hcz26_2
    try clear hcz31_0
    try clear hcz31_1
    try clear hcz31_2
    try clear hcz38_0
    try clear hcz38_1
    try clear hcz38_2
    try clear hcz45_0
    try clear hcz45_1
    try clear hcz45_2
    try clear hcz48_0
    try clear hcz48_1
    try clear hcz48_2
    try clear hcz8_0
    try clear hcz8_1
    try clear hcz8_2
    try clear hfz16_0
    try clear hfz16_1
    try clear hfz16_2
    try clear hfz18_0
    try clear hfz18_1
    try clear hfz18_2
    try clear hfz24_0
    try clear hfz24_1
    try clear hfz24_2
    try clear hfz26_0
    try clear hfz26_1
    try clear hfz26_2
    try clear hfz31_0
    try clear hfz31_1
    try clear hfz31_2
    try clear hfz38_0
    try clear hfz38_1
    try clear hfz38_2
    try clear hfz45_0
    try clear hfz45_1
    try clear hfz45_2
    try clear hfz48_0
    try clear hfz48_1
    try clear hfz48_2
    try clear hfz8_0
    try clear hfz8_1
    try clear hfz8_2
    obtain ⟨kq, x47_13, rfl, HA, HJ13, HO_296002, HO_302002, HO_309002, BK282, BK295, BK301, BK308, HB⟩ := hcut; cases kq with
    | zero => exact absurd HA.out (by simp [laws_FnExactCountingRemove.j0])
    | succ kj13 =>
     have H := HA.out; clear HA
     simp only [laws_FnExactCountingRemove.j0] at H
     by_cases c50 : x47_13 = true
     ·subst c50
      rw [if_pos rfl] at H; exact absurd (Option.some.inj H) (by rw [HT_.out]; decide)
     ·replace c50 := Bool.eq_false_iff.mpr c50
      subst c50
      rw [if_neg (show ¬ (false = true) by decide)] at H; replace H := Option.bind_eq_some_iff.mp H; obtain ⟨⟨t310, t311, t312⟩, A510, H⟩ := H; (try dsimp -simprocs only at H); have A51 := am A510; clear A510; replace H := Option.bind_eq_some_iff.mp H; obtain ⟨t315, A520, H⟩ := H; (try dsimp -simprocs only at H); have A52 := am A520; clear A520
      by_cases c53 : t315 = true
      ·subst c53
       rw [if_pos rfl] at H; replace H := Option.bind_eq_some_iff.mp H; obtain ⟨⟨t316, t317⟩, A540, H⟩ := H; (try dsimp -simprocs only at H); have A54 := am A540; clear A540; have HC55 := am H; clear H
       try go_wp2
       have n0_ := am (Kd.R_drew HO_296002.out); have n1_ := am (Kd.R_drew HO_302002.out); have n2_ := am (Kd.R_drew HO_309002.out); have n3_ := am (blk_drew BK282.out); have n4_ := am (blk_drew BK295.out); have n5_ := am (blk_drew BK301.out); have n6_ := am (blk_drew BK308.out); have n7_ := am (below_drew1 HB.out); clear HO_296002 HO_302002 HO_309002 BK282 BK295 BK301 BK308 HB; revert n0_ n1_ n2_ n3_ n4_ n5_ n6_ n7_; intro HO_296002 HO_302002 HO_309002 BK282 BK295 BK301 BK308 HB; refine start_ (n := 5) (S := fun w' => w'.cell? ⟨gb301, 0, none⟩ = some (.int .i64 t296) ∧ w'.cell? ⟨gb301, 1, none⟩ = some (.int .i64 t297) ∧ w'.cell? ⟨gb301, 2, none⟩ = some (.slice Ao32 t298.length co32) ∧ w'.cell? ⟨gb282, 0, none⟩ = some (.int .i64 a0_0) ∧ w'.cell? ⟨gb282, 1, none⟩ = some (.int .i64 a0_1) ∧ w'.cell? ⟨gb282, 2, none⟩ = some (.slice A0_2 l0_2.length c0_2)) (ds := []) (bA 5 0) (by kernel_rfl) rfl rfl ⟨cz BK301 0, cz BK301 1, cz BK301 2, cz BK282 0, cz BK282 1, cz BK282 2⟩ (fun hHeld => ?_); generalize wc.drew = w56 at HO_296002 HO_302002 HO_309002 BK282 BK295 BK301 BK308 HB hHeld ⊢; refine take_ (i := 0) (N := some 48) (v := ?_) (a' := ?_) (bA 5 1) rfl rfl (by kernel_rfl) (fun _ _ _ h => h) (Or.inl ⟨by rfl, ?_⟩) hHeld ?_ ?_
       rotate_left
       ·rintro w' ⟨s0, s1, s2, s3, s4, s5⟩
        go_simp
        with_reducible rfl
       rotate_left
       ·simp only [aP, i64_w, i32_w]
        rfl
       refine take_ (i := 1) (N := some 49) (v := ?_) (a' := ?_) (bA 5 3) rfl rfl (by kernel_rfl) (fun _ _ _ h => h) (Or.inl ⟨by rfl, ?_⟩) hHeld ?_ ?_
       rotate_left
       ·rintro w' ⟨s0, s1, s2, s3, s4, s5⟩
        go_simp
        with_reducible rfl
       rotate_left
       ·simp only [aP, i64_w, i32_w]
        rfl
       refine one_ (i := 2) (N := some 50) (bA 5 7) rfl rfl (by kernel_rfl) (by decide) (fun K hK => ?_); refine gZ Try.func31 #[.agg #[.int .i64 a0_0, .int .i64 a0_1, .slice A0_2 l0_2.length c0_2]] ?_
       with_reducible refine (laws_toCounting.calls kj13 a0_0 a0_1 _ _ l0_2 t310 t311 t312 _ ?side1 ?side2 A51.out).mono ?_
       (case side1 => exact Cz (Kd.C_below HR0_2.out HB.out))
       (case side2 => exact HC0_2.out)
       rintro e w57 ⟨v313, rfl, ho0, hb⟩; refine ⟨_, rfl, ?_⟩; have n0_ := Re HO_296002 (Kd.R_base ho0) hb; have n1_ := Re HO_302002 (Kd.R_base ho0) hb; have n2_ := Re HO_309002 (Kd.R_base ho0) hb; have n3_ := am (Kd.R_lower (Kd.R_new' (Kd.R_new' (Kd.R_new' ho0 (Kd.R_lt (Rz HO_296002.out))) (Kd.R_lt (Rz HO_302002.out))) (Kd.R_lt (Rz HO_309002.out))) (below_size (w := w) (Bq))); have n4_ := Kb BK282 hb; have n5_ := Kb BK295 hb; have n6_ := Kb BK301 hb; have n7_ := Kb BK308 hb; have n8_ := Bc HB hb; clear HO_296002 HO_302002 HO_309002 BK282 BK295 BK301 BK308 HB; revert n0_ n1_ n2_ n3_ n4_ n5_ n6_ n7_ n8_; intro HO_296002 HO_302002 HO_309002 HO314 BK282 BK295 BK301 BK308 HB
       (try clear hb)
       (try clear hb2)
       (try clear hk)
       (try clear hi)
       (try clear ho0)
       obtain ⟨Ao58, co58, eo58⟩ := Kd.R_slice HO314.out
       (first | subst eo58 | (injection eo58 with f1_ f2_ f3_; have f4_ := f1_.symm; have f5_ := f3_.symm; clear f1_ f2_ f3_; subst f4_; subst f5_))
       refine hK.out _ _ ⟨cz BK301 0, cz BK301 1, cz BK301 2, cz BK282 0, cz BK282 1, cz BK282 2⟩ (fun hHeld => ?_); clear hK K; refine norm_ (a' := ?_) ?_ ?_; rotate_left; show Act.put _ (some 50) _ = _; simp only [aP, i64_w, i32_w]; rfl; refine one_ (i := 3) (N := some 51) (bA 5 15) rfl rfl (by kernel_rfl) (by decide) (fun K hK => ?_); refine gZ Try.func33 #[.agg #[.int .i64 t296, .int .i64 t297, .slice Ao32 t298.length co32], .agg #[.int .i64 t310, .int .i64 t311, .slice Ao58 t312.length co58]] ?_
       with_reducible refine (laws_eqCounting.calls kj13 t296 t297 _ _ t298 t310 t311 _ _ t312 true _ ?side1 ?side2 ?side3 ?side4 A52.out).mono ?_
       (case side1 => exact Cz ((Kd.R_reads' HO_302002.out).2.2))
       (case side2 => exact (Kd.R_reads' HO_302002.out).2.1)
       (case side3 => exact Cz ((Kd.R_reads' HO314.out).2.2))
       (case side4 => exact (Kd.R_reads' HO314.out).2.1)
       rintro e w59 ⟨rfl, hb⟩; refine ⟨_, rfl, ?_⟩; have n0_ := Rb HO_296002 hb; have n1_ := Rb HO_302002 hb; have n2_ := Rb HO_309002 hb; have n3_ := Rb HO314 hb; have n4_ := Kb BK282 hb; have n5_ := Kb BK295 hb; have n6_ := Kb BK301 hb; have n7_ := Kb BK308 hb; have n8_ := Bc HB hb; clear HO_296002 HO_302002 HO_309002 HO314 BK282 BK295 BK301 BK308 HB; revert n0_ n1_ n2_ n3_ n4_ n5_ n6_ n7_ n8_; intro HO_296002 HO_302002 HO_309002 HO314 BK282 BK295 BK301 BK308 HB
       (try clear hb)
       (try clear hb2)
       (try clear hk)
       (try clear hi)
       refine hK.out _ _ ⟨cz BK301 0, cz BK301 1, cz BK301 2, cz BK282 0, cz BK282 1, cz BK282 2⟩ (fun hHeld => ?_); clear hK K; refine norm_ (a' := ?_) ?_ ?_; rotate_left; show Act.put _ (some 51) _ = _; simp only [aP, i64_w, i32_w]; rfl; refine pure_ (i := 4) (N := some 52) (v := ?_) (a' := ?_) (bA 5 31) rfl rfl (by kernel_rfl) (fun _ _ _ h => h) (Or.inl ⟨by rfl, ?_⟩) ?_ ?_
       rotate_left
       ·intro w'
        go_simp
        with_reducible rfl
       rotate_left
       ·simp only [aP, i64_w, i32_w]
        rfl
       refine done_ (by kernel_rfl) ?_; have hnb60 := NB301_282.out; have hnc60 := NB282_301.out; have hnb61 := NB301_295.out; have hnc61 := NB295_301.out; have hnb62 := NB301_308.out; have hnc62 := NB308_301.out; obtain ⟨hcz63_0, hcz63_1, hcz63_2, hfz63_0, hfz63_1, hfz63_2⟩ := cf3 (w := w59) BK301
       go_upto_region 16 with (first | ((with_reducible refine gate_callee (f := 34) rfl ?_); refine gL (some 55) Try.func34 #[.agg #[.int .i64 t296, .int .i64 t297, .slice Ao32 t298.length co32], .int .i64 1] ?_; (with_reducible refine (laws_markCounting.calls kj13 t296 t297 (fun k_ => some k_ = (.slice Ao32 t298.length co32 : Value).ownBlock) (.slice Ao32 t298.length co32) t298 1 t316 t317 w _ ?side1 ?side2 A54.out).mono ?_); (case side1 => repeat (first | (with_reducible first | exact HB.out | apply below_alloc | apply pw_below_drewN | apply below_drew1 | refine below_set ?_ GE282.out | refine below_set ?_ GE295.out | refine below_set ?_ GE301.out | refine below_set ?_ GE308.out) | exact HB.out)); (case side2 => exact Kd.R_tight rfl HO_302002.out); rintro e w64 ⟨rfl, hy0, hb, hkp⟩; refine ⟨_, rfl, ?_⟩; have n0_ := am (Kd.R_mono (ok' := fun k_ => some k_ ≠ (.slice Ao32 t298.length co32 : Value).ownBlock ∧ some k_ ≠ (.slice Ao39 t304.length co39 : Value).ownBlock ∧ some k_ ≠ (.slice Ao58 t312.length co58 : Value).ownBlock) (Kd.R_keptB (HO_296002.out) hkp (fun k_ hk_ hs_ => (hk_.1.1) hs_)) (fun k_ hk_ => ⟨hk_.1.1.1, hk_.1.1.2, hk_.1.2⟩)); have n1_ := am (Kd.R_reok rfl hy0 (fun k_ e_ => HO_302002.out.1 k_ e_)); have n2_ := am (Kd.R_mono (ok' := fun k_ => some k_ ≠ (.slice Ao25 t291.length co25 : Value).ownBlock ∧ some k_ ≠ (.slice Ao32 t298.length co32 : Value).ownBlock ∧ some k_ ≠ (.slice Ao58 t312.length co58 : Value).ownBlock) (Kd.R_keptB (HO_309002.out) hkp (fun k_ hk_ hs_ => (hk_.1.2) hs_)) (fun k_ hk_ => ⟨hk_.1.1.1, hk_.1.1.2, hk_.1.2⟩)); have n3_ := am (blk_kept (Kz BK282.out) hkp (fun hs_ => (fun e_ => (Kd.R_ne HO_302002.out BK282.out (by decide)) e_) hs_)); have n4_ := am (blk_kept (Kz BK295.out) hkp (fun hs_ => (fun e_ => (Kd.R_ne HO_302002.out BK295.out (by decide)) e_) hs_)); have n5_ := am (blk_kept (Kz BK301.out) hkp (fun hs_ => (fun e_ => (Kd.R_ne HO_302002.out BK301.out (by decide)) e_) hs_)); have n6_ := am (blk_kept (Kz BK308.out) hkp (fun hs_ => (fun e_ => (Kd.R_ne HO_302002.out BK308.out (by decide)) e_) hs_)); have n7_ := am (Kd.R_mono (ok' := fun k_ => some k_ ≠ (.slice Ao25 t291.length co25 : Value).ownBlock ∧ some k_ ≠ (.slice Ao32 t298.length co32 : Value).ownBlock ∧ some k_ ≠ (.slice Ao39 t304.length co39 : Value).ownBlock) (Kd.R_keptB (HO314.out) hkp (fun k_ hk_ hs_ => (hk_.1.2) hs_)) (fun k_ hk_ => ⟨hk_.1.1.1.2, hk_.1.1.2, hk_.1.2⟩)); have n8_ := am (hb); clear HO_296002 HO_302002 HO_309002 BK282 BK295 BK301 BK308 HO314 HB; revert n0_ n1_ n2_ n3_ n4_ n5_ n6_ n7_ n8_; intro HO_296002 HO_302002 HO_309002 BK282 BK295 BK301 BK308 HO314 HB; (try clear hb); (try clear hkp); (try clear hy0)))
       (try simp only [aP])
       go_cut [68] (fun v68 wc => ∃ (kq : Nat) (x68_54 : Bool), v68 = .bool x68_54 ∧ Aside0 (laws_FnExactCountingRemove.j1 kq a1 t294 x68_54 a0_0 a0_1 l0_2 t289 t290 t291 t302 t303 t304 = some r) ∧ Aside0 (kq ≤ kj13) ∧ Aside0 (Kd.R (Kd.int .i64) 3 wc w.heap.size (fun k_ => some k_ ≠ ((.slice Ao32 t298.length co32) : Value).ownBlock ∧ some k_ ≠ ((.slice Ao39 t304.length co39) : Value).ownBlock) (.slice Ao25 t291.length co25) t291) ∧ Aside0 (Kd.R (Kd.int .i64) 3 wc w.heap.size (fun k_ => some k_ ≠ ((.slice Ao25 t291.length co25) : Value).ownBlock ∧ some k_ ≠ ((.slice Ao39 t304.length co39) : Value).ownBlock) (.slice Ao32 t298.length co32) t317) ∧ Aside0 (Kd.R (Kd.int .i64) 3 wc w.heap.size (fun k_ => some k_ ≠ ((.slice Ao25 t291.length co25) : Value).ownBlock ∧ some k_ ≠ ((.slice Ao32 t298.length co32) : Value).ownBlock) (.slice Ao39 t304.length co39) t304) ∧ Aside0 (wc.heap[gb282]? = some (.cells #[.int .i64 a0_0, .int .i64 a0_1, (.slice A0_2 l0_2.length c0_2)] 47 (0, 0))) ∧ Aside0 (wc.heap[gb295]? = some (.cells #[.int .i64 t289, .int .i64 t290, (.slice Ao25 t291.length co25)] 49 (0, 0))) ∧ Aside0 (wc.heap[gb301]? = some (.cells #[.int .i64 t296, .int .i64 t297, (.slice Ao32 t298.length co32)] 49 (0, 0))) ∧ Aside0 (wc.heap[gb308]? = some (.cells #[.int .i64 t302, .int .i64 t303, (.slice Ao39 t304.length co39)] 49 (0, 0))) ∧ Aside0 (Below w.heap.size w wc))
       case first =>
        have H := HC55.out; clear HC55
        by_cases c65 : t316 < 0
        ·rw [if_pos c65] at H
         have c65b0 : decide (t316 < 0) = true := decide_eq_true c65; clear c65
         (first | rw [c65b0] | (simp only [i64_w, i32_w]; rw [c65b0]) | skip)
         exact absurd (H.trans (congrArg some HT_.out)) (laws_FnExactCountingRemove.j1.dead _ _ _ _ _ _ _ _ _ _ _ _)
        ·rw [if_neg c65] at H
         have c65b0 : decide (t316 < 0) = false := decide_eq_false c65; clear c65
         (first | rw [c65b0] | (simp only [i64_w, i32_w]; rw [c65b0]) | skip)
         replace H := Option.bind_eq_some_iff.mp H; obtain ⟨t318, A660, H⟩ := H; (try dsimp -simprocs only at H); have A66 := am A660; clear A660
         by_cases c67 : t318 = true
         ·subst c67
          rw [if_pos rfl] at H; have H' := am H; clear H; have hnb68 := NB308_282.out; have hnc68 := NB282_308.out; have hnb69 := NB308_295.out; have hnc69 := NB295_308.out; have hnb70 := NB308_301.out; have hnc70 := NB301_308.out; obtain ⟨hcz71_0, hcz71_1, hcz71_2, hfz71_0, hfz71_1, hfz71_2⟩ := cf3 (w := w64) BK308; have hnb72 := NB295_282.out; have hnc72 := NB282_295.out; have hnb73 := NB295_301.out; have hnc73 := NB301_295.out; obtain ⟨hcz74_0, hcz74_1, hcz74_2, hfz74_0, hfz74_1, hfz74_2⟩ := cf3 (w := w64) BK295
          go_wp2_with (first | (go_at_call 33; (with_reducible refine (laws_eqCounting.calls kj13 t302 t303 _ _ t304 t289 t290 _ _ t291 true _ ?side1 ?side2 ?side3 ?side4 A66.out).mono ?_); (case side1 => exact Cz ((Kd.R_reads' HO_309002.out).2.2)); (case side2 => exact (Kd.R_reads' HO_309002.out).2.1); (case side3 => exact Cz ((Kd.R_reads' HO_296002.out).2.2)); (case side4 => exact (Kd.R_reads' HO_296002.out).2.1); rintro e w75 ⟨rfl, hb⟩; have n0_ := Rb HO_296002 hb; have n1_ := Rb HO_302002 hb; have n2_ := Rb HO_309002 hb; have n3_ := Rb HO314 hb; have n4_ := Kb BK282 hb; have n5_ := Kb BK295 hb; have n6_ := Kb BK301 hb; have n7_ := Kb BK308 hb; have n8_ := Bc HB hb; clear HO_296002 HO_302002 HO_309002 HO314 BK282 BK295 BK301 BK308 HB; revert n0_ n1_ n2_ n3_ n4_ n5_ n6_ n7_ n8_; intro HO_296002 HO_302002 HO_309002 HO314 BK282 BK295 BK301 BK308 HB; (try clear hb); (try clear hb2); (try clear hk); (try clear hi)))
          go_meet
          case rel => exact ⟨_, ((t307 != t294)), wZ, H', ⟨by have := HJ13.out; first | omega | exact Nat.le_refl _⟩, ⟨Rz (Kd.R_mono HO_296002.out (fun _ hk => ⟨hk.1, hk.2.1⟩))⟩, ⟨Rz (Kd.R_mono HO_302002.out (fun _ hk => ⟨hk.1.1, hk.1.2⟩))⟩, ⟨Rz (Kd.R_mono HO_309002.out (fun _ hk => ⟨hk.1, hk.2.1⟩))⟩, ⟨Kz BK282.out⟩, ⟨Kz BK295.out⟩, ⟨Kz BK301.out⟩, ⟨Kz BK308.out⟩, ⟨Bq⟩⟩
         ·replace c67 := Bool.eq_false_iff.mpr c67
          subst c67
          rw [if_neg (show ¬ (false = true) by decide)] at H; exact absurd (H.trans (congrArg some HT_.out)) (laws_FnExactCountingRemove.j1.dead _ _ _ _ _ _ _ _ _ _ _ _)
       case rest =>
        clear HC55
        try clear c2
        try clear p2
        try clear c3
        try clear c3b0
        try clear c3b1
        try clear c4
        try clear c5
        try clear c6
        try clear c6b0
        try clear c7
        try clear c23
        try clear c29
        try clear c30
        try clear c31
        try clear c32
        try clear c33
        try clear c34
        try clear c35
        try clear c36
        try clear c37
        try clear c41
        try clear c42
        try clear c43
        try clear c44
        try clear c46
        try clear c47
        try clear c50
        try clear c53
        try clear c60
        try clear c61
        try clear c62
        try clear c65
        try clear c65b0
        try clear c67
        try clear c68
        try clear c69
        try clear c70
        try clear c72
        try clear c73
        try clear hcz16_0
        try clear hcz16_1
        try clear hcz16_2
        try clear hcz18_0
        try clear hcz18_1
        try clear hcz18_2
        try clear hcz24_0
        try clear hcz24_1
        try clear hcz24_2
        try clear hcz26_0
        try clear hcz26_1
        try clear hcz26_2
        try clear hcz31_0
        try clear hcz31_1
        try clear hcz31_2
        try clear hcz38_0
        try clear hcz38_1
        try clear hcz38_2
        try clear hcz45_0
        try clear hcz45_1
        try clear hcz45_2
        try clear hcz48_0
        try clear hcz48_1
        try clear hcz48_2
        try clear hcz63_0
        try clear hcz63_1
        try clear hcz63_2
        try clear hcz71_0
        try clear hcz71_1
        try clear hcz71_2
        try clear hcz74_0
        try clear hcz74_1
        try clear hcz74_2
        try clear hcz8_0
        try clear hcz8_1
        try clear hcz8_2
        try clear hfz16_0
        try clear hfz16_1
        try clear hfz16_2
        try clear hfz18_0
        try clear hfz18_1
        try clear hfz18_2
        try clear hfz24_0
        try clear hfz24_1
        try clear hfz24_2
        try clear hfz26_0
        try clear hfz26_1
        try clear hfz26_2
        try clear hfz31_0
        try clear hfz31_1
        try clear hfz31_2
        try clear hfz38_0
        try clear hfz38_1
        try clear hfz38_2
        try clear hfz45_0
        try clear hfz45_1
        try clear hfz45_2
        try clear hfz48_0
        try clear hfz48_1
        try clear hfz48_2
        try clear hfz63_0
        try clear hfz63_1
        try clear hfz63_2
        try clear hfz71_0
        try clear hfz71_1
        try clear hfz71_2
        try clear hfz74_0
        try clear hfz74_1
        try clear hfz74_2
        try clear hfz8_0
        try clear hfz8_1
        try clear hfz8_2
        try clear p2
        obtain ⟨kq, x68_54, rfl, HA, HJ54, HO_296002, HO_302002, HO_309002, BK282, BK295, BK301, BK308, HB⟩ := hcut; have hl302002_54 := (Kd.R_reads' HO_302002.out).1; rw [hl302002_54] at HO_302002
        (try simp only [hl302002_54])
        (try simp only [hl302002_54] at BK282)
        (try simp only [hl302002_54] at BK295)
        (try simp only [hl302002_54] at BK301)
        (try simp only [hl302002_54] at BK308)
        (try simp only [hl302002_54] at HO_296002)
        (try simp only [hl302002_54] at HO_309002)
        cases kq with
        | zero => exact absurd HA.out (by simp [laws_FnExactCountingRemove.j1])
        | succ kj54 =>
         have H := HA.out; clear HA
         simp only [laws_FnExactCountingRemove.j1] at H
         by_cases c76 : x68_54 = true
         ·subst c76
          rw [if_pos rfl] at H; exact absurd (Option.some.inj H) (by rw [HT_.out]; decide)
         ·replace c76 := Bool.eq_false_iff.mpr c76
          subst c76
          rw [if_neg (show ¬ (false = true) by decide)] at H; replace H := Option.bind_eq_some_iff.mp H; obtain ⟨⟨t319, t320⟩, A770, H⟩ := H; (try dsimp -simprocs only at H); have A77 := am A770; clear A770; replace H := Option.bind_eq_some_iff.mp H; obtain ⟨t321, A780, H⟩ := H; (try dsimp -simprocs only at H); have A78 := am A780; clear A780
          by_cases c79 : t321 < 0
          ·rw [if_pos c79] at H
           have c79b0 : decide (t321 < 0) = true := decide_eq_true c79; clear c79; exact absurd (Option.some.inj H) (by rw [HT_.out]; decide)
          ·rw [if_neg c79] at H
           have c79b0 : decide (t321 < 0) = false := decide_eq_false c79; clear c79
           by_cases c80 : t321 = t319
           ·rw [if_pos c80] at H
            have c80b0 : (t321 == t319) = true := beq_iff_eq.mpr c80; have c80b1 : (t321 != t319) = false := bne_eq_false_iff_eq.mpr c80; clear c80; replace H := Option.bind_eq_some_iff.mp H; obtain ⟨⟨t322, t323, t324⟩, A810, H⟩ := H; (try dsimp -simprocs only at H); have A81 := am A810; clear A810; replace H := Option.bind_eq_some_iff.mp H; obtain ⟨⟨t327, t328, t329, t332⟩, A820, H⟩ := H; (try dsimp -simprocs only at H); have A82 := am A820; clear A820; have HC83 := am H; clear H; have hnb84 := NB308_282.out; have hnc84 := NB282_308.out; have hnb85 := NB308_295.out; have hnc85 := NB295_308.out; have hnb86 := NB308_301.out; have hnc86 := NB301_308.out; obtain ⟨hcz87_0, hcz87_1, hcz87_2, hfz87_0, hfz87_1, hfz87_2⟩ := cf3 (w := wc) BK308
            go_upto_region 27 with (first | ((with_reducible refine gate_callee (f := 34) rfl ?_); refine gL (some 71) Try.func34 #[.agg #[.int .i64 t302, .int .i64 t303, .slice Ao39 t304.length co39], .int .i64 1] ?_; (with_reducible refine (laws_markCounting.calls kj54 t302 t303 (fun k_ => some k_ = (.slice Ao39 t304.length co39 : Value).ownBlock) (.slice Ao39 t304.length co39) t304 1 t319 t320 w _ ?side1 ?side2 A77.out).mono ?_); (case side1 => repeat (first | (with_reducible first | exact HB.out | apply below_alloc | apply pw_below_drewN | apply below_drew1 | refine below_set ?_ GE282.out | refine below_set ?_ GE295.out | refine below_set ?_ GE301.out | refine below_set ?_ GE308.out) | exact HB.out)); (case side2 => exact Kd.R_tight rfl HO_309002.out); rintro e w88 ⟨rfl, hy0, hb, hkp⟩; refine ⟨_, rfl, ?_⟩; have n0_ := am (Kd.R_mono (ok' := fun k_ => some k_ ≠ (.slice Ao32 t317.length co32 : Value).ownBlock ∧ some k_ ≠ (.slice Ao39 t304.length co39 : Value).ownBlock) (Kd.R_keptB (HO_296002.out) hkp (fun k_ hk_ hs_ => (hk_.2) hs_)) (fun k_ hk_ => ⟨hk_.1.1, hk_.1.2⟩)); have n1_ := am (Kd.R_mono (ok' := fun k_ => some k_ ≠ (.slice Ao25 t291.length co25 : Value).ownBlock ∧ some k_ ≠ (.slice Ao39 t304.length co39 : Value).ownBlock) (Kd.R_keptB (HO_302002.out) hkp (fun k_ hk_ hs_ => (hk_.2) hs_)) (fun k_ hk_ => ⟨hk_.1.1, hk_.1.2⟩)); have n2_ := am (Kd.R_reok rfl hy0 (fun k_ e_ => HO_309002.out.1 k_ e_)); have n3_ := am (blk_kept (Kz BK282.out) hkp (fun hs_ => (fun e_ => (Kd.R_ne HO_309002.out BK282.out (by decide)) e_) hs_)); have n4_ := am (blk_kept (Kz BK295.out) hkp (fun hs_ => (fun e_ => (Kd.R_ne HO_309002.out BK295.out (by decide)) e_) hs_)); have n5_ := am (blk_kept (Kz BK301.out) hkp (fun hs_ => (fun e_ => (Kd.R_ne HO_309002.out BK301.out (by decide)) e_) hs_)); have n6_ := am (blk_kept (Kz BK308.out) hkp (fun hs_ => (fun e_ => (Kd.R_ne HO_309002.out BK308.out (by decide)) e_) hs_)); have n7_ := am (hb); clear HO_296002 HO_302002 HO_309002 BK282 BK295 BK301 BK308 HB; revert n0_ n1_ n2_ n3_ n4_ n5_ n6_ n7_; intro HO_296002 HO_302002 HO_309002 BK282 BK295 BK301 BK308 HB; (try clear hb); (try clear hkp); (try clear hy0); obtain ⟨hcz89_0, hcz89_1, hcz89_2, hfz89_0, hfz89_1, hfz89_2⟩ := cf3 (w := w88) BK308) | ((with_reducible refine gate_callee (f := 35) rfl ?_); refine goesL_ (some 74) rfl rfl Try.func35 (by kernel_rfl) rfl #[.agg #[.int .i64 t302, .int .i64 t303, .slice Ao39 t320.length co39], .int .i64 1] rfl (by (try simp only [List.map_toArray, List.map_cons, List.map_nil]); first | done | (rw [show t320.length = t304.length from (Kd.R_reads' HO_309002.out).1.symm] <;> rfl) | rfl | (simp only [List.length_drop, List.length_take]; rfl)) ?_; (with_reducible refine (laws_heldCounting.calls kj54 t302 t303 _ _ t320 1 t321 _ ?side1 ?side2 A78.out).mono ?_); (case side1 => exact Cz ((Kd.R_reads' HO_309002.out).2.2)); (case side2 => rw [show t320.length = t304.length from (Kd.R_reads' HO_309002.out).1.symm]; exact (Kd.R_reads' HO_309002.out).2.1); rintro e w90 ⟨rfl, hb⟩; refine ⟨_, rfl, ?_⟩; have n0_ := Rb HO_296002 hb; have n1_ := Rb HO_302002 hb; have n2_ := Rb HO_309002 hb; have n3_ := Kb BK282 hb; have n4_ := Kb BK295 hb; have n5_ := Kb BK301 hb; have n6_ := Kb BK308 hb; have n7_ := Bc HB hb; clear HO_296002 HO_302002 HO_309002 BK282 BK295 BK301 BK308 HB; revert n0_ n1_ n2_ n3_ n4_ n5_ n6_ n7_; intro HO_296002 HO_302002 HO_309002 BK282 BK295 BK301 BK308 HB; (try clear hb); (try clear hb2); (try clear hk); (try clear hi); have hnb91 := NB282_295.out; have hnc91 := NB295_282.out; have hnb92 := NB282_301.out; have hnc92 := NB301_282.out; obtain ⟨hcz93_0, hcz93_1, hcz93_2, hfz93_0, hfz93_1, hfz93_2⟩ := cf3 (w := w90) BK282) | ((with_reducible refine gate_callee (f := 31) rfl ?_); refine gL (some 82) Try.func31 #[.agg #[.int .i64 a0_0, .int .i64 a0_1, .slice A0_2 l0_2.length c0_2]] ?_; (with_reducible refine (laws_toCounting.calls kj54 a0_0 a0_1 _ _ l0_2 t322 t323 t324 _ ?side1 ?side2 A81.out).mono ?_); (case side1 => exact Cz (Kd.C_below HR0_2.out HB.out)); (case side2 => exact HC0_2.out); rintro e w94 ⟨v325, rfl, ho0, hb⟩; refine ⟨_, rfl, ?_⟩; have n0_ := Re HO_296002 (Kd.R_base ho0) hb; have n1_ := Re HO_302002 (Kd.R_base ho0) hb; have n2_ := Re HO_309002 (Kd.R_base ho0) hb; have n3_ := am (Kd.R_lower (Kd.R_new' (Kd.R_new' (Kd.R_new' ho0 (Kd.R_lt (Rz HO_296002.out))) (Kd.R_lt (Rz HO_302002.out))) (Kd.R_lt (Rz HO_309002.out))) (below_size (w := w) (Bq))); have n4_ := Kb BK282 hb; have n5_ := Kb BK295 hb; have n6_ := Kb BK301 hb; have n7_ := Kb BK308 hb; have n8_ := Bc HB hb; clear HO_296002 HO_302002 HO_309002 BK282 BK295 BK301 BK308 HB; revert n0_ n1_ n2_ n3_ n4_ n5_ n6_ n7_ n8_; intro HO_296002 HO_302002 HO_309002 HO326 BK282 BK295 BK301 BK308 HB; (try clear hb); (try clear hb2); (try clear hk); (try clear hi); (try clear ho0); obtain ⟨Ao95, co95, eo95⟩ := Kd.R_slice HO326.out; subst eo95) | ((with_reducible refine gate_callee (f := 32) rfl ?_); refine gL (some 84) Try.func32 #[.agg #[.int .i64 t322, .int .i64 t323, .slice Ao95 t324.length co95], .string a1] ?_; (with_reducible refine (impl_CountingRemove.calls kj54 t322 t323 _ _ t324 a1 t327 t328 t329 t332 _ ?side1 ?side2 A82.out).mono ?_); (case side1 => exact Cz ((Kd.R_reads' HO326.out).2.2)); (case side2 => exact (Kd.R_reads' HO326.out).2.1); rintro e w96 ⟨v330, rfl, ho0, hb⟩; refine ⟨_, rfl, ?_⟩; have n0_ := Re HO_296002 (Kd.R_base ho0) hb; have n1_ := Re HO_302002 (Kd.R_base ho0) hb; have n2_ := Re HO_309002 (Kd.R_base ho0) hb; have n3_ := Re HO326 (Kd.R_base ho0) hb; have n4_ := am (Kd.R_lower (Kd.R_new' (Kd.R_new' (Kd.R_new' (Kd.R_new' ho0 (Kd.R_lt (Rz HO_296002.out))) (Kd.R_lt (Rz HO_302002.out))) (Kd.R_lt (Rz HO_309002.out))) (Kd.R_lt (Rz HO326.out))) (below_size (w := w) (Bq))); have n5_ := Kb BK282 hb; have n6_ := Kb BK295 hb; have n7_ := Kb BK301 hb; have n8_ := Kb BK308 hb; have n9_ := Bc HB hb; clear HO_296002 HO_302002 HO_309002 HO326 BK282 BK295 BK301 BK308 HB; revert n0_ n1_ n2_ n3_ n4_ n5_ n6_ n7_ n8_ n9_; intro HO_296002 HO_302002 HO_309002 HO326 HO331 BK282 BK295 BK301 BK308 HB; (try clear hb); (try clear hb2); (try clear hk); (try clear hi); (try clear ho0)) | ((with_reducible refine gate_dst (N := 14) rfl ?_); refine bE 14 #[.int .i64 0, .int .i64 0, .slice none 0 0] 49 ?_; intro gb333 hg w97 hbox hb; have n0_ := Rb HO_296002 hb; have n1_ := Rb HO_302002 hb; have n2_ := Rb HO_309002 hb; have n3_ := Rb HO326 hb; have n4_ := Rb HO331 hb; have n5_ := Kb BK282 hb; have n6_ := Kb BK295 hb; have n7_ := Kb BK301 hb; have n8_ := Kb BK308 hb; have n9_ := Bc HB hb; have n10_ := am (hbox); have n11_ := Gm HB hg; have n12_ := Gm HB hg; have n13_ := Nl BK282 hg; have n14_ := Ng BK282 hg; have n15_ := Nl BK295 hg; have n16_ := Ng BK295 hg; have n17_ := Nl BK301 hg; have n18_ := Ng BK301 hg; have n19_ := Nl BK308 hg; have n20_ := Ng BK308 hg; clear HO_296002 HO_302002 HO_309002 HO326 HO331 BK282 BK295 BK301 BK308 HB; revert n0_ n1_ n2_ n3_ n4_ n5_ n6_ n7_ n8_ n9_ n10_ n11_ n12_ n13_ n14_ n15_ n16_ n17_ n18_ n19_ n20_; intro HO_296002 HO_302002 HO_309002 HO326 HO331 BK282 BK295 BK301 BK308 HB BK333 GW333 GE333 NB282_333 NB333_282 NB295_333 NB333_295 NB301_333 NB333_301 NB308_333 NB333_308; clear hb hbox hg; have hnb98 := NB333_282.out; have hnc98 := NB282_333.out; have hnb99 := NB333_295.out; have hnc99 := NB295_333.out; have hnb100 := NB333_301.out; have hnc100 := NB301_333.out; have hnb101 := NB333_308.out; have hnc101 := NB308_333.out; obtain ⟨hcz102_0, hcz102_1, hcz102_2, hfz102_0, hfz102_1, hfz102_2⟩ := cf3 (w := w97) BK333; obtain ⟨Ao103, co103, eo103⟩ := Kd.R_slice HO331.out; subst eo103))
            (try simp only [aP])
            go_cut [95] (fun v95 wc => ∃ (kq : Nat) (x95_82 : Bool), v95 = .bool x95_82 ∧ Aside0 (laws_FnExactCountingRemove.j2 kq t319 x95_82 t302 t303 t320 = some r) ∧ Aside0 (kq ≤ kj54) ∧ Aside0 (Kd.R (Kd.int .i64) 3 wc w.heap.size (fun k_ => some k_ ≠ ((.slice Ao32 t317.length co32) : Value).ownBlock ∧ some k_ ≠ ((.slice Ao39 t304.length co39) : Value).ownBlock ∧ some k_ ≠ ((.slice Ao103 t329.length co103) : Value).ownBlock) (.slice Ao25 t291.length co25) t291) ∧ Aside0 (Kd.R (Kd.int .i64) 3 wc w.heap.size (fun k_ => some k_ ≠ ((.slice Ao25 t291.length co25) : Value).ownBlock ∧ some k_ ≠ ((.slice Ao39 t304.length co39) : Value).ownBlock ∧ some k_ ≠ ((.slice Ao103 t329.length co103) : Value).ownBlock) (.slice Ao32 t317.length co32) t317) ∧ Aside0 (Kd.R (Kd.int .i64) 3 wc w.heap.size (fun k_ => some k_ ≠ ((.slice Ao25 t291.length co25) : Value).ownBlock ∧ some k_ ≠ ((.slice Ao32 t317.length co32) : Value).ownBlock ∧ some k_ ≠ ((.slice Ao103 t329.length co103) : Value).ownBlock) (.slice Ao39 t304.length co39) t320) ∧ Aside0 (Kd.R (Kd.int .i64) 3 wc w.heap.size (fun k_ => some k_ ≠ ((.slice Ao25 t291.length co25) : Value).ownBlock ∧ some k_ ≠ ((.slice Ao32 t317.length co32) : Value).ownBlock ∧ some k_ ≠ ((.slice Ao39 t304.length co39) : Value).ownBlock) (.slice Ao103 t329.length co103) t329) ∧ Aside0 (wc.heap[gb282]? = some (.cells #[.int .i64 a0_0, .int .i64 a0_1, (.slice A0_2 l0_2.length c0_2)] 47 (0, 0))) ∧ Aside0 (wc.heap[gb295]? = some (.cells #[.int .i64 t289, .int .i64 t290, (.slice Ao25 t291.length co25)] 49 (0, 0))) ∧ Aside0 (wc.heap[gb301]? = some (.cells #[.int .i64 t296, .int .i64 t297, (.slice Ao32 t317.length co32)] 49 (0, 0))) ∧ Aside0 (wc.heap[gb308]? = some (.cells #[.int .i64 t302, .int .i64 t303, (.slice Ao39 t304.length co39)] 49 (0, 0))) ∧ Aside0 (wc.heap[gb333]? = some (.cells #[.int .i64 t327, .int .i64 t328, (.slice Ao103 t329.length co103)] 49 (0, 0))) ∧ Aside0 (Below w.heap.size w wc))
            case first =>
             have H := HC83.out; clear HC83; replace H := Option.bind_eq_some_iff.mp H; obtain ⟨t334, A1040, H⟩ := H; (try dsimp -simprocs only at H); have A104 := am A1040; clear A1040
             by_cases c105 : t334 = true
             ·subst c105
              rw [if_pos rfl] at H; have H' := am H; clear H; have hnb106 := NB333_282.out; have hnc106 := NB282_333.out; have hnb107 := NB333_295.out; have hnc107 := NB295_333.out; have hnb108 := NB333_301.out; have hnc108 := NB301_333.out; have hnb109 := NB333_308.out; have hnc109 := NB308_333.out; obtain ⟨hcz110_0, hcz110_1, hcz110_2, hfz110_0, hfz110_1, hfz110_2⟩ := cf3 (w := w97) BK333; have hnb111 := NB295_282.out; have hnc111 := NB282_295.out; have hnb112 := NB295_301.out; have hnc112 := NB301_295.out; have hnb113 := NB295_308.out; have hnc113 := NB308_295.out; obtain ⟨hcz114_0, hcz114_1, hcz114_2, hfz114_0, hfz114_1, hfz114_2⟩ := cf3 (w := w97) BK295
              go_wp2_with (first | ((with_reducible refine gate_callee (f := 33) rfl ?_); refine gL (some 89) Try.func33 #[.agg #[.int .i64 t327, .int .i64 t328, .slice Ao103 t329.length co103], .agg #[.int .i64 t289, .int .i64 t290, .slice Ao25 t291.length co25]] ?_; (with_reducible refine (laws_eqCounting.calls kj54 t327 t328 _ _ t329 t289 t290 _ _ t291 true _ ?side1 ?side2 ?side3 ?side4 A104.out).mono ?_); (case side1 => refine (Kd.R_reads' (e := 3) (base := w.heap.size) (ok := fun k_ => ((((True ∧ some k_ ≠ (.slice Ao25 t291.length co25 : Value).ownBlock) ∧ some k_ ≠ (.slice Ao32 t317.length co32 : Value).ownBlock) ∧ some k_ ≠ (.slice Ao39 t304.length co39 : Value).ownBlock) ∧ some k_ ≠ (.slice Ao95 t324.length co95 : Value).ownBlock)) (n := t329.length) (c := co103) ?_).2.2; exact (Rz (Kd.R_mono (Kd.R_far (p := ⟨gb333, 2, none⟩) (Kd.R_far (p := ⟨gb333, 1, none⟩) (Kd.R_far (p := ⟨gb333, 0, none⟩) (Kd.R_types HO331.out BK333.out (by decide)) (fun _ hk => hk.2) (.int .i64 t327)) (fun _ hk => hk.2) (.int .i64 t328)) (fun _ hk => hk.2) (.slice Ao103 t329.length co103)) (fun _ h_ => h_.1)))); (case side2 => exact (Kd.R_reads' HO331.out).2.1); (case side3 => refine (Kd.R_reads' (e := 3) (base := w.heap.size) (ok := fun k_ => (((some k_ ≠ (.slice Ao32 t317.length co32 : Value).ownBlock ∧ some k_ ≠ (.slice Ao39 t304.length co39 : Value).ownBlock) ∧ some k_ ≠ (.slice Ao95 t324.length co95 : Value).ownBlock) ∧ some k_ ≠ (.slice Ao103 t329.length co103 : Value).ownBlock)) (n := t291.length) (c := co25) ?_).2.2; exact (Rz (Kd.R_mono (Kd.R_far (p := ⟨gb333, 2, none⟩) (Kd.R_far (p := ⟨gb333, 1, none⟩) (Kd.R_far (p := ⟨gb333, 0, none⟩) (Kd.R_types HO_296002.out BK333.out (by decide)) (fun _ hk => hk.2) (.int .i64 t327)) (fun _ hk => hk.2) (.int .i64 t328)) (fun _ hk => hk.2) (.slice Ao103 t329.length co103)) (fun _ h_ => h_.1)))); (case side4 => exact (Kd.R_reads' HO_296002.out).2.1); rintro e w115 ⟨rfl, hb⟩; refine ⟨_, rfl, ?_⟩; have n0_ := am (Kd.R_below (Rz (Kd.R_mono (Kd.R_far (p := ⟨gb333, 2, none⟩) (Kd.R_far (p := ⟨gb333, 1, none⟩) (Kd.R_far (p := ⟨gb333, 0, none⟩) (Kd.R_types HO_296002.out BK333.out (by decide)) (fun _ hk => hk.2) (.int .i64 t327)) (fun _ hk => hk.2) (.int .i64 t328)) (fun _ hk => hk.2) (.slice Ao103 t329.length co103)) (fun _ h_ => h_.1))) hb); have n1_ := am (Kd.R_below (Rz (Kd.R_mono (Kd.R_far (p := ⟨gb333, 2, none⟩) (Kd.R_far (p := ⟨gb333, 1, none⟩) (Kd.R_far (p := ⟨gb333, 0, none⟩) (Kd.R_types HO_302002.out BK333.out (by decide)) (fun _ hk => hk.2) (.int .i64 t327)) (fun _ hk => hk.2) (.int .i64 t328)) (fun _ hk => hk.2) (.slice Ao103 t329.length co103)) (fun _ h_ => h_.1))) hb); have n2_ := am (Kd.R_below (Rz (Kd.R_mono (Kd.R_far (p := ⟨gb333, 2, none⟩) (Kd.R_far (p := ⟨gb333, 1, none⟩) (Kd.R_far (p := ⟨gb333, 0, none⟩) (Kd.R_types HO_309002.out BK333.out (by decide)) (fun _ hk => hk.2) (.int .i64 t327)) (fun _ hk => hk.2) (.int .i64 t328)) (fun _ hk => hk.2) (.slice Ao103 t329.length co103)) (fun _ h_ => h_.1))) hb); have n3_ := am (Kd.R_below (Rz (Kd.R_mono (Kd.R_far (p := ⟨gb333, 2, none⟩) (Kd.R_far (p := ⟨gb333, 1, none⟩) (Kd.R_far (p := ⟨gb333, 0, none⟩) (Kd.R_types HO326.out BK333.out (by decide)) (fun _ hk => hk.2) (.int .i64 t327)) (fun _ hk => hk.2) (.int .i64 t328)) (fun _ hk => hk.2) (.slice Ao103 t329.length co103)) (fun _ h_ => h_.1))) hb); have n4_ := am (Kd.R_below (Rz (Kd.R_mono (Kd.R_far (p := ⟨gb333, 2, none⟩) (Kd.R_far (p := ⟨gb333, 1, none⟩) (Kd.R_far (p := ⟨gb333, 0, none⟩) (Kd.R_types HO331.out BK333.out (by decide)) (fun _ hk => hk.2) (.int .i64 t327)) (fun _ hk => hk.2) (.int .i64 t328)) (fun _ hk => hk.2) (.slice Ao103 t329.length co103)) (fun _ h_ => h_.1))) hb); have n5_ := am (blk_below (g := gb282) (o := .cells #[.int .i64 a0_0, .int .i64 a0_1, .slice A0_2 l0_2.length c0_2] 47 (0, 0)) (by (with_reducible repeat (first | refine blk_drewN ?_ _ | refine blk_drew ?_ | refine blk_alloc ?_ _)); refine blk_far ?_ NB282_333.out _; (with_reducible repeat (first | refine blk_drewN ?_ _ | refine blk_drew ?_ | refine blk_alloc ?_ _)); refine blk_far ?_ NB282_333.out _; (with_reducible repeat (first | refine blk_drewN ?_ _ | refine blk_drew ?_ | refine blk_alloc ?_ _)); refine blk_far ?_ NB282_333.out _; exact Kz BK282.out) hb); have n6_ := am (blk_below (g := gb295) (o := .cells #[.int .i64 t289, .int .i64 t290, .slice Ao25 t291.length co25] 49 (0, 0)) (by (with_reducible repeat (first | refine blk_drewN ?_ _ | refine blk_drew ?_ | refine blk_alloc ?_ _)); refine blk_far ?_ NB295_333.out _; (with_reducible repeat (first | refine blk_drewN ?_ _ | refine blk_drew ?_ | refine blk_alloc ?_ _)); refine blk_far ?_ NB295_333.out _; (with_reducible repeat (first | refine blk_drewN ?_ _ | refine blk_drew ?_ | refine blk_alloc ?_ _)); refine blk_far ?_ NB295_333.out _; exact Kz BK295.out) hb); have n7_ := am (blk_below (g := gb301) (o := .cells #[.int .i64 t296, .int .i64 t297, .slice Ao32 t317.length co32] 49 (0, 0)) (by (with_reducible repeat (first | refine blk_drewN ?_ _ | refine blk_drew ?_ | refine blk_alloc ?_ _)); refine blk_far ?_ NB301_333.out _; (with_reducible repeat (first | refine blk_drewN ?_ _ | refine blk_drew ?_ | refine blk_alloc ?_ _)); refine blk_far ?_ NB301_333.out _; (with_reducible repeat (first | refine blk_drewN ?_ _ | refine blk_drew ?_ | refine blk_alloc ?_ _)); refine blk_far ?_ NB301_333.out _; exact Kz BK301.out) hb); have n8_ := am (blk_below (g := gb308) (o := .cells #[.int .i64 t302, .int .i64 t303, .slice Ao39 t304.length co39] 49 (0, 0)) (by (with_reducible repeat (first | refine blk_drewN ?_ _ | refine blk_drew ?_ | refine blk_alloc ?_ _)); refine blk_far ?_ NB308_333.out _; (with_reducible repeat (first | refine blk_drewN ?_ _ | refine blk_drew ?_ | refine blk_alloc ?_ _)); refine blk_far ?_ NB308_333.out _; (with_reducible repeat (first | refine blk_drewN ?_ _ | refine blk_drew ?_ | refine blk_alloc ?_ _)); refine blk_far ?_ NB308_333.out _; exact Kz BK308.out) hb); have n9_ := am (blk_below (g := gb333) (o := .cells #[.int .i64 t327, .int .i64 t328, .slice Ao103 t329.length co103] 49 (0, 0)) (by (with_reducible repeat (first | refine blk_drewN ?_ _ | refine blk_drew ?_ | refine blk_alloc ?_ _)); refine blk_put (cs := #[.int .i64 t327, .int .i64 t328, .slice none 0 0]) ?_ 2 _ rfl; (with_reducible repeat (first | refine blk_drewN ?_ _ | refine blk_drew ?_ | refine blk_alloc ?_ _)); refine blk_put (cs := #[.int .i64 t327, .int .i64 0, .slice none 0 0]) ?_ 1 _ rfl; (with_reducible repeat (first | refine blk_drewN ?_ _ | refine blk_drew ?_ | refine blk_alloc ?_ _)); refine blk_put (cs := #[.int .i64 0, .int .i64 0, .slice none 0 0]) ?_ 0 _ rfl; exact Kz BK333.out) hb); have n10_ := Bc HB hb; clear HO_296002 HO_302002 HO_309002 HO326 HO331 BK282 BK295 BK301 BK308 BK333 HB; revert n0_ n1_ n2_ n3_ n4_ n5_ n6_ n7_ n8_ n9_ n10_; intro HO_296002 HO_302002 HO_309002 HO326 HO331 BK282 BK295 BK301 BK308 BK333 HB; (try clear hb); (try clear hb2); (try clear hk); (try clear hi)))
              go_meet
              case rel => exact ⟨_, ((t332 != t294)), wZ, H', ⟨by have := HJ13.out; have := HJ54.out; first | omega | exact Nat.le_refl _⟩, ⟨by (try simp only [hl302002_54]); (with_reducible repeat (first | apply Kd.R_alloc | apply Kd.R_drewN | apply Kd.R_drew)); exact Kd.R_mono HO_296002.out (fun _ hk => ⟨hk.1.1.1, ⟨hk.1.1.2, hk.2⟩⟩)⟩, ⟨by (try simp only [hl302002_54]); (with_reducible repeat (first | apply Kd.R_alloc | apply Kd.R_drewN | apply Kd.R_drew)); exact Kd.R_mono HO_302002.out (fun _ hk => ⟨hk.1.1.1, ⟨hk.1.1.2, hk.2⟩⟩)⟩, ⟨by (try simp only [hl302002_54]); (with_reducible repeat (first | apply Kd.R_alloc | apply Kd.R_drewN | apply Kd.R_drew)); exact Kd.R_mono HO_309002.out (fun _ hk => ⟨hk.1.1.1, ⟨hk.1.1.2, hk.2⟩⟩)⟩, ⟨by (try simp only [hl302002_54]); (with_reducible repeat (first | apply Kd.R_alloc | apply Kd.R_drewN | apply Kd.R_drew)); exact Kd.R_mono HO331.out (fun _ hk => ⟨hk.1.1.1.2, ⟨hk.1.1.2, hk.1.2⟩⟩)⟩, ⟨by (try simp only [hl302002_54]); (with_reducible repeat (first | refine blk_drewN ?_ _ | refine blk_drew ?_ | refine blk_alloc ?_ _)); exact BK282.out⟩, ⟨by (try simp only [hl302002_54]); (with_reducible repeat (first | refine blk_drewN ?_ _ | refine blk_drew ?_ | refine blk_alloc ?_ _)); exact BK295.out⟩, ⟨by (try simp only [hl302002_54]); (with_reducible repeat (first | refine blk_drewN ?_ _ | refine blk_drew ?_ | refine blk_alloc ?_ _)); exact BK301.out⟩, ⟨by (try simp only [hl302002_54]); (with_reducible repeat (first | refine blk_drewN ?_ _ | refine blk_drew ?_ | refine blk_alloc ?_ _)); exact BK308.out⟩, ⟨by (try simp only [hl302002_54]); (with_reducible repeat (first | refine blk_drewN ?_ _ | refine blk_drew ?_ | refine blk_alloc ?_ _)); exact BK333.out⟩, ⟨Bq⟩⟩
             ·replace c105 := Bool.eq_false_iff.mpr c105
              subst c105
              rw [if_neg (show ¬ (false = true) by decide)] at H; exact absurd (H.trans (congrArg some HT_.out)) (laws_FnExactCountingRemove.j2.dead _ _ _ _ _)
            case rest =>
             clear HC83
             try clear c1
             try clear c2
             try clear p2
             try clear c3
             try clear c3b0
             try clear c3b1
             try clear c4
             try clear c5
             try clear c6
             try clear c6b0
             try clear c7
             try clear c8
             try clear c9
             try clear c10
             try clear c11
             try clear c23
             try clear c29
             try clear c30
             try clear c31
             try clear c32
             try clear c33
             try clear c34
             try clear c35
             try clear c36
             try clear c37
             try clear c41
             try clear c42
             try clear c43
             try clear c44
             try clear c46
             try clear c47
             try clear c50
             try clear c53
             try clear c60
             try clear c61
             try clear c62
             try clear c65
             try clear c65b0
             try clear c67
             try clear c68
             try clear c69
             try clear c70
             try clear c72
             try clear c73
             try clear c76
             try clear c79
             try clear c79b0
             try clear c80
             try clear c80b0
             try clear c80b1
             try clear c84
             try clear c85
             try clear c86
             try clear c91
             try clear c92
             try clear c98
             try clear c99
             try clear c100
             try clear c101
             try clear c105
             try clear c106
             try clear c107
             try clear c108
             try clear c109
             try clear c111
             try clear c112
             try clear c113
             try clear hcz102_0
             try clear hcz102_1
             try clear hcz102_2
             try clear hcz110_0
             try clear hcz110_1
             try clear hcz110_2
             try clear hcz114_0
             try clear hcz114_1
             try clear hcz114_2
             try clear hcz16_0
             try clear hcz16_1
             try clear hcz16_2
             try clear hcz18_0
             try clear hcz18_1
             try clear hcz18_2
             try clear hcz24_0
             try clear hcz24_1
             try clear hcz24_2
             try clear hcz26_0
             try clear hcz26_1
             try clear hcz26_2
             try clear hcz31_0
             try clear hcz31_1
             try clear hcz31_2
             try clear hcz38_0
             try clear hcz38_1
             try clear hcz38_2
             try clear hcz45_0
             try clear hcz45_1
             try clear hcz45_2
             try clear hcz48_0
             try clear hcz48_1
             try clear hcz48_2
             try clear hcz63_0
             try clear hcz63_1
             try clear hcz63_2
             try clear hcz71_0
             try clear hcz71_1
             try clear hcz71_2
             try clear hcz74_0
             try clear hcz74_1
             try clear hcz74_2
             try clear hcz87_0
             try clear hcz87_1
             try clear hcz87_2
             try clear hcz89_0
             try clear hcz89_1
             try clear hcz89_2
             try clear hcz8_0
             try clear hcz8_1
             try clear hcz8_2
             try clear hcz93_0
             try clear hcz93_1
             try clear hcz93_2
             try clear hfz102_0
             try clear hfz102_1
             try clear hfz102_2
             try clear hfz110_0
             try clear hfz110_1
             try clear hfz110_2
             try clear hfz114_0
             try clear hfz114_1
             try clear hfz114_2
             try clear hfz16_0
             try clear hfz16_1
             try clear hfz16_2
             try clear hfz18_0
             try clear hfz18_1
             try clear hfz18_2
             try clear hfz24_0
             try clear hfz24_1
             try clear hfz24_2
             try clear hfz26_0
             try clear hfz26_1
             try clear hfz26_2
             try clear hfz31_0
             try clear hfz31_1
             try clear hfz31_2
             try clear hfz38_0
             try clear hfz38_1
             try clear hfz38_2
             try clear hfz45_0
             try clear hfz45_1
             try clear hfz45_2
             try clear hfz48_0
             try clear hfz48_1
             try clear hfz48_2
             try clear hfz63_0
             try clear hfz63_1
             try clear hfz63_2
             try clear hfz71_0
             try clear hfz71_1
             try clear hfz71_2
             try clear hfz74_0
             try clear hfz74_1
             try clear hfz74_2
             try clear hfz87_0
             try clear hfz87_1
             try clear hfz87_2
             try clear hfz89_0
             try clear hfz89_1
             try clear hfz89_2
             try clear hfz8_0
             try clear hfz8_1
             try clear hfz8_2
             try clear hfz93_0
             try clear hfz93_1
             try clear hfz93_2
             try clear p2
             obtain ⟨kq, x95_82, rfl, HA, HJ82, HO_296002, HO_302002, HO_309002, HO_334002, BK282, BK295, BK301, BK308, BK333, HB⟩ := hcut; have hl309002_82 := (Kd.R_reads' HO_309002.out).1; rw [hl309002_82] at HO_309002
             (try simp only [hl309002_82])
             (try simp only [hl309002_82] at BK282)
             (try simp only [hl309002_82] at BK295)
             (try simp only [hl309002_82] at BK301)
             (try simp only [hl309002_82] at BK308)
             (try simp only [hl309002_82] at BK333)
             (try simp only [hl309002_82] at HO_296002)
             (try simp only [hl309002_82] at HO_302002)
             (try simp only [hl309002_82] at HO_334002)
             cases kq with
             | zero => exact absurd HA.out (by simp [laws_FnExactCountingRemove.j2])
             | succ kj82 =>
              have H := HA.out; clear HA
              simp only [laws_FnExactCountingRemove.j2] at H
              by_cases c116 : x95_82 = true
              ·subst c116
               rw [if_pos rfl] at H; exact absurd (Option.some.inj H) (by rw [HT_.out]; decide)
              ·replace c116 := Bool.eq_false_iff.mpr c116
               subst c116
               rw [if_neg (show ¬ (false = true) by decide)] at H; replace H := Option.bind_eq_some_iff.mp H; obtain ⟨t335, A1170, H⟩ := H; (try dsimp -simprocs only at H); have A117 := am A1170; clear A1170
               by_cases c118 : t335 < 0
               ·rw [if_pos c118] at H
                have c118b0 : decide (t335 < 0) = true := decide_eq_true c118; clear c118; exact absurd (Option.some.inj H) (by rw [HT_.out]; decide)
               ·rw [if_neg c118] at H
                have c118b0 : decide (t335 < 0) = false := decide_eq_false c118; clear c118
                by_cases c119 : t335 = t319
                ·rw [if_pos c119] at H
                 have c119b0 : (t335 == t319) = true := beq_iff_eq.mpr c119; have c119b1 : (t335 != t319) = false := bne_eq_false_iff_eq.mpr c119; clear c119; obtain rfl := Option.some.inj H; have hnb120 := NB308_282.out; have hnc120 := NB282_308.out; have hnb121 := NB308_295.out; have hnc121 := NB295_308.out; have hnb122 := NB308_301.out; have hnc122 := NB301_308.out; have hnb123 := NB308_333.out; have hnc123 := NB333_308.out; obtain ⟨hcz124_0, hcz124_1, hcz124_2, hfz124_0, hfz124_1, hfz124_2⟩ := cf3 (w := wc) BK308
                 go_wp2_with (first | ((with_reducible refine gate_callee (f := 35) rfl ?_); refine gL (some 98) Try.func35 #[.agg #[.int .i64 t302, .int .i64 t303, .slice Ao39 t320.length co39], .int .i64 1] ?_; (with_reducible refine (laws_heldCounting.calls kj82 t302 t303 _ _ t320 1 t335 _ ?side1 ?side2 A117.out).mono ?_); (case side1 => exact Cz ((Kd.R_reads' HO_309002.out).2.2)); (case side2 => exact (Kd.R_reads' HO_309002.out).2.1); rintro e w125 ⟨rfl, hb⟩; refine ⟨_, rfl, ?_⟩; have n0_ := Rb HO_296002 hb; have n1_ := Rb HO_302002 hb; have n2_ := Rb HO_309002 hb; have n3_ := Rb HO_334002 hb; have n4_ := Kb BK282 hb; have n5_ := Kb BK295 hb; have n6_ := Kb BK301 hb; have n7_ := Kb BK308 hb; have n8_ := Kb BK333 hb; have n9_ := Bc HB hb; clear HO_296002 HO_302002 HO_309002 HO_334002 BK282 BK295 BK301 BK308 BK333 HB; revert n0_ n1_ n2_ n3_ n4_ n5_ n6_ n7_ n8_ n9_; intro HO_296002 HO_302002 HO_309002 HO_334002 BK282 BK295 BK301 BK308 BK333 HB; (try clear hb); (try clear hb2); (try clear hk); (try clear hi)))
                 go_ret
                 exact ⟨eZ, Bq⟩
                ·rw [if_neg c119] at H
                 have c119b0 : (t335 == t319) = false := beq_eq_false_iff_ne.mpr c119; have c119b1 : (t335 != t319) = true := bne_iff_ne.mpr c119; exact absurd (Option.some.inj H) (by rw [HT_.out]; decide)
           ·rw [if_neg c80] at H
            have c80b0 : (t321 == t319) = false := beq_eq_false_iff_ne.mpr c80; have c80b1 : (t321 != t319) = true := bne_iff_ne.mpr c80; exact absurd (Option.some.inj H) (by rw [HT_.out]; decide)
      ·replace c53 := Bool.eq_false_iff.mpr c53
       subst c53
       rw [if_neg (show ¬ (false = true) by decide)] at H; exact absurd (Option.some.inj H) (by rw [HT_.out]; decide)

def laws_FnExactCountingRemove.Pure : Prop := ∀ (a0_0 : Int) (a0_1 : Int) (l0_2 : List Int) (a1 : ByteArray), (Lit.int .i64 a0_0).wf = true → (Lit.int .i64 a0_1).wf = true → l0_2.length ≤ maxLen → (∀ x ∈ l0_2, (Lit.int .i64 x).wf = true) → a1.size ≤ maxLen → ∃ k, laws_FnExactCountingRemove.f k a0_0 a0_1 l0_2 a1 = some true
theorem laws_FnExactCountingRemove.walk (P : laws_FnExactCountingRemove.Pure) (a0_0 : Int) (a0_1 : Int) (A0_2 : Option Addr) (c0_2 : Nat) (l0_2 : List Int) (a1 : ByteArray) (w : World) (hw0_0 : (Lit.int .i64 a0_0).wf = true) (hw0_1 : (Lit.int .i64 a0_1).wf = true) (hr0_2 : Kd.C (Kd.int .i64) w A0_2 l0_2.length l0_2) (hc0_2 : l0_2.length ≤ c0_2) (hm0_2 : l0_2.length ≤ maxLen) (hw0_2 : ∀ x ∈ l0_2, (Lit.int .i64 x).wf = true) (hw1 : a1.size ≤ maxLen) :
  Calls Try.prog 6 #[.agg #[.int .i64 a0_0, .int .i64 a0_1, .slice A0_2 l0_2.length c0_2], .string a1] w fun e w' => e = .returned (.bool true) ∧ Below w.heap.size w w' := by
 obtain ⟨k, h⟩ := P a0_0 a0_1 l0_2 a1 hw0_0 hw0_1 hm0_2 hw0_2 hw1; refine (laws_FnExactCountingRemove.calls k a0_0 a0_1 A0_2 c0_2 l0_2 a1 true w hr0_2 hc0_2 h rfl).mono ?_; rintro e w' ⟨rfl, hd⟩; exact ⟨rfl, hd⟩

end Go.Proofs.Ytpkpjikkfikejaa.PC
namespace Go.Proofs.YtpkpjikkfikejaaGp
open Go Go.ChangeShapes Go.WideShapes Go.RowKit Go.Proofs.YtpkpjikkfikejaaW.PrintWords
open Go.WideElems
section
variable {H : Type} {enc : TypeId × Value → H} {P : Program} {w : World} {base : Nat} {held : Bool}

theorem struct_field {spare : Nat → Bool} {t : TypeId} {fuel : Nat} {cs : List Value} {x : DataW H × List MemPlace} {fs : Array Field} (ht : P.underlying t = some (.struct fs)) (h : DataW.trod enc P w base spare held fuel t cs = some x)
    (i : Nat) {f : Field} (hf : fs[i]? = some f) {c : Nat} (hc : P.cellsOf f.type = c) :
    ∃ n y, DataW.trod enc P w base spare held n f.type ((cs.drop f.offset).take c) = some y := by
  obtain ⟨xs, n, _, _, _, hl, hg⟩ := DataW.trod_struct ht h
  have hi : i < xs.length := by rw [hl]; exact (Array.getElem?_eq_some_iff.1 hf).1
  have h1 := hg i f hf
  rw [hc, List.getElem?_eq_getElem hi] at h1
  exact ⟨n, _, h1⟩

theorem leaf_int {spare : Nat → Bool} {t : TypeId} {fuel : Nat} {c : Value} {x : DataW H × List MemPlace} {k : IntKind} (ht : P.underlying t = some (.int k)) (h : DataW.trod enc P w base spare held fuel t [c] = some x) :
    ∃ n, c = .int k n ∧ (Lit.int k n).wf = true := by
  obtain ⟨n, e, _, hw⟩ := DataW.trod_int ht h
  exact ⟨n, by simpa using e, hw⟩

theorem leaf_str {spare : Nat → Bool} {t : TypeId} {fuel : Nat} {c : Value} {x : DataW H × List MemPlace} (ht : P.underlying t = some .string) (h : DataW.trod enc P w base spare held fuel t [c] = some x) :
    ∃ s, c = .string s ∧ s.size ≤ maxLen := by
  obtain ⟨s, e, _, hw⟩ := DataW.trod_string ht h
  exact ⟨s, by simpa using e, hw⟩

theorem leaf_ints {t e : TypeId} {fuel : Nat} {c : Value} {x : DataW H × List MemPlace} {k : IntKind} (ht : P.underlying t = some (.slice e)) (he : P.underlying e = some (.int k)) (hc : P.cellsOf e = 1)
    (h : DataW.trod enc P w base (fun _ => true) held fuel t [c] = some x) :
    ∃ (A : Option Addr) (l : List Int) (cap : Nat), c = .slice A l.length cap ∧ (Kd.int k).C w A l.length l ∧ l.length ≤ cap ∧ l.length ≤ maxLen ∧ ∀ n ∈ l, (Lit.int k n).wf = true := by
  rcases open_ints ht he hc h with ⟨hcs, _⟩ | ⟨a, len, cap, zs, hcs, _, hl, hm, hz, _, hcell, hw⟩
  · obtain rfl : c = .slice none 0 0 := by simpa using hcs
    obtain ⟨l, e, hr, h1, h2, h3⟩ := ReadsInt.ofRowC (k := k) (w := w) (a := none) (len := 0) (cap := 0) (zs := []) (.inl ⟨rfl, rfl, rfl, rfl⟩)
    refine ⟨none, l, 0, by rw [← e], Kd.C_of_reads (d := (0 : Int)) (h1 := fun _ => rfl) hr, h3, h1, h2⟩
  · obtain rfl : c = .slice (some a) len cap := by simpa using hcs
    obtain ⟨l, e, hr, h1, h2, h3⟩ := ReadsInt.ofRowC (k := k) (w := w) (a := some a) (len := len) (cap := cap) (zs := zs) (.inr ⟨a, rfl, hl, hm, by simpa using hz, hcell, hw⟩)
    subst e
    exact ⟨some a, l, cap, rfl, Kd.C_of_reads (d := (0 : Int)) (h1 := fun _ => rfl) hr, h3, h1, h2⟩

theorem trod_agg {spare : Nat → Bool} {t : TypeId} {fuel : Nat} {l : List Value} {x : Option (DataW H × List MemPlace)} (h : DataW.trod enc P w base spare held fuel t (Value.agg ⟨l⟩).cells.toList = x) :
    DataW.trod enc P w base spare held fuel t l = x := by simpa [Value.cells] using h
end
theorem arr3 {cs : Array Value} (h : cs.size = 3) : ∃ c0 c1 c2, cs = #[c0, c1, c2] := by
  obtain ⟨l⟩ := cs
  match l, h with
  | [c0, c1, c2], _ => exact ⟨_, _, _, rfl⟩
end Go.Proofs.YtpkpjikkfikejaaGp
namespace Go.Proofs.YtpkpjikkfikejaaQ
open Go Go.RowKit Go.Proofs.YtpkpjikkfikejaaW.PrintWords Go.Proofs.YtpkpjikkfikejaaGp

theorem ev_succ {α : Type} {g : Nat → Option α} {r : α} (h : Ev (fun k => g (k + 1)) r) : Ev g r := Ev.step (f := fun k => g (k + 1)) (fun _ => rfl) h
theorem ev_some {α : Type} {a r : α} (h : a = r) : Ev (fun _ => some a) r := h ▸ Ev.now a
theorem ev_pos {α : Type} {c : Prop} [Decidable c] {f g : Nat → Option α} {r : α} (h : c) (k : Ev f r) : Ev (fun n => if c then f n else g n) r := by simpa only [if_pos h] using k
theorem ev_neg {α : Type} {c : Prop} [Decidable c] {f g : Nat → Option α} {r : α} (h : ¬ c) (k : Ev g r) : Ev (fun n => if c then f n else g n) r := by simpa only [if_neg h] using k
theorem ev_bind {α β : Type} {g : Nat → Option α} {f : Nat → α → Option β} {r : β} (a : α) (h : Ev g a) (k : Ev (fun n => f n a) r) : Ev (fun n => (g n).bind (f n)) r := Ev.bind h k
theorem w64 {x : Int} (h0 : -9223372036854775808 ≤ x) (h1 : x ≤ 9223372036854775807) : wrap64 x = x := by unfold wrap64; omega
theorem winc {i : Nat} (h : (i : Int) < 9223372036854775807) : wrap64 ((i : Int) + 1) = ((i + 1 : Nat) : Int) := by unfold wrap64; omega
theorem maxLen_eq : maxLen = 9223372036854775807 := by unfold maxLen; rfl
section
variable {α : Type} {d : α} {pre t : List α} {s : α}
theorem lt_mid : ((pre.length : Nat) : Int) < ((pre ++ s :: t).length : Int) := by simp; omega
theorem not_lt_end : ¬ ((pre.length : Nat) : Int) < ((pre ++ ([] : List α)).length : Int) := by simp
theorem set_mid {x : α} : (pre ++ s :: t).set ((pre.length : Nat) : Int).toNat x = pre ++ x :: t := by simp
theorem app_one : (pre ++ [s]) ++ t = pre ++ s :: t := by simp
theorem len_one : ((pre ++ [s]).length : Int) = ((pre.length + 1 : Nat) : Int) := by simp
end
theorem rd_mid {pre t : List Int} {s : Int} : rd (pre ++ s :: t) ((pre.length : Nat) : Int) = s := by simp [rd]
theorem rd_get {xs : List Int} {i : Nat} (h : i < xs.length) : rd xs (i : Int) = xs[i] := by simp [rd, h]

theorem size_len (s : ByteArray) : s.size = s.data.toList.length := (data_length s).symm
theorem bt_mid {s : ByteArray} {pre t : List UInt8} {c : UInt8} (h : s.data.toList = pre ++ c :: t) : bt s ((pre.length : Nat) : Int) = (c.toNat : Int) := by
  have hs : pre.length < s.size := by rw [size_len, h]; simp
  have hg : s[pre.length]'hs = c := by
    have : s.data.toList[pre.length]'(by rw [h]; simp) = c := by simp [h]
    rw [← this]; rfl
  unfold bt
  rw [dif_pos (by simpa using hs)]
  simp only [Int.toNat_natCast, hg]
theorem lt_size {s : ByteArray} {pre t : List UInt8} {c : UInt8} (h : s.data.toList = pre ++ c :: t) : ((pre.length : Nat) : Int) < (s.size : Int) := by rw [size_len, h]; simp; omega
theorem not_lt_size {s : ByteArray} {pre : List UInt8} (h : s.data.toList = pre ++ []) : ¬ ((pre.length : Nat) : Int) < (s.size : Int) := by rw [size_len, h]; simp
end Go.Proofs.YtpkpjikkfikejaaQ
namespace Go.Proofs.YtpkpjikkfikejaaQ
open Go Go.RowKit Go.Proofs.YtpkpjikkfikejaaW.PrintWords Go.Proofs.YtpkpjikkfikejaaGp Go.Proofs.Ytpkpjikkfikejaa.PC

def neg1 (x : Int) : Int := if x < 0 then -1 else x
end Go.Proofs.YtpkpjikkfikejaaQ
namespace Go.Proofs.YtpkpjikkfikejaaQ
open Go Go.RowKit Go.Proofs.YtpkpjikkfikejaaW.PrintWords Go.Proofs.YtpkpjikkfikejaaGp Go.Proofs.Ytpkpjikkfikejaa.PC

theorem toIntS_l0 (x0 : List Int) (hl : (x0.length : Int) ≤ 1048576) : ∀ (t pre r : List Int), x0 = pre ++ t → r.length = t.length →
    Ev (fun k => laws_toIntS.l0 k x0 (pre ++ r) (pre.length : Int)) x0 := by
  intro t
  induction t with
  | nil =>
    intro pre r h hr
    obtain rfl := List.length_eq_zero_iff.1 hr
    refine ev_succ ?_
    simp only [laws_toIntS.l0]
    refine ev_neg (by rw [h]; exact not_lt_end) (ev_some h.symm)
  | cons s t ih =>
    intro pre r h hr
    cases r with
    | nil => simp at hr
    | cons q r =>
      have hm : ((pre.length : Nat) : Int) < (x0.length : Int) := by rw [h]; exact lt_mid
      have hg : rd x0 (pre.length : Int) = s := by rw [h]; exact rd_mid
      refine ev_succ ?_
      simp only [laws_toIntS.l0, hg, set_mid]
      refine ev_pos hm (ev_pos (by omega) (ev_pos lt_mid ?_))
      rw [winc (by omega)]
      have := ih (pre ++ [s]) r (by rw [h]; simp) (by simpa using hr)
      rw [len_one, app_one] at this
      exact this
theorem toIntS_f (l : List Int) (hl : (l.length : Int) ≤ 1048576) : Ev (fun k => laws_toIntS.f k l) l := by
  unfold laws_toIntS.f
  refine ev_pos (by omega) (ev_pos (by simp only [Int.toNat_natCast]; omega) ?_)
  simp only [Int.toNat_natCast]
  have := toIntS_l0 l hl l [] (List.replicate l.length (0 : Int)) rfl (by simp)
  exact this

theorem eqIntS_l0 (x0 x1 : List Int) (hl : (x0.length : Int) ≤ 9223372036854775806) : ∀ (t u pre pre' : List Int), x0 = pre ++ t → x1 = pre' ++ u → pre.length = pre'.length → t.length = u.length →
    Ev (fun k => laws_eqIntS.l0 k x0 x1 (pre.length : Int)) (decide (t = u)) := by
  intro t
  induction t with
  | nil =>
    intro u pre pre' h h' hp hu
    obtain rfl := List.length_eq_zero_iff.1 hu.symm
    refine ev_succ ?_
    simp only [laws_eqIntS.l0]
    exact ev_neg (by rw [h]; exact not_lt_end) (ev_some (by simp))
  | cons s t ih =>
    intro u pre pre' h h' hp hu
    cases u with
    | nil => simp at hu
    | cons q u =>
      have hm : ((pre.length : Nat) : Int) < (x0.length : Int) := by rw [h]; exact lt_mid
      have hm' : ((pre.length : Nat) : Int) < (x1.length : Int) := by rw [h', hp]; exact lt_mid
      have hg : rd x0 (pre.length : Int) = s := by rw [h]; exact rd_mid
      have hg' : rd x1 (pre.length : Int) = q := by rw [h', hp]; exact rd_mid
      refine ev_succ ?_
      simp only [laws_eqIntS.l0, hg, hg']
      refine ev_pos hm (ev_pos (by omega) (ev_pos hm' ?_))
      by_cases c : s = q
      · refine ev_pos c ?_
        rw [winc (by omega)]
        have := ih u (pre ++ [s]) (pre' ++ [q]) (by rw [h]; simp) (by rw [h']; simp) (by simp [hp]) (by simpa using hu)
        rw [len_one] at this
        rw [show decide (s :: t = q :: u) = decide (t = u) from by simp [c]]
        exact this
      · exact ev_neg c (ev_some (by simp [c]))
theorem eqIntS_f (a b : List Int) (hl : (a.length : Int) ≤ 9223372036854775806) : Ev (fun k => laws_eqIntS.f k a b) (decide (a = b)) := by
  unfold laws_eqIntS.f
  by_cases c : a.length = b.length
  · refine ev_pos (by omega) ?_
    exact eqIntS_l0 a b hl a b [] [] rfl rfl rfl c
  · exact ev_neg (by omega) (ev_some (by
      have : ¬ a = b := fun e => c (by rw [e])
      simp [this]))

end Go.Proofs.YtpkpjikkfikejaaQ
namespace Go.Proofs.YtpkpjikkfikejaaQ
open Go Go.RowKit Go.Proofs.YtpkpjikkfikejaaW.PrintWords Go.Proofs.YtpkpjikkfikejaaGp Go.Proofs.Ytpkpjikkfikejaa.PC

def counts : Nat → Int → List Int
  | 0, _ => []
  | n + 1, a => a :: counts n (a + 1)
theorem markIntS_l0 : ∀ (t pre : List Int) (a : Int), 0 ≤ a → a + (t.length : Int) ≤ 4611686018427387904 → ((pre.length + t.length : Nat) : Int) ≤ 4611686018427387904 →
    Ev (fun k => laws_markIntS.l0 k (pre ++ t) a (pre.length : Int)) (a + (t.length : Int), pre ++ counts t.length a) := by
  intro t
  induction t with
  | nil =>
    intro pre a h0 h1 h2
    refine ev_succ ?_
    simp only [laws_markIntS.l0]
    exact ev_neg not_lt_end (ev_some (by simp [counts]))
  | cons s t ih =>
    intro pre a h0 h1 h2
    simp only [List.length_cons] at h1 h2
    refine ev_succ ?_
    simp only [laws_markIntS.l0]
    refine ev_pos lt_mid (ev_pos (by omega) ?_)
    simp only [set_mid]
    rw [winc (by omega), w64 (x := a + 1) (by omega) (by omega)]
    have := ih (pre ++ [a]) (a + 1) (by omega) (by omega) (by simp; omega)
    rw [len_one, app_one] at this
    simp only [List.length_cons, counts]
    rw [show ((t.length + 1 : Nat) : Int) = 1 + (t.length : Int) from by omega, ← Int.add_assoc]
    simpa using this
theorem markIntS_f (l : List Int) (a : Int) (h0 : 0 ≤ a) (h1 : a + (l.length : Int) ≤ 4611686018427387904) : Ev (fun k => laws_markIntS.f k l a) (a + (l.length : Int), counts l.length a) := by
  unfold laws_markIntS.f
  have := markIntS_l0 l [] a h0 h1 (by simp; omega)
  exact this
theorem heldIntS_l0 : ∀ (n : Nat) (pre : List Int) (a : Int), 0 ≤ a → a + (n : Int) ≤ 4611686018427387904 → ((pre.length + n : Nat) : Int) ≤ 4611686018427387904 →
    Ev (fun k => laws_heldIntS.l0 k (pre ++ counts n a) a (pre.length : Int)) (a + (n : Int)) := by
  intro n
  induction n with
  | zero =>
    intro pre a h0 h1 h2
    refine ev_succ ?_
    simp only [laws_heldIntS.l0, counts]
    exact ev_neg not_lt_end (ev_some (by simp))
  | succ n ih =>
    intro pre a h0 h1 h2
    refine ev_succ ?_
    simp only [laws_heldIntS.l0, counts, rd_mid]
    refine ev_pos lt_mid (ev_pos (by omega) (ev_pos trivial ?_))
    rw [winc (by omega), w64 (x := a + 1) (by omega) (by omega)]
    have := ih (pre ++ [a]) (a + 1) (by omega) (by omega) (by simp; omega)
    rw [len_one, app_one] at this
    rw [show a + ((n + 1 : Nat) : Int) = a + 1 + (n : Int) from by omega]
    exact this
theorem heldIntS_f (n : Nat) (a : Int) (h0 : 0 ≤ a) (h1 : a + (n : Int) ≤ 4611686018427387904) : Ev (fun k => laws_heldIntS.f k (counts n a) a) (a + (n : Int)) := by
  unfold laws_heldIntS.f
  have := heldIntS_l0 n [] a h0 h1 (by simp; omega)
  exact this
end Go.Proofs.YtpkpjikkfikejaaQ
namespace Go.Proofs.YtpkpjikkfikejaaQ
open Go Go.RowKit Go.Proofs.YtpkpjikkfikejaaW.PrintWords Go.Proofs.YtpkpjikkfikejaaGp Go.Proofs.Ytpkpjikkfikejaa.PC

def leftI (a : Int) (l : List Int) : Int := neg1 (a - (l.length : Int))
theorem szIntS_f (l : List Int) (a : Int) (hl : l.length ≤ maxLen) (h0 : 0 ≤ a) (h1 : a ≤ 1048576) : laws_szIntS.f l a = some (leftI a l) := by
  have := maxLen_eq
  unfold laws_szIntS.f leftI neg1
  rw [w64 (by omega) (by omega)]
  split <;> rfl
theorem leftI_ok {a : Int} {l : List Int} (h : ¬ leftI a l < 0) : leftI a l = a - (l.length : Int) ∧ (l.length : Int) ≤ a := by
  unfold leftI neg1 at *
  split at h <;> omega
end Go.Proofs.YtpkpjikkfikejaaQ
-- printed by a program of this session (wip/gp) out of the translation; Lean checks it
namespace Go.Proofs.Ytpkpjikkfikejaa.PC
open Go.RowKit Go.Proofs.YtpkpjikkfikejaaW.PrintWords Go.Proofs.YtpkpjikkfikejaaW.PrintLast Go.Proofs.YtpkpjikkfikejaaW.PrintMore Go.Proofs.YtpkpjikkfikejaaSq
attribute [local go_sem] max2_int min2_int max_two min_two max_three min_three max_four min_four   -- for this text's walks alone
attribute [local go_sem] Go.Proofs.YtpkpjikkfikejaaGp.str_geq Go.Proofs.YtpkpjikkfikejaaGp.str_gtr Go.Proofs.YtpkpjikkfikejaaGp.str_leq
set_option linter.unusedVariables false
set_option linter.unusedSimpArgs false

set_option maxHeartbeats 8000000
set_option maxRecDepth 100000
end Go.Proofs.Ytpkpjikkfikejaa.PC
namespace Go.Proofs.YtpkpjikkfikejaaQ
open Go Go.RowKit Go.Proofs.YtpkpjikkfikejaaW.PrintWords Go.Proofs.YtpkpjikkfikejaaGp Go.Proofs.Ytpkpjikkfikejaa.PC

def mm (x y : Int) : Int := Int.tmod (wrap64 (x * y)) 65521
theorem mul_range {x y : Int} (hx : 0 ≤ x) (hx1 : x ≤ 65520) (hy : 0 ≤ y) (hy1 : y ≤ 65520) : 0 ≤ x * y ∧ x * y ≤ 4292870400 :=
  ⟨Int.mul_nonneg hx hy, by have := Int.mul_le_mul hx1 hy1 hy (by omega); omega⟩
theorem emod_range (x : Int) : 0 ≤ x % 65521 ∧ x % 65521 ≤ 65520 := by omega
theorem mm_eq {x y : Int} (hx : 0 ≤ x) (hx1 : x ≤ 65520) (hy : 0 ≤ y) (hy1 : y ≤ 65520) : mm x y = x * y % 65521 := by
  obtain ⟨h0, h1⟩ := mul_range hx hx1 hy hy1
  unfold mm
  rw [w64 (by omega) (by omega)]
  exact Int.tmod_eq_emod_of_nonneg h0
theorem mm_mod (a b : Int) : mm (a % 65521) (b % 65521) = a * b % 65521 := by
  rw [mm_eq (emod_range a).1 (emod_range a).2 (emod_range b).1 (emod_range b).2]
  exact (Int.mul_emod a b 65521).symm
def pw (h : Int) : Nat → Int
  | 0 => 1
  | n + 1 => pw h n * h
theorem self_mod {h : Int} (h0 : 0 ≤ h) (h1 : h ≤ 65520) : h = h % 65521 := by omega
theorem mm11 {h : Int} (h0 : 0 ≤ h) (h1 : h ≤ 65520) : mm (mm (mm (mm (mm h h) (mm h h)) h) (mm (mm (mm h h) (mm h h)) h)) h = pw h 11 % 65521 := by
  have e := self_mod h0 h1
  have a2 : mm h h = h * h % 65521 := mm_eq h0 h1 h0 h1
  have a4 : mm (mm h h) (mm h h) = (h * h) * (h * h) % 65521 := by rw [a2, mm_mod]
  have a5 : mm (mm (mm h h) (mm h h)) h = (h * h) * (h * h) * h % 65521 := by
    rw [a4]; conv => lhs; arg 2; rw [e]
    rw [mm_mod]
  rw [a5, mm_mod]
  conv => lhs; arg 2; rw [e]
  rw [mm_mod]
  congr 1
  simp only [pw, Int.one_mul, Int.mul_assoc]
theorem mm_pw {h : Int} (h0 : 0 ≤ h) (h1 : h ≤ 65520) (n : Nat) : mm (pw h n % 65521) h = pw h (n + 1) % 65521 := by
  conv => lhs; arg 2; rw [self_mod h0 h1]
  rw [mm_mod]
  rfl

def hstep (h : Int) (c : UInt8) : Int := Int.tmod (wrap64 ((wrap64 (263 * h)) + (wrap64 (c.toNat : Int)))) 65521
def hfold (h : Int) (l : List UInt8) : Int := l.foldl hstep h
theorem hstep_range {h : Int} {c : UInt8} (h0 : 0 ≤ h) (h1 : h ≤ 65520) : 0 ≤ hstep h c ∧ hstep h c ≤ 65520 := by
  have hc : c.toNat < 256 := c.toNat_lt
  unfold hstep
  rw [w64 (x := 263 * h) (by omega) (by omega), w64 (x := (c.toNat : Int)) (by omega) (by omega), w64 (by omega) (by omega), Int.tmod_eq_emod_of_nonneg (by omega)]
  omega
def hstart (a0 a1 : Int) : Int := Int.tmod (wrap64 ((wrap64 ((wrap64 (31 * a0)) + (wrap64 (977 * a1)))) + 7)) 65521
theorem hstart_range {a0 a1 : Int} (h0 : 0 ≤ a0) (h0' : a0 ≤ 1000000) (h1 : 0 ≤ a1) (h1' : a1 ≤ 1000000) : 0 ≤ hstart a0 a1 ∧ hstart a0 a1 ≤ 65520 := by
  unfold hstart
  rw [w64 (x := 31 * a0) (by omega) (by omega), w64 (x := 977 * a1) (by omega) (by omega), w64 (x := 31 * a0 + 977 * a1) (by omega) (by omega), w64 (by omega) (by omega), Int.tmod_eq_emod_of_nonneg (by omega)]
  omega
def hashV (a0 a1 : Int) (s : ByteArray) : Int := pw (hfold (hstart a0 a1) s.data.toList) 11 % 65521
theorem hashV_range (a0 a1 : Int) (s : ByteArray) : 0 ≤ hashV a0 a1 s ∧ hashV a0 a1 s ≤ 65520 := emod_range _
theorem spec_biHash_l0 (x2 : ByteArray) (hz : (x2.size : Int) ≤ 9223372036854775806) : ∀ (t pre : List UInt8) (h : Int), x2.data.toList = pre ++ t → 0 ≤ h → h ≤ 65520 →
    Ev (fun k => spec_biHash.l0 k x2 h (pre.length : Int)) (pw (hfold h t) 11 % 65521) := by
  intro t
  induction t with
  | nil =>
    intro pre h e h0 h1
    refine ev_succ ?_
    simp only [spec_biHash.l0]
    refine ev_neg (not_lt_size e) (ev_some ?_)
    exact mm11 h0 h1
  | cons c t ih =>
    intro pre h e h0 h1
    have hm := lt_size e
    refine ev_succ ?_
    simp only [spec_biHash.l0, bt_mid e]
    refine ev_pos hm (ev_pos (by omega) ?_)
    rw [winc (by omega)]
    have := ih (pre ++ [c]) (hstep h c) (by rw [e]; simp) (hstep_range h0 h1).1 (hstep_range h0 h1).2
    rw [len_one] at this
    exact this
theorem spec_biHash_f (a0 a1 : Int) (s : ByteArray) (hz : (s.size : Int) ≤ 9223372036854775806) (h0 : 0 ≤ a0) (h0' : a0 ≤ 1000000) (h1 : 0 ≤ a1) (h1' : a1 ≤ 1000000) :
    Ev (fun k => spec_biHash.f k a0 a1 s) (hashV a0 a1 s) := by
  unfold spec_biHash.f
  exact spec_biHash_l0 s hz s.data.toList [] _ rfl (hstart_range h0 h0' h1 h1').1 (hstart_range h0 h0' h1 h1').2
theorem impl_hash_l1 {h : Int} (h0 : 0 ≤ h) (h1 : h ≤ 65520) : ∀ (m i : Nat), i + m = 11 → Ev (fun k => impl_hash.l1 k h (pw h i % 65521) (i : Int)) (pw h 11 % 65521) := by
  intro m
  induction m with
  | zero =>
    intro i e
    obtain rfl : i = 11 := by omega
    refine ev_succ ?_
    simp only [impl_hash.l1]
    exact ev_neg (by omega) (ev_some rfl)
  | succ m ih =>
    intro i e
    refine ev_succ ?_
    simp only [impl_hash.l1]
    refine ev_pos (by omega) ?_
    rw [winc (by omega)]
    have := ih (i + 1) (by omega)
    rw [← mm_pw h0 h1 i] at this
    exact this
theorem impl_hash_l0 (x2 : ByteArray) (hz : (x2.size : Int) ≤ 9223372036854775806) : ∀ (t pre : List UInt8) (h : Int), x2.data.toList = pre ++ t → 0 ≤ h → h ≤ 65520 →
    Ev (fun k => impl_hash.l0 k x2 h (x2.size : Int) (pre.length : Int)) (pw (hfold h t) 11 % 65521) := by
  intro t
  induction t with
  | nil =>
    intro pre h e h0 h1
    refine ev_succ ?_
    simp only [impl_hash.l0]
    exact ev_neg (not_lt_size e) (impl_hash_l1 h0 h1 11 0 rfl)
  | cons c t ih =>
    intro pre h e h0 h1
    have hm := lt_size e
    refine ev_succ ?_
    simp only [impl_hash.l0, bt_mid e]
    refine ev_pos hm (ev_pos (by omega) (ev_pos hm ?_))
    rw [winc (by omega)]
    have := ih (pre ++ [c]) (hstep h c) (by rw [e]; simp) (hstep_range h0 h1).1 (hstep_range h0 h1).2
    rw [len_one] at this
    exact this
theorem impl_hash_f (a0 a1 : Int) (s : ByteArray) (hz : (s.size : Int) ≤ 9223372036854775806) (h0 : 0 ≤ a0) (h0' : a0 ≤ 1000000) (h1 : 0 ≤ a1) (h1' : a1 ≤ 1000000) :
    Ev (fun k => impl_hash.f k a0 a1 s) (hashV a0 a1 s) := by
  unfold impl_hash.f
  exact impl_hash_l0 s hz s.data.toList [] _ rfl (hstart_range h0 h0' h1 h1').1 (hstart_range h0 h0' h1 h1').2

def placeV (a0 a1 : Int) (s : ByteArray) (n : Int) : Int := wrap64 (Int.tdiv (wrap64 (hashV a0 a1 s * n)) 65521)
theorem placeV_range (a0 a1 : Int) (s : ByteArray) {n : Int} (h0 : 1 ≤ n) (h1 : n ≤ 1000000) : 0 ≤ placeV a0 a1 s n ∧ placeV a0 a1 s n < n := by
  obtain ⟨a, b⟩ := hashV_range a0 a1 s
  have c := Int.mul_nonneg a (show (0 : Int) ≤ n by omega)
  have d := Int.mul_le_mul_of_nonneg_right b (show (0 : Int) ≤ n by omega)
  unfold placeV
  generalize hashV a0 a1 s * n = y at *
  rw [w64 (x := y) (by omega) (by omega), Int.tdiv_eq_ediv_of_nonneg (by omega), w64 (by omega) (by omega)]
  omega
theorem spec_biPlace_f (a0 a1 : Int) (s : ByteArray) (n : Int) (hz : (s.size : Int) ≤ 9223372036854775806) (h0 : 0 ≤ a0) (h0' : a0 ≤ 1000000) (h1 : 0 ≤ a1) (h1' : a1 ≤ 1000000) :
    Ev (fun k => spec_biPlace.f k a0 a1 s n) (placeV a0 a1 s n) := by
  unfold spec_biPlace.f
  exact ev_bind _ (spec_biHash_f a0 a1 s hz h0 h0' h1 h1') (Ev.now _)
theorem impl_place_f (a0 a1 : Int) (s : ByteArray) (n : Int) (hz : (s.size : Int) ≤ 9223372036854775806) (h0 : 0 ≤ a0) (h0' : a0 ≤ 1000000) (h1 : 0 ≤ a1) (h1' : a1 ≤ 1000000) :
    Ev (fun k => impl_place.f k a0 a1 s n) (placeV a0 a1 s n) := by
  unfold impl_place.f
  exact ev_bind _ (impl_hash_f a0 a1 s hz h0 h0' h1 h1') (Ev.now _)
end Go.Proofs.YtpkpjikkfikejaaQ
namespace Go.Proofs.YtpkpjikkfikejaaQ
open Go Go.RowKit Go.Proofs.YtpkpjikkfikejaaW.PrintWords Go.Proofs.YtpkpjikkfikejaaGp Go.Proofs.Ytpkpjikkfikejaa.PC

def probesL (a0 : Int) (s : ByteArray) (n : Int) : Nat → Nat → List Int
  | 0, _ => []
  | m + 1, i => placeV a0 (i : Int) s n :: probesL a0 s n m (i + 1)
theorem probesL_len (a0 : Int) (s : ByteArray) (n : Int) : ∀ m i, (probesL a0 s n m i).length = m
  | 0, _ => rfl
  | m + 1, i => by simp [probesL, probesL_len a0 s n m]
theorem probesL_range (a0 : Int) (s : ByteArray) {n : Int} (h0 : 1 ≤ n) (h1 : n ≤ 1000000) : ∀ m i, ∀ p ∈ probesL a0 s n m i, 0 ≤ p ∧ p < n
  | 0, _, p, h => by simp [probesL] at h
  | m + 1, i, p, h => by
    simp only [probesL, List.mem_cons] at h
    rcases h with rfl | h
    · exact placeV_range a0 _ s h0 h1
    · exact probesL_range a0 s h0 h1 m (i + 1) p h
theorem spec_fiProbes_l0 (a0 : Int) (n : Int) (s : ByteArray) (hz : (s.size : Int) ≤ 9223372036854775806) (h0 : 0 ≤ a0) (h0' : a0 ≤ 1000000) (x1 : Int) (hx : x1 ≤ 1000000) : ∀ (m i : Nat) (acc : List Int), ((i + m : Nat) : Int) = x1 → acc.length = i →
    Ev (fun k => spec_fiProbes.l0 k a0 x1 n s acc (i : Int)) (acc ++ probesL a0 s n m i) := by
  intro m
  induction m with
  | zero =>
    intro i acc e ha
    refine ev_succ ?_
    simp only [spec_fiProbes.l0, probesL]
    exact ev_neg (by omega) (ev_some (by simp))
  | succ m ih =>
    intro i acc e ha
    refine ev_succ ?_
    simp only [spec_fiProbes.l0, probesL]
    refine ev_pos (by omega) (ev_bind _ (spec_biPlace_f a0 (i : Int) s n hz h0 h0' (by omega) (by omega)) (ev_pos (by omega) ?_))
    rw [winc (by omega)]
    have := ih (i + 1) (acc ++ [placeV a0 (i : Int) s n]) (by omega) (by simp [ha])
    rw [List.append_assoc] at this
    exact this
theorem spec_fiProbes_f (a0 a1 n : Int) (s : ByteArray) (hz : (s.size : Int) ≤ 9223372036854775806) (h0 : 0 ≤ a0) (h0' : a0 ≤ 1000000) (h1 : 0 ≤ a1) (h1' : a1 ≤ 1000000) :
    Ev (fun k => spec_fiProbes.f k a0 a1 n s) (probesL a0 s n a1.toNat 0) := by
  unfold spec_fiProbes.f
  have := spec_fiProbes_l0 a0 n s hz h0 h0' a1 h1' a1.toNat 0 [] (by omega) rfl
  exact this
theorem impl_probesOf_l0 (a0 : Int) (n : Int) (s : ByteArray) (hz : (s.size : Int) ≤ 9223372036854775806) (h0 : 0 ≤ a0) (h0' : a0 ≤ 1000000) (x1 : Int) (hx : x1 ≤ 1000000) : ∀ (m i : Nat) (acc : List Int), ((i + m : Nat) : Int) = x1 → acc.length = i →
    Ev (fun k => impl_probesOf.l0 k a0 n s acc x1 (i : Int)) (acc ++ probesL a0 s n m i) := by
  intro m
  induction m with
  | zero =>
    intro i acc e ha
    refine ev_succ ?_
    simp only [impl_probesOf.l0, probesL]
    exact ev_neg (by omega) (ev_some (by simp))
  | succ m ih =>
    intro i acc e ha
    refine ev_succ ?_
    simp only [impl_probesOf.l0, probesL]
    refine ev_pos (by omega) (ev_bind _ (impl_place_f a0 (i : Int) s n hz h0 h0' (by omega) (by omega)) (ev_pos (by omega) ?_))
    rw [winc (by omega)]
    have := ih (i + 1) (acc ++ [placeV a0 (i : Int) s n]) (by omega) (by simp [ha])
    rw [List.append_assoc] at this
    exact this
theorem impl_probesOf_f (a0 a1 n : Int) (s : ByteArray) (hz : (s.size : Int) ≤ 9223372036854775806) (h0 : 0 ≤ a0) (h0' : a0 ≤ 1000000) (h1 : 0 ≤ a1) (h1' : a1 ≤ 1000000) :
    Ev (fun k => impl_probesOf.f k a0 a1 n s) (probesL a0 s n a1.toNat 0) := by
  unfold impl_probesOf.f
  have := impl_probesOf_l0 a0 n s hz h0 h0' a1 h1' a1.toNat 0 [] (by omega) rfl
  exact this
end Go.Proofs.YtpkpjikkfikejaaQ
namespace Go.Proofs.YtpkpjikkfikejaaQ
open Go Go.RowKit Go.Proofs.YtpkpjikkfikejaaW.PrintWords Go.Proofs.YtpkpjikkfikejaaGp Go.Proofs.Ytpkpjikkfikejaa.PC

theorem ofInt_wrap (a : BitVec 64) : BitVec.ofInt 64 (IntKind.i64.wrap (a.toNat : Int)) = a := by
  have h : a.toNat < 2 ^ 64 := a.isLt
  apply BitVec.eq_of_toNat_eq
  rw [BitVec.toNat_ofInt]
  show ((IntKind.i64.wrap (a.toNat : Int)) % ((2 ^ 64 : Nat) : Int)).toNat = a.toNat
  have e : IntKind.i64.wrap (a.toNat : Int) = if (a.toNat : Int) % 18446744073709551616 ≥ 9223372036854775808 then (a.toNat : Int) % 18446744073709551616 - 18446744073709551616 else (a.toNat : Int) % 18446744073709551616 := by
    unfold IntKind.wrap
    simp [IntKind.bits, IntKind.signed]
  rw [e]
  have h2 : (2 : Nat) ^ 64 = 18446744073709551616 := by decide
  rw [h2] at h ⊢
  split <;> omega
theorem or_andNot (x b : Int) : Go.bits .or .i64 (Go.bits .andNot .i64 x b) b = Go.bits .or .i64 x b := by
  have e : ∀ op y, Go.bits op .i64 y b = IntKind.i64.wrap (((match op with | .and => BitVec.ofInt 64 y &&& BitVec.ofInt 64 b | .or => BitVec.ofInt 64 y ||| BitVec.ofInt 64 b | .xor => BitVec.ofInt 64 y ^^^ BitVec.ofInt 64 b | _ => BitVec.ofInt 64 y &&& ~~~(BitVec.ofInt 64 b)) : BitVec 64).toNat : Int) := fun op y => by
    unfold Go.bits; cases op <;> rfl
  rw [e .or, e .or, e .andNot]
  simp only
  rw [ofInt_wrap]
  congr 2
  apply congrArg
  apply BitVec.eq_of_getLsbD_eq
  intro i hi
  simp only [BitVec.getLsbD_or, BitVec.getLsbD_and, BitVec.getLsbD_not, hi, decide_true, Bool.true_and]
  cases (BitVec.ofInt 64 x).getLsbD i <;> cases (BitVec.ofInt 64 b).getLsbD i <;> rfl

def setV (l : List Int) (p : Int) : List Int := l.set (p / 16).toNat (Go.bits .or .i64 (rd l (p / 16)) (shl .i64 1 (p % 16)))
theorem setV_len (l : List Int) (p : Int) : (setV l p).length = l.length := by simp [setV]
theorem div16 {p : Int} (h0 : 0 ≤ p) (h1 : p ≤ 1000000) : wrap64 (Int.tdiv p 16) = p / 16 ∧ Int.tmod p 16 = p % 16 := by
  rw [Int.tdiv_eq_ediv_of_nonneg h0, Int.tmod_eq_emod_of_nonneg h0, w64 (by omega) (by omega)]
  exact ⟨rfl, rfl⟩
theorem rd_set {l : List Int} {i : Nat} {v : Int} (h : i < l.length) : rd (l.set i v) (i : Int) = v := by simp [rd, h]
theorem spec_biSet_f (n : Int) (l : List Int) {p : Int} (h0 : 0 ≤ p) (h1 : p ≤ 1000000) (h2 : p / 16 < (l.length : Int)) : spec_biSet.f n l p = some (setV l p) := by
  unfold spec_biSet.f
  rw [(div16 h0 h1).1, (div16 h0 h1).2, if_pos (by omega), if_pos h2, if_pos (by omega)]
  rfl
theorem impl_Bits_set_f (n : Int) (l : List Int) {p : Int} (h0 : 0 ≤ p) (h1 : p ≤ 1000000) (h2 : p / 16 < (l.length : Int)) : impl_Bits_set.f n l p true = some (setV l p) := by
  unfold impl_Bits_set.f
  rw [(div16 h0 h1).1, (div16 h0 h1).2, if_pos (by omega), if_pos h2, if_pos (by omega)]
  simp only [Option.bind_some, if_true]
  obtain ⟨q, hq⟩ : ∃ q : Nat, p / 16 = (q : Int) := ⟨(p / 16).toNat, by omega⟩
  unfold setV
  rw [hq] at h2 ⊢
  simp only [Int.toNat_natCast]
  rw [rd_set (by omega), List.set_set, or_andNot]

end Go.Proofs.YtpkpjikkfikejaaQ
namespace Go.Proofs.YtpkpjikkfikejaaQ
open Go Go.RowKit Go.Proofs.YtpkpjikkfikejaaW.PrintWords Go.Proofs.YtpkpjikkfikejaaGp Go.Proofs.Ytpkpjikkfikejaa.PC

def atV (l : List Int) (p : Int) : Bool := Go.bits .and .i64 (shr .i64 (rd l (p / 16)) (p % 16)) 1 == 1
theorem div16' {p : Int} (h0 : 0 ≤ p) (h1 : p ≤ 1000000) : wrap64 (Int.tdiv p 16) = p / 16 ∧ Int.tmod p 16 = p % 16 := by
  rw [Int.tdiv_eq_ediv_of_nonneg h0, Int.tmod_eq_emod_of_nonneg h0, w64 (by omega) (by omega)]
  exact ⟨rfl, rfl⟩
theorem spec_biAt_f (n : Int) (l : List Int) {p : Int} (h0 : 0 ≤ p) (h1 : p ≤ 1000000) (h2 : p / 16 < (l.length : Int)) : spec_biAt.f n l p = some (atV l p) := by
  unfold spec_biAt.f
  rw [(div16' h0 h1).1, (div16' h0 h1).2, if_pos (by omega), if_pos h2, if_pos (by omega)]
  rfl
theorem impl_Bits_at_f (n : Int) (l : List Int) {p : Int} (h0 : 0 ≤ p) (h1 : p ≤ 1000000) (h2 : p / 16 < (l.length : Int)) : impl_Bits_at.f n l p = some (atV l p) := by
  unfold impl_Bits_at.f
  rw [(div16' h0 h1).1, (div16' h0 h1).2, if_pos (by omega), if_pos h2, if_pos (by omega)]
  rfl
def saysV (a0 a1 n : Int) (l : List Int) (s : ByteArray) : Bool := (probesL a0 s n a1.toNat 0).all (atV l)
theorem spec_fiHas_l0 (a0 a1 n : Int) (l : List Int) (x20 : List Int) (hl : (x20.length : Int) ≤ 9223372036854775806) : ∀ (t pre : List Int), x20 = pre ++ t → (∀ p ∈ t, 0 ≤ p ∧ p ≤ 1000000 ∧ p / 16 < (l.length : Int)) →
    Ev (fun k => spec_fiHas.l0 k x20 (x20.length : Int) (pre.length : Int) a0 a1 n l) (t.all (atV l)) := by
  intro t
  induction t with
  | nil =>
    intro pre e hp
    refine ev_succ ?_
    simp only [spec_fiHas.l0]
    exact ev_neg (by rw [e]; exact not_lt_end) (ev_some rfl)
  | cons s t ih =>
    intro pre e hp
    have hm : ((pre.length : Nat) : Int) < (x20.length : Int) := by rw [e]; exact lt_mid
    have hg : rd x20 (pre.length : Int) = s := by rw [e]; exact rd_mid
    obtain ⟨p0, p1, p2⟩ := hp s (by simp)
    refine ev_succ ?_
    simp only [spec_fiHas.l0, hg]
    refine ev_pos hm (ev_pos (by omega) (ev_pos hm (ev_bind (atV l s) (by rw [spec_biAt_f n l p0 p1 p2]; exact Ev.now _) ?_)))
    by_cases c : atV l s = true
    · refine ev_pos c ?_
      rw [winc (by omega)]
      have := ih (pre ++ [s]) (by rw [e]; simp) (fun p h => hp p (by simp [h]))
      rw [len_one] at this
      simpa [c] using this
    · exact ev_neg c (ev_some (by simp [c]))
theorem spec_fiHas_f (a0 a1 n : Int) (l : List Int) (s : ByteArray) (hz : (s.size : Int) ≤ 9223372036854775806) (h0 : 0 ≤ a0) (h0' : a0 ≤ 1000000) (h1 : 0 ≤ a1) (h1' : a1 ≤ 1000000)
    (hn : 1 ≤ n) (hn' : n ≤ 1000000) (hl : (n + 15) / 16 ≤ (l.length : Int)) : Ev (fun k => spec_fiHas.f k a0 a1 n l s) (saysV a0 a1 n l s) := by
  unfold spec_fiHas.f
  refine ev_bind _ (spec_fiProbes_f a0 a1 n s hz h0 h0' h1 h1') ?_
  exact spec_fiHas_l0 a0 a1 n l _ (by rw [probesL_len]; omega) _ [] rfl (fun p h => by
    obtain ⟨x, y⟩ := probesL_range a0 s hn hn' _ _ p h
    exact ⟨x, by omega, by omega⟩)
theorem impl_says_l0 (a0 a1 n : Int) (l : List Int) (s : ByteArray) (hz : (s.size : Int) ≤ 9223372036854775806) (h0 : 0 ≤ a0) (h0' : a0 ≤ 1000000) (h1' : a1 ≤ 1000000)
    (hn : 1 ≤ n) (hn' : n ≤ 1000000) (hl : (n + 15) / 16 ≤ (l.length : Int)) : ∀ (m i : Nat), ((i + m : Nat) : Int) = a1 → Ev (fun k => impl_Bloom_says.l0 k s a1 (i : Int) a0 a1 n l) ((probesL a0 s n m i).all (atV l)) := by
  intro m
  induction m with
  | zero =>
    intro i e
    refine ev_succ ?_
    simp only [impl_Bloom_says.l0, probesL]
    exact ev_neg (by omega) (ev_some rfl)
  | succ m ih =>
    intro i e
    obtain ⟨p0, p1⟩ := placeV_range a0 (i : Int) s hn hn'
    refine ev_succ ?_
    simp only [impl_Bloom_says.l0, probesL]
    refine ev_pos (by omega) (ev_bind _ (impl_place_f a0 (i : Int) s n hz h0 h0' (by omega) (by omega)) (ev_bind (atV l (placeV a0 (i : Int) s n)) (by rw [impl_Bits_at_f n l p0 (by omega) (by omega)]; exact Ev.now _) ?_))
    by_cases c : atV l (placeV a0 (i : Int) s n) = true
    · refine ev_pos c ?_
      rw [winc (by omega)]
      have := ih (i + 1) (by omega)
      simpa [c] using this
    · exact ev_neg c (ev_some (by simp [c]))
theorem impl_says_f (a0 a1 n : Int) (l : List Int) (s : ByteArray) (hz : (s.size : Int) ≤ 9223372036854775806) (h0 : 0 ≤ a0) (h0' : a0 ≤ 1000000) (h1 : 0 ≤ a1) (h1' : a1 ≤ 1000000)
    (hn : 1 ≤ n) (hn' : n ≤ 1000000) (hl : (n + 15) / 16 ≤ (l.length : Int)) : Ev (fun k => impl_Bloom_says.f k a0 a1 n l s) (saysV a0 a1 n l s) := by
  unfold impl_Bloom_says.f
  have := impl_says_l0 a0 a1 n l s hz h0 h0' h1' hn hn' hl a1.toNat 0 (by omega)
  exact this
end Go.Proofs.YtpkpjikkfikejaaQ
namespace Go.Proofs.YtpkpjikkfikejaaQ
open Go Go.RowKit Go.Proofs.YtpkpjikkfikejaaW.PrintWords Go.Proofs.YtpkpjikkfikejaaW.PrintMore Go.Proofs.YtpkpjikkfikejaaGp

theorem wraps_i64 (n : Int) (h0 : 0 ≤ n) (h1 : n < 2 ^ 62) : IntKind.i64.wrap n = n := by
  rw [IntKind.wrap_i64]
  have : (2 : Int) ^ 62 = 4611686018427387904 := by decide
  omega
theorem bits64 (a b : Nat) (ha : a < 2 ^ 62) (hb : b < 2 ^ 62) : Go.bits .and .i64 a b = ((a &&& b : Nat) : Int) ∧ Go.bits .or .i64 a b = ((a ||| b : Nat) : Int) :=
  bits_nat .i64 62 (by decide) wraps_i64 a b ha hb
theorem two62 : (2 : Nat) ^ 62 = 4611686018427387904 := by decide
theorem two64 : (2 : Nat) ^ 64 = 18446744073709551616 := by decide
theorem pow16 {j : Nat} (h : j < 16) : 2 ^ j < 65536 := by
  have : 2 ^ j ≤ 2 ^ 15 := Nat.pow_le_pow_right (by decide) (by omega)
  have e : (2 : Nat) ^ 15 = 32768 := by decide
  omega
theorem shl1 {j : Nat} (h : j < 16) : shl .i64 1 (j : Int) = ((2 ^ j : Nat) : Int) := by
  unfold shl
  have hj : min (j : Int).toNat IntKind.i64.bits = j := by simp [IntKind.bits]; omega
  rw [hj, Int.one_mul, show ((2 : Int) ^ j) = ((2 ^ j : Nat) : Int) from by simp]
  have hp := pow16 h
  generalize 2 ^ j = z at hp ⊢
  refine wraps_i64 _ (by omega) ?_
  have : (2 : Int) ^ 62 = 4611686018427387904 := by decide
  omega
theorem shrN {w j : Nat} (h : j < 16) : shr .i64 (w : Int) (j : Int) = ((w / 2 ^ j : Nat) : Int) := by
  unfold shr
  have hj : min (j : Int).toNat IntKind.i64.bits = j := by simp [IntKind.bits]; omega
  rw [hj]
  simp
theorem or1 {w j : Nat} (hw : w < 65536) (h : j < 16) : Go.bits .or .i64 (w : Int) (shl .i64 1 (j : Int)) = ((w ||| 2 ^ j : Nat) : Int) := by
  have := pow16 h
  rw [shl1 h]
  exact (bits64 _ _ (by rw [two62]; omega) (by rw [two62]; omega)).2
theorem or1_lt {w j : Nat} (hw : w < 65536) (h : j < 16) : w ||| 2 ^ j < 65536 := by
  have e : (65536 : Nat) = 2 ^ 16 := by decide
  rw [e] at hw ⊢
  have := pow16 h
  exact Nat.or_lt_two_pow hw (by omega)
theorem clr1 {w j : Nat} (hw : w < 65536) (h : j < 16) (hz : w.testBit j = false) : Go.bits .andNot .i64 (w : Int) (shl .i64 1 (j : Int)) = (w : Int) := by
  rw [shl1 h]
  have e : Go.bits .andNot .i64 (w : Int) ((2 ^ j : Nat) : Int) = IntKind.i64.wrap (((BitVec.ofInt 64 (w : Int) &&& ~~~ BitVec.ofInt 64 ((2 ^ j : Nat) : Int) : BitVec 64)).toNat : Int) := by unfold Go.bits; rfl
  have z : (BitVec.ofInt 64 (w : Int) &&& ~~~ BitVec.ofInt 64 ((2 ^ j : Nat) : Int) : BitVec 64) = BitVec.ofInt 64 (w : Int) := by
    rw [BitVec.ofInt_natCast, BitVec.ofInt_natCast]
    apply BitVec.eq_of_getLsbD_eq
    intro i hi
    simp only [BitVec.getLsbD_and, BitVec.getLsbD_not, BitVec.getLsbD_ofNat, hi, decide_true, Bool.true_and, Nat.testBit_two_pow]
    by_cases c : j = i
    · subst c; simp [hz]
    · simp [c]
  rw [e, z, BitVec.ofInt_natCast, BitVec.toNat_ofNat, Nat.mod_eq_of_lt (by rw [two64]; omega)]
  refine wraps_i64 _ (by omega) ?_
  have : (2 : Int) ^ 62 = 4611686018427387904 := by decide
  omega

def okW (l : List Int) : Prop := ∀ w ∈ l, 0 ≤ w ∧ w ≤ 65535
def bitN (l : List Int) (p : Nat) : Bool := (l.getD (p / 16) 0).toNat.testBit (p % 16)
theorem rdN {l : List Int} {p : Nat} (h : p / 16 < l.length) : rd l ((p : Int) / 16) = l.getD (p / 16) 0 := by
  have : ((p : Int) / 16) = ((p / 16 : Nat) : Int) := by omega
  rw [this, rd_get h, List.getD_eq_getElem?_getD, List.getElem?_eq_getElem h]
  rfl
theorem okW_get {l : List Int} (hl : okW l) {i : Nat} (h : i < l.length) : ∃ w : Nat, l.getD i 0 = (w : Int) ∧ w < 65536 := by
  have hm := hl _ (List.getElem_mem h)
  rw [List.getD_eq_getElem?_getD, List.getElem?_eq_getElem h]
  exact ⟨l[i].toNat, by simp; omega, by omega⟩
theorem setV_get {l : List Int} (hl : okW l) {p : Nat} (h : p / 16 < l.length) : ∃ w : Nat, w < 65536 ∧ l.getD (p / 16) 0 = (w : Int) ∧ setV l (p : Int) = l.set (p / 16) ((w ||| 2 ^ (p % 16) : Nat) : Int) := by
  obtain ⟨w, hw, hw2⟩ := okW_get hl h
  refine ⟨w, hw2, hw, ?_⟩
  unfold setV
  rw [rdN h, hw, show ((p : Int) % 16) = ((p % 16 : Nat) : Int) from by omega, or1 hw2 (by omega)]
  congr 1
theorem okW_setV {l : List Int} (hl : okW l) {p : Nat} (h : p / 16 < l.length) : okW (setV l (p : Int)) := by
  obtain ⟨w, hw, _, e⟩ := setV_get hl h
  rw [e]
  intro x hx
  rcases List.mem_or_eq_of_mem_set hx with hx | rfl
  · exact hl x hx
  · have := or1_lt hw (show p % 16 < 16 by omega)
    omega
theorem bit_setV {l : List Int} (hl : okW l) {p q : Nat} (h : p / 16 < l.length) : bitN (setV l (p : Int)) q = (decide (p = q) || bitN l q) := by
  obtain ⟨w, hw, hg, e⟩ := setV_get hl h
  rw [e]
  unfold bitN
  by_cases c : p / 16 = q / 16
  · rw [← c, List.getD_eq_getElem?_getD, List.getElem?_set_self (by simpa using h), hg]
    simp only [Option.getD_some, Int.toNat_natCast, Nat.testBit_or, Nat.testBit_two_pow]
    rw [show decide (p % 16 = q % 16) = decide (p = q) from by
      rw [Bool.eq_iff_iff]; simp; omega, Bool.or_comm]
  · rw [List.getD_eq_getElem?_getD, List.getElem?_set_ne c, ← List.getD_eq_getElem?_getD, decide_eq_false (by omega), Bool.false_or]
theorem clrV {l : List Int} (hl : okW l) {p : Nat} (h : p / 16 < l.length) (hz : bitN l p = false) : l.set ((p : Int) / 16).toNat (Go.bits .andNot .i64 (rd l ((p : Int) / 16)) (shl .i64 1 ((p : Int) % 16))) = l := by
  obtain ⟨w, hw, hw2⟩ := okW_get hl h
  unfold bitN at hz
  rw [hw] at hz
  rw [rdN h, hw, show ((p : Int) % 16) = ((p % 16 : Nat) : Int) from by omega, clr1 hw2 (by omega) (by simpa using hz), show ((p : Int) / 16).toNat = p / 16 from by omega, ← hw]
  apply List.ext_getElem?
  intro i
  by_cases c : p / 16 = i
  · subst c
    rw [List.getElem?_set_self (by simpa using h), List.getD_eq_getElem?_getD, List.getElem?_eq_getElem h]
    rfl
  · rw [List.getElem?_set_ne c]

end Go.Proofs.YtpkpjikkfikejaaQ
-- printed by a program of this session (wip/gp) out of the translation; Lean checks it
namespace Go.Proofs.Ytpkpjikkfikejaa.PC
open Go.RowKit Go.Proofs.YtpkpjikkfikejaaW.PrintWords Go.Proofs.YtpkpjikkfikejaaW.PrintLast Go.Proofs.YtpkpjikkfikejaaW.PrintMore Go.Proofs.YtpkpjikkfikejaaSq
attribute [local go_sem] max2_int min2_int max_two min_two max_three min_three max_four min_four   -- for this text's walks alone
attribute [local go_sem] Go.Proofs.YtpkpjikkfikejaaGp.str_geq Go.Proofs.YtpkpjikkfikejaaGp.str_gtr Go.Proofs.YtpkpjikkfikejaaGp.str_leq
set_option linter.unusedVariables false
set_option linter.unusedSimpArgs false

set_option maxHeartbeats 8000000
set_option maxRecDepth 100000
end Go.Proofs.Ytpkpjikkfikejaa.PC
-- printed by a program of this session (wip/gp) out of the translation; Lean checks it
namespace Go.Proofs.Ytpkpjikkfikejaa.PC
open Go.RowKit Go.Proofs.YtpkpjikkfikejaaW.PrintWords Go.Proofs.YtpkpjikkfikejaaW.PrintLast Go.Proofs.YtpkpjikkfikejaaW.PrintMore Go.Proofs.YtpkpjikkfikejaaSq
attribute [local go_sem] max2_int min2_int max_two min_two max_three min_three max_four min_four   -- for this text's walks alone
attribute [local go_sem] Go.Proofs.YtpkpjikkfikejaaGp.str_geq Go.Proofs.YtpkpjikkfikejaaGp.str_gtr Go.Proofs.YtpkpjikkfikejaaGp.str_leq
set_option linter.unusedVariables false
set_option linter.unusedSimpArgs false

set_option maxHeartbeats 8000000
set_option maxRecDepth 100000
end Go.Proofs.Ytpkpjikkfikejaa.PC
namespace Go.Proofs.YtpkpjikkfikejaaQ
open Go Go.RowKit Go.Proofs.YtpkpjikkfikejaaW.PrintWords Go.Proofs.YtpkpjikkfikejaaGp Go.Proofs.Ytpkpjikkfikejaa.PC

theorem spec_in (n a b : Int) : spec_l1In.f n a b = some (decide (a ≤ n ∧ n ≤ b)) := by
  unfold spec_l1In.f
  by_cases h : a ≤ n <;> by_cases h' : n ≤ b <;> simp [h, h']
theorem impl_in (n a b : Int) : impl_in.f n a b = some (decide (a ≤ n ∧ n ≤ b)) := by
  unfold impl_in.f
  by_cases h : a ≤ n <;> by_cases h' : n ≤ b <;> simp [h, h']

def byteOk (c : UInt8) : Bool := decide (33 ≤ (c.toNat : Int) ∧ (c.toNat : Int) ≤ 125)
def isKeyB (s : ByteArray) : Bool := s.data.toList.all byteOk && decide (1 ≤ (s.size : Int) ∧ (s.size : Int) ≤ 12)
theorem spec_IsKey_l0 (x0 : ByteArray) (hz : (x0.size : Int) ≤ 9223372036854775806) : ∀ (t pre : List UInt8), x0.data.toList = pre ++ t →
    Ev (fun k => spec_IsKey.l0 k x0 (pre.length : Int)) (t.all byteOk && decide (1 ≤ (x0.size : Int) ∧ (x0.size : Int) ≤ 12)) := by
  intro t
  induction t with
  | nil =>
    intro pre h
    refine ev_succ ?_
    simp only [spec_IsKey.l0, spec_in, Option.bind_some]
    exact ev_neg (not_lt_size h) (ev_some (by simp))
  | cons c t ih =>
    intro pre h
    have hm := lt_size h
    refine ev_succ ?_
    simp only [spec_IsKey.l0, bt_mid h]
    refine ev_pos hm (ev_pos (by omega) ?_)
    by_cases c1 : (c.toNat : Int) < 33
    · exact ev_pos c1 (ev_some (by simp [byteOk]; omega))
    · refine ev_neg c1 ?_
      by_cases c2 : (c.toNat : Int) > 125
      · exact ev_pos c2 (ev_some (by simp [byteOk]; omega))
      · refine ev_neg c2 ?_
        rw [winc (by omega)]
        have := ih (pre ++ [c]) (by rw [h]; simp)
        rw [len_one] at this
        have hb : byteOk c = true := by simp [byteOk]; omega
        simpa [hb] using this
theorem spec_IsKey_f (s : ByteArray) (hz : (s.size : Int) ≤ 9223372036854775806) : Ev (fun k => spec_IsKey.f k s) (isKeyB s) := by
  unfold spec_IsKey.f
  exact spec_IsKey_l0 s hz s.data.toList [] rfl
theorem impl_IsKey_l0 (x0 : ByteArray) (hz : (x0.size : Int) ≤ 9223372036854775806) : ∀ (t pre : List UInt8), x0.data.toList = pre ++ t →
    Ev (fun k => impl_IsKey.l0 k x0 (x0.size : Int) (pre.length : Int)) (t.all byteOk && decide (1 ≤ (x0.size : Int) ∧ (x0.size : Int) ≤ 12)) := by
  intro t
  induction t with
  | nil =>
    intro pre h
    refine ev_succ ?_
    simp only [impl_IsKey.l0, impl_in, Option.bind_some]
    exact ev_neg (not_lt_size h) (ev_some (by simp))
  | cons c t ih =>
    intro pre h
    have hm := lt_size h
    refine ev_succ ?_
    simp only [impl_IsKey.l0, bt_mid h]
    refine ev_pos hm (ev_pos (by omega) (ev_pos hm ?_))
    by_cases c1 : (c.toNat : Int) < 33
    · exact ev_pos c1 (ev_some (by simp [byteOk]; omega))
    · refine ev_neg c1 ?_
      by_cases c2 : (c.toNat : Int) > 125
      · exact ev_pos c2 (ev_some (by simp [byteOk]; omega))
      · refine ev_neg c2 ?_
        rw [winc (by omega)]
        have := ih (pre ++ [c]) (by rw [h]; simp)
        rw [len_one] at this
        have hb : byteOk c = true := by simp [byteOk]; omega
        simpa [hb] using this
theorem impl_IsKey_f (s : ByteArray) (hz : (s.size : Int) ≤ 9223372036854775806) : Ev (fun k => impl_IsKey.f k s) (isKeyB s) := by
  unfold impl_IsKey.f
  exact impl_IsKey_l0 s hz s.data.toList [] rfl
end Go.Proofs.YtpkpjikkfikejaaQ
namespace Go.Proofs.YtpkpjikkfikejaaQ
open Go Go.RowKit Go.Proofs.YtpkpjikkfikejaaW.PrintWords Go.Proofs.YtpkpjikkfikejaaGp Go.Proofs.Ytpkpjikkfikejaa.PC

def sizesB (a0 a1 a2 : Int) : Bool := decide (0 ≤ a0 ∧ a0 ≤ 9999) && decide (1 ≤ a1 ∧ a1 ≤ 8) && decide (1 ≤ a2 ∧ a2 ≤ 512)
theorem sizesB_ok {a0 a1 a2 : Int} (h : sizesB a0 a1 a2 = true) : (0 ≤ a0 ∧ a0 ≤ 9999) ∧ (1 ≤ a1 ∧ a1 ≤ 8) ∧ 1 ≤ a2 ∧ a2 ≤ 512 := by
  simp only [sizesB, Bool.and_eq_true, decide_eq_true_eq] at h
  exact ⟨h.1.1, h.1.2, h.2⟩
def blankV (n : Int) : List Int := List.replicate ((n + 15) / 16).toNat 0
theorem blankV_len {n : Int} (h : 1 ≤ n) : ((blankV n).length : Int) = (n + 15) / 16 := by simp [blankV]; omega
theorem words15 {n : Int} (h0 : 1 ≤ n) (h1 : n ≤ 512) : wrap64 (Int.tdiv (wrap64 (n + 15)) 16) = (n + 15) / 16 := by
  rw [w64 (x := n + 15) (by omega) (by omega), Int.tdiv_eq_ediv_of_nonneg (by omega), w64 (by omega) (by omega)]
theorem spec_fiSize_f (a0 a1 a2 : Int) : spec_fiSize.f a0 a1 a2 = some (sizesB a0 a1 a2) := by
  unfold spec_fiSize.f sizesB
  simp only [spec_in, Option.bind_some]
  by_cases h0 : 0 ≤ a0 ∧ a0 ≤ 9999 <;> by_cases h1 : 1 ≤ a1 ∧ a1 ≤ 8 <;> by_cases h2 : 1 ≤ a2 ∧ a2 ≤ 512 <;> simp [h0, h1, h2]
end Go.Proofs.YtpkpjikkfikejaaQ
namespace Go.Proofs.YtpkpjikkfikejaaQ
open Go Go.RowKit Go.Proofs.YtpkpjikkfikejaaW.PrintWords Go.Proofs.YtpkpjikkfikejaaGp Go.Proofs.Ytpkpjikkfikejaa.PC

theorem impl_isSeed_f (a0 : Int) : impl_isSeed.f a0 = some (decide (0 ≤ a0 ∧ a0 ≤ 9999)) := by
  unfold impl_isSeed.f
  rw [impl_in]
  rfl
theorem impl_sizesOk_f (a0 a1 a2 : Int) : impl_sizesOk.f a0 a1 a2 = some (sizesB a0 a1 a2) := by
  unfold impl_sizesOk.f sizesB
  simp only [impl_isSeed_f, impl_in, Option.bind_some]
  by_cases h0 : 0 ≤ a0 ∧ a0 ≤ 9999 <;> by_cases h1 : 1 ≤ a1 ∧ a1 ≤ 8 <;> by_cases h2 : 1 ≤ a2 ∧ a2 ≤ 512 <;> simp [h0, h1, h2]
end Go.Proofs.YtpkpjikkfikejaaQ
namespace Go.Proofs.YtpkpjikkfikejaaQ
open Go Go.RowKit Go.Proofs.YtpkpjikkfikejaaW.PrintWords Go.Proofs.YtpkpjikkfikejaaGp Go.Proofs.Ytpkpjikkfikejaa.PC

def all16 (l : List Int) : Bool := l.all (fun x => decide (0 ≤ x ∧ x ≤ 65535))
def bitsB (n : Int) (l : List Int) : Bool :=
  decide (0 ≤ n ∧ n ≤ 4096) && (decide ((l.length : Int) = (n + 15) / 16) && (all16 l && (decide (n % 16 = 0) || (shr .i64 (rd l ((l.length : Int) - 1)) (n % 16) == 0))))
theorem bitsB_len {n : Int} {l : List Int} (h : bitsB n l = true) : 0 ≤ n ∧ n ≤ 4096 ∧ (l.length : Int) = (n + 15) / 16 := by
  simp only [bitsB, Bool.and_eq_true, decide_eq_true_eq] at h
  exact ⟨h.1.1, h.1.2, h.2.1⟩
def isBloomB (a0 a1 a2 : Int) (l : List Int) : Bool := sizesB a0 a1 a2 && bitsB a2 l
theorem isBloomB_ok {a0 a1 a2 : Int} {l : List Int} (h : isBloomB a0 a1 a2 l = true) : (0 ≤ a0 ∧ a0 ≤ 9999) ∧ (1 ≤ a1 ∧ a1 ≤ 8) ∧ (1 ≤ a2 ∧ a2 ≤ 512) ∧ (l.length : Int) = (a2 + 15) / 16 := by
  rw [isBloomB, Bool.and_eq_true] at h
  obtain ⟨x, y, z⟩ := sizesB_ok h.1
  exact ⟨x, y, z, (bitsB_len h.2).2.2⟩
end Go.Proofs.YtpkpjikkfikejaaQ
namespace Go.Proofs.YtpkpjikkfikejaaQ
open Go Go.RowKit Go.Proofs.YtpkpjikkfikejaaW.PrintWords Go.Proofs.YtpkpjikkfikejaaW.PrintMore Go.Proofs.YtpkpjikkfikejaaGp

theorem all16_ok {l : List Int} : all16 l = true ↔ okW l := by
  unfold all16 okW
  rw [List.all_eq_true]
  simp
theorem bitsB_setV {n : Int} {l : List Int} (h : bitsB n l = true) {p : Int} (h0 : 0 ≤ p) (h1 : p < n) : bitsB n (setV l p) = true := by
  obtain ⟨n0, n1, hlen⟩ := bitsB_len h
  have hl : okW l := by
    simp only [bitsB, Bool.and_eq_true] at h
    exact all16_ok.1 h.2.2.1
  have hp16 : p.toNat / 16 < l.length := by omega
  have e : setV l p = setV l ((p.toNat : Nat) : Int) := by rw [Int.toNat_of_nonneg h0]
  have hl2 : okW (setV l p) := by rw [e]; exact okW_setV hl hp16
  simp only [bitsB, Bool.and_eq_true, decide_eq_true_eq, Bool.or_eq_true, beq_iff_eq] at h ⊢
  refine ⟨h.1, by rw [setV_len]; exact h.2.1, all16_ok.2 hl2, ?_⟩
  rcases h.2.2.2 with c | c
  · exact .inl c
  · by_cases cm : n % 16 = 0
    · exact .inl cm
    right
    rw [setV_len]
    obtain ⟨w, hw, hg, e2⟩ := setV_get hl hp16
    rw [← e] at e2
    obtain ⟨k, hk⟩ : ∃ k : Nat, (l.length : Int) - 1 = (k : Int) := ⟨l.length - 1, by omega⟩
    have hkl : k < l.length := by omega
    obtain ⟨v, hv, _⟩ := okW_get hl hkl
    have hm : n % 16 = (((n % 16).toNat : Nat) : Int) := by omega
    have rv : rd l (k : Int) = (v : Int) := by rw [← hv]; rfl
    rw [hk, hm] at c ⊢
    rw [rv, shrN (by omega)] at c
    rw [e2]
    by_cases ck : p.toNat / 16 = k
    · subst ck
      have hwv : w = v := by rw [hg] at hv; exact Int.ofNat.inj hv
      subst hwv
      have r : rd (l.set (p.toNat / 16) ((w ||| 2 ^ (p.toNat % 16) : Nat) : Int)) ((p.toNat / 16 : Nat) : Int) = ((w ||| 2 ^ (p.toNat % 16) : Nat) : Int) := rd_set hkl
      rw [r, shrN (by omega)]
      have hlt : w < 2 ^ (n % 16).toNat := by
        have hz : w / 2 ^ (n % 16).toNat = 0 := by omega
        rcases (Nat.div_eq_zero_iff).1 hz with hz | hz
        · have := Nat.two_pow_pos (n % 16).toNat
          omega
        · exact hz
      have hpm : p.toNat % 16 < (n % 16).toNat := by omega
      have hlt2 : 2 ^ (p.toNat % 16) < 2 ^ (n % 16).toNat := Nat.pow_lt_pow_right (by decide) hpm
      have := Nat.or_lt_two_pow hlt hlt2
      rw [Nat.div_eq_of_lt this]
      rfl
    · have r : rd (l.set (p.toNat / 16) ((w ||| 2 ^ (p.toNat % 16) : Nat) : Int)) (k : Int) = rd l (k : Int) := by
        simp [rd, List.getElem?_set_ne ck]
      rw [r, rv, shrN (by omega)]
      exact c
end Go.Proofs.YtpkpjikkfikejaaQ
namespace Go.Proofs.YtpkpjikkfikejaaQ
open Go Go.RowKit Go.Proofs.YtpkpjikkfikejaaW.PrintWords Go.Proofs.YtpkpjikkfikejaaGp Go.Proofs.Ytpkpjikkfikejaa.PC

end Go.Proofs.YtpkpjikkfikejaaQ
namespace Go.Proofs.YtpkpjikkfikejaaQ
open Go Go.RowKit Go.Proofs.YtpkpjikkfikejaaW.PrintWords Go.Proofs.YtpkpjikkfikejaaW.PrintMore Go.Proofs.YtpkpjikkfikejaaGp Go.Proofs.Ytpkpjikkfikejaa.PC

def okC (l : List Int) : Prop := ∀ x ∈ l, 0 ≤ x ∧ x ≤ 15
theorem rd_int {l : List Int} {p : Int} (h0 : 0 ≤ p) (h1 : p < (l.length : Int)) : ∃ h : p.toNat < l.length, rd l p = l[p.toNat]'h := by
  have h : p.toNat < l.length := by omega
  refine ⟨h, ?_⟩
  have := rd_get h
  rwa [Int.toNat_of_nonneg h0] at this
theorem okC_rd {l : List Int} (h : okC l) {p : Int} (h0 : 0 ≤ p) (h1 : p < (l.length : Int)) : 0 ≤ rd l p ∧ rd l p ≤ 15 := by
  obtain ⟨h2, e⟩ := rd_int h0 h1
  rw [e]
  exact h _ (List.getElem_mem h2)
theorem okC_set {l : List Int} (h : okC l) (i : Nat) {v : Int} (h0 : 0 ≤ v) (h1 : v ≤ 15) : okC (l.set i v) := fun x hx => by
  rcases List.mem_or_eq_of_mem_set hx with hx | rfl
  · exact h x hx
  · exact ⟨h0, h1⟩
theorem rd_set_at {l : List Int} {p : Int} (h0 : 0 ≤ p) (h1 : p < (l.length : Int)) (v : Int) {q : Int} (hq : 0 ≤ q) : rd (l.set p.toNat v) q = if p = q then v else rd l q := by
  unfold rd
  by_cases c : p = q
  · subst c
    rw [if_pos rfl, List.getD_eq_getElem?_getD, List.getElem?_set_self (by omega)]
    rfl
  · rw [if_neg c, List.getD_eq_getElem?_getD, List.getElem?_set_ne (by omega), ← List.getD_eq_getElem?_getD]
def upC (z : Int) : List Int → List Int → Option (List Int)
  | [], l => some l
  | p :: ps, l => if rd l p = 15 then upC z ps l else if rd l p + z < 0 then none else upC z ps (l.set p.toNat (rd l p + z))
def inC (l ps : List Int) : Prop := ∀ p ∈ ps, 0 ≤ p ∧ p < (l.length : Int)
theorem impl_change_l0 {z : Int} (hz : z = 1 ∨ z = -1) (x23 : List Int) (hx : (x23.length : Int) ≤ 9223372036854775806) (a b : Int) : ∀ (t pre l : List Int), x23 = pre ++ t → inC l t → okC l →
    ∃ y, Ev (fun k => impl_Counting_change.l0 k z x23 (x23.length : Int) (pre.length : Int) a b l) ((upC z t l).isSome, y) ∧ ∀ l', upC z t l = some l' → y = l' := by
  intro t
  induction t with
  | nil =>
    intro pre l e hi ho
    refine ⟨l, ev_succ ?_, fun l' h => by simpa [upC] using h⟩
    simp only [impl_Counting_change.l0]
    exact ev_neg (by rw [e]; exact not_lt_end) (ev_some rfl)
  | cons p t ih =>
    intro pre l e hi ho
    have hm : ((pre.length : Nat) : Int) < (x23.length : Int) := by rw [e]; exact lt_mid
    have hg : rd x23 (pre.length : Int) = p := by rw [e]; exact rd_mid
    obtain ⟨p0, p1⟩ := hi p (by simp)
    obtain ⟨c0, c1⟩ := okC_rd ho p0 p1
    have start : ∀ {r : Bool × List Int}, Ev (fun k => (if rd l p = 15 then (impl_Counting_change.l0 k z x23 (x23.length : Int) (wrap64 ((pre.length : Int) + 1)) a b l) else ((some (l.set p.toNat (wrap64 (rd l p + z)) : List Int)).bind fun y248 => (if (rd y248 p) < 0 then (some (false, y248)) else (impl_Counting_change.l0 k z x23 (x23.length : Int) (wrap64 ((pre.length : Int) + 1)) a b y248))))) r →
        Ev (fun k => impl_Counting_change.l0 k z x23 (x23.length : Int) (pre.length : Int) a b l) r := fun {r} h => by
      refine ev_succ ?_
      simp only [impl_Counting_change.l0, hg]
      exact ev_pos hm (ev_pos (by omega) (ev_pos hm (ev_pos p0 (ev_pos p1 h))))
    rw [winc (by omega)] at start
    have hw : wrap64 (rd l p + z) = rd l p + z := w64 (by omega) (by omega)
    rw [hw] at start
    simp only [upC]
    by_cases c : rd l p = 15
    · obtain ⟨y, e1, e2⟩ := ih (pre ++ [p]) l (by rw [e]; simp) (fun q hq => hi q (by simp [hq])) ho
      rw [len_one] at e1
      rw [if_pos c]
      exact ⟨y, start (ev_pos c e1), e2⟩
    · rw [if_neg c]
      have hrd : rd (l.set p.toNat (rd l p + z)) p = rd l p + z := by rw [rd_set_at p0 p1 _ p0, if_pos rfl]
      by_cases c2 : rd l p + z < 0
      · rw [if_pos c2]
        refine ⟨l.set p.toNat (rd l p + z), start (ev_neg c ?_), fun l' h => by cases h⟩
        refine ev_bind _ (Ev.now _) (ev_pos (by rw [hrd]; exact c2) (Ev.now _))
      · rw [if_neg c2]
        obtain ⟨y, e1, e2⟩ := ih (pre ++ [p]) (l.set p.toNat (rd l p + z)) (by rw [e]; simp) (fun q hq => by rw [List.length_set]; exact hi q (by simp [hq])) (okC_set ho _ (by omega) (by omega))
        rw [len_one] at e1
        refine ⟨y, start (ev_neg c ?_), e2⟩
        exact ev_bind _ (Ev.now _) (ev_neg (by rw [hrd]; exact c2) e1)
def fiC (z a b : Int) (t l : List Int) : Int × Int × List Int × Bool := match upC z t l with
  | some l' => (a, b, l', true)
  | none => (0, 0, [], false)
theorem spec_fiCount_l0 {z : Int} (hz : z = 1 ∨ z = -1) (x27 : List Int) (hx : (x27.length : Int) ≤ 9223372036854775806) (a b : Int) : ∀ (t pre l : List Int), x27 = pre ++ t → inC l t → okC l →
    Ev (fun k => spec_fiCount.l0 k z x27 (x27.length : Int) (pre.length : Int) a b l) (fiC z a b t l) := by
  intro t
  induction t with
  | nil =>
    intro pre l e hi ho
    refine ev_succ ?_
    simp only [spec_fiCount.l0]
    exact ev_neg (by rw [e]; exact not_lt_end) (ev_some rfl)
  | cons p t ih =>
    intro pre l e hi ho
    have hm : ((pre.length : Nat) : Int) < (x27.length : Int) := by rw [e]; exact lt_mid
    have hg : rd x27 (pre.length : Int) = p := by rw [e]; exact rd_mid
    obtain ⟨p0, p1⟩ := hi p (by simp)
    obtain ⟨c0, c1⟩ := okC_rd ho p0 p1
    have hw : wrap64 (rd l p + z) = rd l p + z := w64 (by omega) (by omega)
    refine ev_succ ?_
    simp only [spec_fiCount.l0, hg, hw]
    rw [winc (by omega)]
    refine ev_pos hm (ev_pos (by omega) (ev_pos hm (ev_pos p0 (ev_pos p1 ?_))))
    by_cases c2 : rd l p + z < 0
    · refine ev_pos c2 (ev_some ?_)
      have : ¬ rd l p = 15 := by omega
      simp [fiC, upC, this, c2]
    · refine ev_neg c2 ?_
      by_cases c : rd l p = 15
      · have hs : fiC z a b (p :: t) l = fiC z a b t l := by simp [fiC, upC, c]
        rw [hs]
        have := ih (pre ++ [p]) l (by rw [e]; simp) (fun q hq => hi q (by simp [hq])) ho
        rw [len_one] at this
        exact ev_neg (by omega) this
      · have hs : fiC z a b (p :: t) l = fiC z a b t (l.set p.toNat (rd l p + z)) := by simp [fiC, upC, c, c2]
        rw [hs]
        have := ih (pre ++ [p]) (l.set p.toNat (rd l p + z)) (by rw [e]; simp) (fun q hq => by rw [List.length_set]; exact hi q (by simp [hq])) (okC_set ho _ (by omega) (by omega))
        rw [len_one] at this
        exact ev_pos (by omega) this

def all15 (l : List Int) : Bool := l.all (fun x => decide (0 ≤ x ∧ x ≤ 15))
theorem all15_ok {l : List Int} : all15 l = true ↔ okC l := by
  unfold all15 okC
  rw [List.all_eq_true]
  simp
def isCountB (a b : Int) (l : List Int) : Bool := sizesB a b (l.length : Int) && all15 l
theorem isCountB_ok {a b : Int} {l : List Int} (h : isCountB a b l = true) : (0 ≤ a ∧ a ≤ 9999) ∧ (1 ≤ b ∧ b ≤ 8) ∧ (1 ≤ (l.length : Int) ∧ (l.length : Int) ≤ 512) ∧ okC l := by
  rw [isCountB, Bool.and_eq_true] at h
  obtain ⟨x, y, z⟩ := sizesB_ok h.1
  exact ⟨x, y, z, all15_ok.1 h.2⟩
theorem spec_all15_l0 (x9 : List Int) (hl : (x9.length : Int) ≤ 9223372036854775806) : ∀ (t pre : List Int), x9 = pre ++ t →
    Ev (fun k => spec_l1All.l0 k 0 15 x9 (x9.length : Int) (pre.length : Int)) (all15 t) := by
  intro t
  induction t with
  | nil =>
    intro pre h
    refine ev_succ ?_
    simp only [spec_l1All.l0]
    exact ev_neg (by rw [h]; exact not_lt_end) (ev_some (by simp [all15]))
  | cons s t ih =>
    intro pre h
    have hm : ((pre.length : Nat) : Int) < (x9.length : Int) := by rw [h]; exact lt_mid
    have hg : rd x9 (pre.length : Int) = s := by rw [h]; exact rd_mid
    refine ev_succ ?_
    simp only [spec_l1All.l0, hg, spec_in]
    refine ev_pos hm (ev_pos (by omega) (ev_pos hm (ev_bind _ (Ev.now _) ?_)))
    by_cases c : 0 ≤ s ∧ s ≤ 15
    · refine ev_pos (by simpa using c) ?_
      rw [winc (by omega)]
      have := ih (pre ++ [s]) (by rw [h]; simp)
      rw [len_one] at this
      rw [show all15 (s :: t) = all15 t from by simp [all15, c]]
      exact this
    · refine ev_neg (by simpa using c) (ev_some ?_)
      have : decide (0 ≤ s ∧ s ≤ 15) = false := decide_eq_false c
      simp only [all15, List.all_cons, this, Bool.false_and]
theorem spec_fiCounting_f (a b : Int) (l : List Int) (hl : (l.length : Int) ≤ 9223372036854775806) : Ev (fun k => spec_fiCounting.f k a b l) (isCountB a b l) := by
  unfold spec_fiCounting.f
  rw [spec_fiSize_f]
  simp only [Option.bind_some]
  by_cases c : sizesB a b (l.length : Int) = true
  · refine ev_pos c (ev_bind (all15 l) ?_ (ev_some (by simp [isCountB, c])))
    unfold spec_l1All.f
    exact spec_all15_l0 l hl l [] rfl
  · exact ev_neg c (ev_some (by simp [isCountB, c]))
theorem impl_IsCounting_l0 (x0 : List Int) (hl : (x0.length : Int) ≤ 9223372036854775806) : ∀ (t pre : List Int), x0 = pre ++ t →
    ∃ r : Int, Ev (fun k => slices_IndexFunc_int_int_at_impl_IsCounting_1.l0 k x0 (x0.length : Int) (pre.length : Int)) r ∧ decide (r ≥ 0) = !(all15 t) := by
  intro t
  induction t with
  | nil =>
    intro pre h
    refine ⟨-1, ev_succ ?_, by simp [all15]⟩
    simp only [slices_IndexFunc_int_int_at_impl_IsCounting_1.l0]
    exact ev_neg (by rw [h]; exact not_lt_end) (ev_some rfl)
  | cons x t ih =>
    intro pre h
    have hm : ((pre.length : Nat) : Int) < (x0.length : Int) := by rw [h]; exact lt_mid
    have hg : rd x0 (pre.length : Int) = x := by rw [h]; exact rd_mid
    have hc : impl_IsCounting_1.f x = some (!decide (0 ≤ x ∧ x ≤ 15)) := by
      unfold impl_IsCounting_1.f
      rw [impl_in]; rfl
    by_cases c : 0 ≤ x ∧ x ≤ 15
    · obtain ⟨r, h1, h2⟩ := ih (pre ++ [x]) (by rw [h]; simp)
      refine ⟨r, ev_succ ?_, by rw [h2]; simp [all15, c]⟩
      simp only [slices_IndexFunc_int_int_at_impl_IsCounting_1.l0, hg, hc]
      refine ev_pos hm (ev_pos (by omega) (ev_pos hm (ev_bind _ (Ev.now _) (ev_neg (by simp [c]) ?_))))
      rw [winc (by omega)]
      rw [len_one] at h1
      exact h1
    · refine ⟨(pre.length : Int), ev_succ ?_, ?_⟩
      · simp only [slices_IndexFunc_int_int_at_impl_IsCounting_1.l0, hg, hc]
        exact ev_pos hm (ev_pos (by omega) (ev_pos hm (ev_bind _ (Ev.now _) (ev_pos (by rw [decide_eq_false c]; rfl) (Ev.now _)))))
      · have : decide (0 ≤ x ∧ x ≤ 15) = false := decide_eq_false c
        simp only [all15, List.all_cons, this, Bool.false_and]
        simp
theorem impl_IsCounting_f (a b : Int) (l : List Int) (hl : (l.length : Int) ≤ 9223372036854775806) : Ev (fun k => impl_IsCounting.f k a b l) (isCountB a b l) := by
  unfold impl_IsCounting.f
  obtain ⟨r, h1, h2⟩ := impl_IsCounting_l0 l hl l [] rfl
  refine ev_bind (!(all15 l)) ?_ ?_
  · unfold slices_ContainsFunc_int_int_at_impl_IsCounting_1.f slices_IndexFunc_int_int_at_impl_IsCounting_1.f
    exact ev_bind _ h1 (ev_some h2)
  · by_cases c : all15 l = true
    · refine ev_neg (by simp [c]) ?_
      rw [impl_sizesOk_f]
      exact ev_bind _ (Ev.now _) (ev_some (by simp [isCountB, c]))
    · exact ev_pos (by simp [c]) (ev_some (by simp [isCountB, c]))

def mkL (b : Nat → Bool) : Nat → Nat → List Int → List Int
  | 0, _, acc => acc
  | m + 1, i, acc => mkL b m (i + 1) (if b i = true then setV acc (i : Int) else acc)
theorem blankC_bit (n : Int) (q : Nat) : bitN (blankV n) q = false := by
  unfold bitN blankV
  rw [List.getD_eq_getElem?_getD, List.getElem?_replicate]
  split <;> simp
theorem blankC_okW (n : Int) : okW (blankV n) := fun w hw => by rw [List.eq_of_mem_replicate hw]; omega
theorem blankC_bitsB {n : Int} (h0 : 1 ≤ n) (h1 : n ≤ 512) : bitsB n (blankV n) = true := by
  have hb := blankV_len h0
  have hr : ∀ i : Int, rd (blankV n) i = 0 := fun i => by
    unfold rd blankV
    rw [List.getD_eq_getElem?_getD, List.getElem?_replicate]
    split <;> rfl
  have ha : all16 (blankV n) = true := by
    rw [all16_ok]
    exact blankC_okW n
  simp only [bitsB, ha, hr, Bool.and_eq_true, Bool.or_eq_true, decide_eq_true_eq, beq_iff_eq, Bool.true_and]
  refine ⟨by omega, hb, .inr ?_⟩
  obtain ⟨j, hj⟩ : ∃ j : Nat, n % 16 = (j : Int) := ⟨(n % 16).toNat, by omega⟩
  rw [hj]
  have := shrN (w := 0) (j := j) (by omega)
  simpa using this
theorem bitsB_mkL {n : Int} (b : Nat → Bool) : ∀ (m i : Nat) (acc : List Int), bitsB n acc = true → ((i + m : Nat) : Int) ≤ n → bitsB n (mkL b m i acc) = true
  | 0, _, _, h, _ => h
  | m + 1, i, acc, h, hm => by
    rw [mkL]
    refine bitsB_mkL b m (i + 1) _ ?_ (by omega)
    split
    · exact bitsB_setV h (by omega) (by omega)
    · exact h
def onC (l : List Int) (i : Nat) : Bool := decide (rd l (i : Int) ≠ 0)
def bloomC (l : List Int) : List Int := mkL (onC l) l.length 0 (blankV (l.length : Int))
theorem impl_clrC_f (n : Int) {l : List Int} (hl : okW l) {p : Nat} (h1 : (p : Int) ≤ 1000000) (h2 : p / 16 < l.length) (hz : bitN l p = false) : impl_Bits_set.f n l (p : Int) false = some l := by
  have hc := clrV hl h2 hz
  unfold impl_Bits_set.f
  rw [(div16 (p := (p : Int)) (by omega) h1).1, (div16 (p := (p : Int)) (by omega) h1).2, if_pos (by omega), if_pos (by omega), if_pos (by omega)]
  simp only [Option.bind_some, Bool.false_eq_true, if_false]
  rw [hc]
theorem impl_made_l0 (a b : Int) (l : List Int) (hn : l.length ≤ 1000) (z : Int) : ∀ (m i : Nat) (acc : List Int), i + m = l.length → okW acc → l.length ≤ 16 * acc.length → (∀ q, i ≤ q → bitN acc q = false) →
    Ev (fun k => impl_madeBits_at_impl_Counting_bloom_1.l0 k (l.length : Int) (i : Int) a b l z acc) (z, mkL (onC l) m i acc) := by
  intro m
  induction m with
  | zero =>
    intro i acc e hW hl hz
    refine ev_succ ?_
    simp only [impl_madeBits_at_impl_Counting_bloom_1.l0]
    exact ev_neg (by omega) (ev_some rfl)
  | succ m ih =>
    intro i acc e hW hl hz
    have hc : impl_Counting_bloom_1.f (i : Int) a b l = some (onC l i) := by
      unfold impl_Counting_bloom_1.f
      rw [if_pos (by omega), if_pos (by omega)]
      congr 1
      unfold onC
      by_cases c : rd l (i : Int) = 0 <;> simp [c]
    refine ev_succ ?_
    simp only [impl_madeBits_at_impl_Counting_bloom_1.l0]
    rw [hc, winc (by omega), mkL]
    refine ev_pos (by omega) (ev_bind _ (Ev.now _) ?_)
    by_cases c : onC l i = true
    · rw [c, if_pos rfl, impl_Bits_set_f z acc (by omega) (by omega) (by omega)]
      refine ev_bind _ (Ev.now _) (ih (i + 1) (setV acc (i : Int)) (by omega) (okW_setV hW (by omega)) (by rw [setV_len]; exact hl) (fun q hq => ?_))
      rw [bit_setV hW (by omega), hz q (by omega), decide_eq_false (by omega)]
      rfl
    · simp only [Bool.not_eq_true] at c
      rw [c, if_neg (by simp), impl_clrC_f z hW (by omega) (by omega) (hz i (Nat.le_refl _))]
      exact ev_bind _ (Ev.now _) (ih (i + 1) acc (by omega) hW hl (fun q hq => hz q (by omega)))
theorem impl_bloom_f (a b : Int) {l : List Int} (h0 : 1 ≤ (l.length : Int)) (h1 : (l.length : Int) ≤ 512) : Ev (fun k => impl_Counting_bloom.f k a b l) (a, b, (l.length : Int), bloomC l) := by
  have hw : impl_words.f (l.length : Int) = some (((l.length : Int) + 15) / 16) := by
    unfold impl_words.f
    rw [w64 (x := (l.length : Int) + 16) (by omega) (by omega), w64 (x := (l.length : Int) + 16 - 1) (by omega) (by omega), Int.tdiv_eq_ediv_of_nonneg (by omega), w64 (by omega) (by omega), show (l.length : Int) + 16 - 1 = (l.length : Int) + 15 from by omega]
  have hb : impl_blank.f (l.length : Int) = some ((l.length : Int), blankV (l.length : Int)) := by
    unfold impl_blank.f
    rw [hw]
    simp only [Option.bind_some]
    rw [if_pos (by omega), if_pos (by omega)]
    rfl
  have hbl := blankV_len h0
  have := impl_made_l0 a b l (by omega) (l.length : Int) l.length 0 (blankV (l.length : Int)) (by omega) (blankC_okW _) (by omega) (fun q _ => blankC_bit _ q)
  unfold impl_Counting_bloom.f impl_madeBits_at_impl_Counting_bloom_1.f
  rw [hb]
  exact ev_bind _ (ev_bind _ (Ev.now _) this) (Ev.now _)
theorem spec_fiBits_l0 (l : List Int) (hn : l.length ≤ 1000) (ho : okC l) (y0 y1 y2 : Int) : ∀ (m i : Nat) (acc : List Int), i + m = l.length → l.length ≤ 16 * acc.length →
    Ev (fun k => spec_fiBits.l0 k l (l.length : Int) (i : Int) y0 y1 y2 acc) (y0, y1, y2, mkL (onC l) m i acc) := by
  intro m
  induction m with
  | zero =>
    intro i acc e hl
    refine ev_succ ?_
    simp only [spec_fiBits.l0]
    exact ev_neg (by omega) (ev_some rfl)
  | succ m ih =>
    intro i acc e hl
    obtain ⟨c0, c1⟩ := okC_rd ho (p := (i : Int)) (by omega) (by omega)
    refine ev_succ ?_
    simp only [spec_fiBits.l0]
    rw [spec_biSet_f _ acc (by omega) (by omega) (by omega), winc (by omega), mkL]
    refine ev_pos (by omega) (ev_pos (by omega) (ev_pos (by omega) ?_))
    by_cases c : rd l (i : Int) = 0
    · rw [if_neg (by simp [onC, c])]
      exact ev_neg (by omega) (ih (i + 1) _ (by omega) hl)
    · rw [if_pos (by simp [onC, c])]
      exact ev_pos (by omega) (ev_bind _ (Ev.now _) (ih (i + 1) _ (by omega) (by rw [setV_len]; exact hl)))
theorem spec_fiBits_f (a b : Int) {l : List Int} (h0 : 1 ≤ (l.length : Int)) (h1 : (l.length : Int) ≤ 512) (ho : okC l) : Ev (fun k => spec_fiBits.f k a b l) (a, b, (l.length : Int), bloomC l) := by
  have hb : spec_biNew.f (l.length : Int) = some ((l.length : Int), blankV (l.length : Int)) := by
    unfold spec_biNew.f
    rw [words15 h0 h1, if_pos (by omega), if_pos (by omega)]
    rfl
  have hn : spec_fiNew.f a b (l.length : Int) = some (a, b, (l.length : Int), blankV (l.length : Int)) := by
    unfold spec_fiNew.f
    rw [hb]
    rfl
  have hbl := blankV_len h0
  unfold spec_fiBits.f
  rw [hn]
  exact ev_bind _ (Ev.now _) (spec_fiBits_l0 l (by omega) ho a b (l.length : Int) l.length 0 (blankV (l.length : Int)) (by omega) (by omega))
theorem bloomC_good {a b : Int} {l : List Int} (h : isCountB a b l = true) : isBloomB a b (l.length : Int) (bloomC l) = true := by
  obtain ⟨_, _, ⟨p4, p5⟩, _⟩ := isCountB_ok h
  rw [isCountB, Bool.and_eq_true] at h
  rw [isBloomB, h.1, Bool.true_and]
  exact bitsB_mkL _ l.length 0 _ (blankC_bitsB p4 p5) (by omega)
section
variable {a b : Int} {l : List Int} (h : isCountB a b l = true)
include h
theorem probes_inC (s : ByteArray) : inC l (probesL a s (l.length : Int) b.toNat 0) := fun p hp => by
  obtain ⟨_, _, ⟨p4, p5⟩, _⟩ := isCountB_ok h
  exact probesL_range a s p4 (by omega) b.toNat 0 p hp
theorem impl_change_f {z : Int} (hz : z = 1 ∨ z = -1) (s : ByteArray) (hs : (s.size : Int) ≤ 9223372036854775806) : ∃ y, Ev (fun k => impl_Counting_change.f k a b l s z) ((upC z (probesL a s (l.length : Int) b.toNat 0) l).isSome, y) ∧ ∀ l', upC z (probesL a s (l.length : Int) b.toNat 0) l = some l' → y = l' := by
  obtain ⟨⟨p0, p1⟩, ⟨p2, p3⟩, ⟨p4, p5⟩, ho⟩ := isCountB_ok h
  have hin := probes_inC h s
  have hlen := probesL_len a s (l.length : Int) b.toNat 0
  obtain ⟨y, e1, e2⟩ := impl_change_l0 hz (probesL a s (l.length : Int) b.toNat 0) (by omega) a b _ [] l rfl hin ho
  refine ⟨y, ?_, e2⟩
  unfold impl_Counting_change.f
  exact ev_bind _ (impl_probesOf_f a b (l.length : Int) s hs p0 (by omega) (by omega) (by omega)) e1
theorem spec_fiCount_f {z : Int} (hz : z = 1 ∨ z = -1) (s : ByteArray) (hs : (s.size : Int) ≤ 9223372036854775806) : Ev (fun k => spec_fiCount.f k a b l s z) (fiC z a b (probesL a s (l.length : Int) b.toNat 0) l) := by
  obtain ⟨⟨p0, p1⟩, ⟨p2, p3⟩, ⟨p4, p5⟩, ho⟩ := isCountB_ok h
  have hin := probes_inC h s
  have hlen := probesL_len a s (l.length : Int) b.toNat 0
  have e : spec_l1Own.f l = some l := by
    unfold spec_l1Own.f
    simp only [Option.bind_some, List.length_nil, List.nil_append]
    rw [if_pos (by omega)]
  unfold spec_fiCount.f
  rw [e]
  exact ev_bind _ (Ev.now _) (ev_bind _ (spec_fiProbes_f a b (l.length : Int) s hs p0 (by omega) (by omega) (by omega)) (spec_fiCount_l0 hz _ (by omega) a b _ [] l rfl hin ho))
end
theorem impl_cloneCounting_f (a b : Int) {l : List Int} (h : l.length ≤ 1000000) : impl_cloneCounting.f a b l = some (a, b, l) := by
  have e : slices_Clone_int_int.f l = some l := by
    unfold slices_Clone_int_int.f
    simp only [Option.bind_some, List.length_nil, List.nil_append]
    rw [if_pos (by omega)]
  unfold impl_cloneCounting.f
  rw [e]; rfl
def removeV (a b : Int) (l : List Int) (s : ByteArray) : Int × Int × List Int × Bool :=
  if (isCountB a b l && (isKeyB s && saysV a b (l.length : Int) (bloomC l) s)) = true then fiC (-1) a b (probesL a s (l.length : Int) b.toNat 0) l else (0, 0, [], false)
theorem upC_len {z : Int} : ∀ {t l l' : List Int}, upC z t l = some l' → l'.length = l.length
  | [], l, l', h => by simp only [upC, Option.some.injEq] at h; rw [h]
  | p :: t, l, l', h => by
    rw [upC] at h
    split at h
    · exact upC_len h
    · split at h
      · cases h
      · rw [upC_len h, List.length_set]
theorem fiC_len (z a b : Int) (t l : List Int) : (fiC z a b t l).2.2.1.length ≤ l.length := by
  unfold fiC
  split
  · rename_i l' h
    exact Nat.le_of_eq (upC_len h)
  · simp
theorem removeV_len (a b : Int) (l : List Int) (s : ByteArray) : (removeV a b l s).2.2.1.length ≤ 512 := by
  unfold removeV
  split
  · rename_i g
    rw [Bool.and_eq_true] at g
    obtain ⟨_, _, ⟨p4, p5⟩, _⟩ := isCountB_ok g.1
    have := fiC_len (-1) a b (probesL a s (l.length : Int) b.toNat 0) l
    omega
  · simp
section
variable (a b : Int) (l : List Int) (s : ByteArray) (hl : (l.length : Int) ≤ 9223372036854775806) (hz : (s.size : Int) ≤ 9223372036854775806)
include hl hz
theorem spec_CountingRemove_f : Ev (fun k => spec_CountingRemove.f k a b l s) (removeV a b l s) := by
  unfold spec_CountingRemove.f
  refine ev_bind _ (spec_fiCounting_f a b l hl) ?_
  by_cases c : isCountB a b l = true
  · obtain ⟨⟨p0, p1⟩, ⟨p2, p3⟩, ⟨p4, p5⟩, ho⟩ := isCountB_ok c
    refine ev_pos c (ev_bind _ (spec_IsKey_f s hz) ?_)
    by_cases c2 : isKeyB s = true
    · have hB := bloomC_good c
      obtain ⟨_, _, _, p6⟩ := isBloomB_ok hB
      refine ev_pos c2 (ev_bind _ (spec_fiBits_f a b p4 p5 ho) (ev_bind _ (spec_fiHas_f a b (l.length : Int) (bloomC l) s hz p0 (by omega) (by omega) (by omega) p4 (by omega) (by omega)) ?_))
      by_cases c3 : saysV a b (l.length : Int) (bloomC l) s = true
      · refine ev_pos c3 (ev_bind _ (spec_fiCount_f c (.inr rfl) s hz) (ev_some ?_))
        rw [removeV, if_pos (by rw [c, c2, c3]; rfl)]
      · exact ev_neg c3 (ev_some (by rw [removeV, if_neg (by simp [c3])]))
    · exact ev_neg c2 (ev_some (by rw [removeV, if_neg (by simp [c2])]))
  · exact ev_neg c (ev_some (by rw [removeV, if_neg (by simp [c])]))
theorem impl_CountingRemove_f : Ev (fun k => impl_CountingRemove.f k a b l s) (removeV a b l s) := by
  unfold impl_CountingRemove.f
  refine ev_bind _ (impl_IsCounting_f a b l hl) ?_
  by_cases c : isCountB a b l = true
  · obtain ⟨⟨p0, p1⟩, ⟨p2, p3⟩, ⟨p4, p5⟩, ho⟩ := isCountB_ok c
    refine ev_pos c (ev_bind _ (impl_IsKey_f s hz) (ev_succ ?_))
    simp only [impl_CountingRemove.j0]
    by_cases c2 : isKeyB s = true
    · have hB := bloomC_good c
      obtain ⟨_, _, _, p6⟩ := isBloomB_ok hB
      refine ev_neg (by simp [c2]) ?_
      rw [impl_cloneCounting_f a b (by omega)]
      refine ev_bind _ (Ev.now _) (ev_bind _ (impl_bloom_f a b p4 p5) (ev_bind _ (impl_says_f a b (l.length : Int) (bloomC l) s hz p0 (by omega) (by omega) (by omega) p4 (by omega) (by omega)) ?_))
      by_cases c3 : saysV a b (l.length : Int) (bloomC l) s = true
      · obtain ⟨y, e1, e2⟩ := impl_change_f c (.inr rfl) s hz
        have hv : removeV a b l s = fiC (-1) a b (probesL a s (l.length : Int) b.toNat 0) l := by rw [removeV, if_pos (by rw [c, c2, c3]; rfl)]
        rw [hv]
        refine ev_pos c3 (ev_bind _ e1 ?_)
        unfold fiC
        cases hu : upC (-1) (probesL a s (l.length : Int) b.toNat 0) l with
        | none => exact ev_neg (by simp) (Ev.now _)
        | some l' =>
          have := e2 l' hu
          subst this
          exact ev_pos (by simp) (Ev.now _)
      · exact ev_neg c3 (ev_some (by rw [removeV, if_neg (by simp [c3])]))
    · exact ev_pos (by simp [c2]) (ev_some (by rw [removeV, if_neg (by simp [c2])]))
  · refine ev_neg c (ev_succ ?_)
    simp only [impl_CountingRemove.j0]
    exact ev_pos (by trivial) (ev_some (by rw [removeV, if_neg (by simp [c])]))
end
end Go.Proofs.YtpkpjikkfikejaaQ
namespace Go.Proofs.YtpkpjikkfikejaaQ
open Go Go.RowKit Go.Proofs.YtpkpjikkfikejaaW.PrintWords Go.Proofs.YtpkpjikkfikejaaGp Go.Proofs.Ytpkpjikkfikejaa.PC

theorem szCounting_f (a0 a1 : Int) (l : List Int) (a : Int) (hl : l.length ≤ maxLen) (h0 : 0 ≤ a) (h1 : a ≤ 1048576) : laws_szCounting.f a0 a1 l a = some (leftI a l) := by
  unfold laws_szCounting.f
  rw [szIntS_f l a hl h0 h1]
  simp only [Option.bind_some]
  unfold leftI neg1
  split
  · rfl
  · rfl
theorem toCounting_f (a0 a1 : Int) (l : List Int) (hl : (l.length : Int) ≤ 1048576) : Ev (fun k => laws_toCounting.f k a0 a1 l) (a0, a1, l) := by
  unfold laws_toCounting.f
  exact ev_bind _ (toIntS_f l hl) (Ev.now _)
theorem eqCounting_same (a0 a1 : Int) (l : List Int) (hl : (l.length : Int) ≤ 9223372036854775806) : Ev (fun k => laws_eqCounting.f k a0 a1 l a0 a1 l) true := by
  unfold laws_eqCounting.f
  exact ev_pos rfl (ev_pos rfl (ev_bind true (by simpa using eqIntS_f l l hl) (ev_pos rfl (Ev.now _))))
theorem markCounting_f (a0 a1 : Int) (l : List Int) (a : Int) (h0 : 0 ≤ a) (h1 : a + (l.length : Int) ≤ 4611686018427387904) : Ev (fun k => laws_markCounting.f k a0 a1 l a) (a + (l.length : Int), counts l.length a) := by
  unfold laws_markCounting.f
  exact ev_bind _ (markIntS_f l a h0 h1) (Ev.now _)
theorem heldCounting_f (a0 a1 : Int) (m : Nat) (a : Int) (h0 : 0 ≤ a) (h1 : a + (m : Int) ≤ 4611686018427387904) : Ev (fun k => laws_heldCounting.f k a0 a1 (counts m a) a) (a + (m : Int)) := by
  unfold laws_heldCounting.f
  exact ev_bind _ (heldIntS_f m a h0 h1) (ev_neg (by omega) (Ev.now _))
end Go.Proofs.YtpkpjikkfikejaaQ
namespace Go.Proofs.Ytpkpjikkfikejaa.Pure
open Go Go.RowKit Go.Proofs.YtpkpjikkfikejaaW.PrintWords Go.Proofs.YtpkpjikkfikejaaGp Go.Proofs.Ytpkpjikkfikejaa.PC Go.Proofs.YtpkpjikkfikejaaQ

theorem FnExactCountingRemove : laws_FnExactCountingRemove.Pure := by
  intro a0 a1 l s ha0 ha1 hl hw hs
  have := maxLen_eq
  refine Ev.rounds (r := true) ?_
  unfold laws_FnExactCountingRemove.f
  by_cases c0 : (s.size : Int) > 1048576
  · exact ev_pos c0 (Ev.now _)
  refine ev_neg c0 ?_
  rw [szCounting_f a0 a1 l 1048576 hl (by omega) (by omega)]
  simp only [Option.bind_some]
  by_cases c : leftI 1048576 l < 0
  · exact ev_pos c (Ev.now _)
  · obtain ⟨_, hz⟩ := leftI_ok c
    have hT := toCounting_f a0 a1 l hz
    have hI := impl_CountingRemove_f a0 a1 l s (by omega) (by omega)
    have hS := spec_CountingRemove_f a0 a1 l s (by omega) (by omega)
    have hn := removeV_len a0 a1 l s
    refine ev_neg c (ev_bind _ hT (ev_bind _ hS (ev_bind _ hT (ev_bind _ hI ?_))))
    generalize removeV a0 a1 l s = R at *
    obtain ⟨g0, g1, ks, ok⟩ := R
    simp only at hn
    have hE := eqCounting_same g0 g1 ks (by omega)
    refine ev_bind _ hE (ev_pos rfl (ev_succ ?_))
    simp only [laws_FnExactCountingRemove.j0, bne_self_eq_false, Bool.false_eq_true, if_false]
    refine ev_bind _ hT (ev_bind _ (eqCounting_same a0 a1 l (by omega)) (ev_pos rfl (ev_bind _ (markCounting_f a0 a1 l 1 (by omega) (by omega)) (ev_neg (by simp only; omega) (ev_bind _ hE (ev_pos rfl (ev_succ ?_)))))))
    simp only [laws_FnExactCountingRemove.j1, Bool.false_eq_true, if_false]
    refine ev_bind _ (markCounting_f g0 g1 ks 1 (by omega) (by omega)) (ev_bind _ (heldCounting_f g0 g1 ks.length 1 (by omega) (by omega)) (ev_neg (by omega) (ev_pos rfl (ev_bind _ hT (ev_bind _ hI (ev_bind _ hE (ev_pos rfl (ev_succ ?_))))))))
    simp only [laws_FnExactCountingRemove.j2, bne_self_eq_false, Bool.false_eq_true, if_false]
    exact ev_bind _ (heldCounting_f g0 g1 ks.length 1 (by omega) (by omega)) (ev_neg (by omega) (ev_pos rfl (Ev.now _)))
end Go.Proofs.Ytpkpjikkfikejaa.Pure
