import Derived.Test.YtalfkfddpamnjaaGreatCA2
import Derived.Test.YtalfkfddpamnjaaGreatCA5
import Derived.Test.YtalfkfddpamnjaaGreatCA7
-- printed by a program of this session (wip/gp) out of the translation; Lean checks it
namespace Go.Proofs.YtalfkfddpamnjaaGreat.PA
open Go.RowKit Go.Proofs.YtalfkfddpamnjaaGreatW.PrintWords Go.Proofs.YtalfkfddpamnjaaGreatW.PrintLast Go.Proofs.YtalfkfddpamnjaaGreatW.PrintMore Go.Proofs.YtalfkfddpamnjaaGreatSq
attribute [local go_sem] max2_int min2_int max_two min_two max_three min_three max_four min_four   -- for this text's walks alone
attribute [local go_sem] Go.Proofs.YtalfkfddpamnjaaGreatGp.str_geq Go.Proofs.YtalfkfddpamnjaaGreatGp.str_gtr Go.Proofs.YtalfkfddpamnjaaGreatGp.str_leq
set_option linter.unusedVariables false
set_option linter.unusedSimpArgs false

set_option maxHeartbeats 8000000
set_option maxRecDepth 100000
def slices_Equal_int_int.l0 : Nat → List Int → List Int → Int → Int → Option (Bool)
 | 0, _, _, _, _ => none
 | k + 1, x0, x1, x12, x13 => if x13 < x12 then (if 0 ≤ x13 then (if x13 < (x0.length : Int) then (if x13 < (x1.length : Int) then (if (rd x0 x13) = (rd x1 x13) then (slices_Equal_int_int.l0 k x0 x1 x12 (wrap64 (x13 + 1))) else (some false)) else (none)) else (none)) else (none)) else (some true)
def slices_Equal_int_int.f (k : Nat) (l0 : List Int) (l1 : List Int) : Option (Bool) := if (l0.length : Int) = (l1.length : Int) then (slices_Equal_int_int.l0 k l0 l1 (l0.length : Int) 0) else (some false)
theorem slices_Equal_int_int.mono_l : ∀ k, (∀ y0 y1 y2 y3, LeO (slices_Equal_int_int.l0 k y0 y1 y2 y3) (slices_Equal_int_int.l0 (k + 1) y0 y1 y2 y3))
 | 0 => fun _ _ _ _ r h => by simp [slices_Equal_int_int.l0] at h
 | k + 1 => by
  have ih0 := slices_Equal_int_int.mono_l k
  ·intro y0 y1 y2 y3
   unfold slices_Equal_int_int.l0
   repeat' first | (with_reducible first | exact ih0 _ _ _ _ | exact LeO.refl _ | exact LeO.none _ | refine LeO.ite ?_ ?_ | refine LeO.bind ?_ (fun _ => ?_)) | exact LeO.none _ | refine LeO.ite ?_ ?_ | refine LeO.bind ?_ (fun _ => ?_)
theorem slices_Equal_int_int.mono : ∀ a0 a1 k, LeO (slices_Equal_int_int.f k a0 a1) (slices_Equal_int_int.f (k + 1) a0 a1) := by
 intro a0 a1 k; have ih0 := slices_Equal_int_int.mono_l k
 unfold slices_Equal_int_int.f
 repeat' first | (with_reducible first | exact ih0 _ _ _ _ | exact LeO.refl _ | exact LeO.none _ | refine LeO.ite ?_ ?_ | refine LeO.bind ?_ (fun _ => ?_)) | exact LeO.none _ | refine LeO.ite ?_ ?_ | refine LeO.bind ?_ (fun _ => ?_)
theorem slices_Equal_int_int.calls (k : Nat) (A0 : Option Addr) (c0 : Nat) (l0 : List Int) (A1 : Option Addr) (c1 : Nat) (l1 : List Int) (r : Bool) (w : World) (hr0 : Kd.C (Kd.int .i64) w A0 l0.length l0) (hc0 : l0.length ≤ c0) (hr1 : Kd.C (Kd.int .i64) w A1 l1.length l1) (hc1 : l1.length ≤ c1) (h : slices_Equal_int_int.f k l0 l1 = some r) :
  Calls Tryz.prog 46 #[.slice A0 l0.length c0, .slice A1 l1.length c1] w fun e w' => e = .returned (.bool r) ∧ Drawn0 w w' := by
 have HR0 := am hr0; have HC0 := am hc0; clear hr0 hc0; have HR1 := am hr1; have HC1 := am hc1; clear hr1 hc1; have H : (if (l0.length : Int) = (l1.length : Int) then (slices_Equal_int_int.l0 k l0 l1 (l0.length : Int) 0) else (some false)) = some r := h; clear h
 by_cases c3 : (l0.length : Int) = (l1.length : Int)
 ·rw [if_pos c3] at H
  have c3b0 : ((l0.length : Int) == (l1.length : Int)) = true := beq_iff_eq.mpr c3; have c3b1 : ((l0.length : Int) != (l1.length : Int)) = false := bne_eq_false_iff_eq.mpr c3
  have c3b2 : (l0.length == l1.length) = true := by first | simpa using c3 | (simp at c3 ⊢; omega)
  clear c3; have H' := am H; clear H
  go_enter Tryz.func46, Tryz.ntmps46
  go_wp2
  repeat (go_quiet (fail); try go_wp2)
  go_loopg [13] k (fun kq v13 w' => ∃ (x13_1 : Int), v13 = .int .i64 x13_1 ∧ Aside0 (slices_Equal_int_int.l0 kq l0 l1 (l0.length : Int) x13_1 = some r) ∧ Aside0 (kq ≤ k) ∧ Drawn0 w w')
  case atStart => exact ⟨(0), wZ, H', ⟨Nat.le_refl _⟩, by repeat (first | exact Drawn0.refl _ | apply Drawn0.step)⟩
  case round =>
   clear H'
   try clear c1
   try clear p2
   try clear c3
   try clear c3b0
   try clear c3b1
   try clear c3b2
   obtain ⟨x13_1, rfl, HA, HK1, ⟨m1, rfl⟩⟩ := hrel; cases gk with
   | zero => exact absurd HA.out (by simp [slices_Equal_int_int.l0])
   | succ k1 =>
    have H := HA.out; clear HA
    simp only [slices_Equal_int_int.l0] at H
    by_cases c4 : x13_1 < (l0.length : Int)
    ·rw [if_pos c4] at H
     have c4b0 : decide (x13_1 < (l0.length : Int)) = true := decide_eq_true c4; clear c4
     by_cases c5 : 0 ≤ x13_1
     ·rw [if_pos c5] at H
      have c5b0 : decide (0 ≤ x13_1) = true := decide_eq_true c5; clear c5
      by_cases c6 : x13_1 < (l0.length : Int)
      ·rw [if_pos c6] at H
       have c6b0 : decide (x13_1 < (l0.length : Int)) = true := decide_eq_true c6; clear c6
       by_cases c7 : x13_1 < (l1.length : Int)
       ·rw [if_pos c7] at H
        have c7b0 : decide (x13_1 < (l1.length : Int)) = true := decide_eq_true c7; clear c7
        by_cases c8 : (rd l0 x13_1) = (rd l1 x13_1)
        ·rw [if_pos c8] at H
         have c8b0 : ((rd l0 x13_1) == (rd l1 x13_1)) = true := beq_iff_eq.mpr c8; have c8b1 : ((rd l0 x13_1) != (rd l1 x13_1)) = false := bne_eq_false_iff_eq.mpr c8; clear c8; have H' := am H; clear H; obtain ⟨ad400, e400, hx400_0⟩ := Kd.at_int HR0.out x13_1 dT dT; cases e400; have p400 := eT (0 ≤ (x13_1 : Int)); have q400 := eT (x13_1 < (l0.length : Int)); obtain ⟨ad401, e401, hx401_0⟩ := Kd.at_int HR1.out x13_1 dT dT; cases e401; have p401 := eT (0 ≤ (x13_1 : Int)); have q401 := eT (x13_1 < (l1.length : Int))
         go_wp2
         repeat (go_quiet (fail); try go_wp2)
         go_roundg k1
         case measure => have := HK1.out; omega
         case rel => exact ⟨(wrap64 (x13_1 + 1)), wZ, H', ⟨by have := HK1.out; omega⟩, by repeat (first | exact Drawn0.refl _ | apply Drawn0.step)⟩
        ·rw [if_neg c8] at H
         have c8b0 : ((rd l0 x13_1) == (rd l1 x13_1)) = false := beq_eq_false_iff_ne.mpr c8; have c8b1 : ((rd l0 x13_1) != (rd l1 x13_1)) = true := bne_iff_ne.mpr c8; obtain rfl := Option.some.inj H; obtain ⟨ad400, e400, hx400_0⟩ := Kd.at_int HR0.out x13_1 dT dT; cases e400; have p400 := eT (0 ≤ (x13_1 : Int)); have q400 := eT (x13_1 < (l0.length : Int)); obtain ⟨ad401, e401, hx401_0⟩ := Kd.at_int HR1.out x13_1 dT dT; cases e401; have p401 := eT (0 ≤ (x13_1 : Int)); have q401 := eT (x13_1 < (l1.length : Int))
         go_wp2
         repeat (go_quiet (fail); try go_wp2)
         go_ret
         exact ⟨by first | rfl | (simp; done) | (simp [*]; done), by repeat (first | exact Drawn0.refl _ | apply Drawn0.step)⟩
       ·rw [if_neg c7] at H
        exact absurd H (by simp)
      ·rw [if_neg c6] at H
       exact absurd H (by simp)
     ·rw [if_neg c5] at H
      exact absurd H (by simp)
    ·rw [if_neg c4] at H
     have c4b0 : decide (x13_1 < (l0.length : Int)) = false := decide_eq_false c4; clear c4; obtain rfl := Option.some.inj H
     go_wp2
     repeat (go_quiet (fail); try go_wp2)
     go_ret
     exact ⟨by first | rfl | (simp; done) | (simp [*]; done), by repeat (first | exact Drawn0.refl _ | apply Drawn0.step)⟩
 ·rw [if_neg c3] at H
  have c3b0 : ((l0.length : Int) == (l1.length : Int)) = false := beq_eq_false_iff_ne.mpr c3; have c3b1 : ((l0.length : Int) != (l1.length : Int)) = true := bne_iff_ne.mpr c3
  have c3b2 : (l0.length == l1.length) = false := by first | simpa using c3 | (simp at c3 ⊢; omega)
  obtain rfl := Option.some.inj H
  go_enter Tryz.func46, Tryz.ntmps46
  go_wp2
  repeat (go_quiet (fail); try go_wp2)
  go_ret
  exact ⟨by first | rfl | (simp; done) | (simp [*]; done), by repeat (first | exact Drawn0.refl _ | apply Drawn0.step)⟩

def impl_sameBits.f (k : Nat) (a0_0 : Int) (l0_1 : List Int) (a1_0 : Int) (l1_1 : List Int) : Option (Bool) := if a0_0 = a1_0 then ((slices_Equal_int_int.f k l0_1 l1_1).bind fun t404 => (some t404)) else (some false)
theorem impl_sameBits.mono : ∀ a0 a1 a2 a3 k, LeO (impl_sameBits.f k a0 a1 a2 a3) (impl_sameBits.f (k + 1) a0 a1 a2 a3) := by
 intro a0 a1 a2 a3 k
 unfold impl_sameBits.f
 repeat' first | (with_reducible first | exact slices_Equal_int_int.mono _ _ _ | exact LeO.refl _ | exact LeO.none _ | refine LeO.ite ?_ ?_ | refine LeO.bind ?_ (fun _ => ?_)) | exact LeO.none _ | refine LeO.ite ?_ ?_ | refine LeO.bind ?_ (fun _ => ?_)
theorem impl_sameBits.calls (k : Nat) (a0_0 : Int) (A0_1 : Option Addr) (c0_1 : Nat) (l0_1 : List Int) (a1_0 : Int) (A1_1 : Option Addr) (c1_1 : Nat) (l1_1 : List Int) (r : Bool) (w : World) (hr0_1 : Kd.C (Kd.int .i64) w A0_1 l0_1.length l0_1) (hc0_1 : l0_1.length ≤ c0_1) (hr1_1 : Kd.C (Kd.int .i64) w A1_1 l1_1.length l1_1) (hc1_1 : l1_1.length ≤ c1_1) (h : impl_sameBits.f k a0_0 l0_1 a1_0 l1_1 = some r) :
  Calls Tryz.prog 26 #[.agg #[.int .i64 a0_0, .slice A0_1 l0_1.length c0_1], .agg #[.int .i64 a1_0, .slice A1_1 l1_1.length c1_1]] w fun e w' => e = .returned (.bool r) ∧ Below w.heap.size w w' := by
 have hu30 := Tryz.underlying30; have HR0_1 := am hr0_1; have HC0_1 := am hc0_1; clear hr0_1 hc0_1; have HR1_1 := am hr1_1; have HC1_1 := am hc1_1; clear hr1_1 hc1_1; have HB := am (Below.refl w.heap.size w); have H : (if a0_0 = a1_0 then ((slices_Equal_int_int.f k l0_1 l1_1).bind fun t404 => (some t404)) else (some false)) = some r := h; clear h
 by_cases c3 : a0_0 = a1_0
 ·rw [if_pos c3] at H
  have c3b0 : (a0_0 == a1_0) = true := beq_iff_eq.mpr c3; have c3b1 : (a0_0 != a1_0) = false := bne_eq_false_iff_eq.mpr c3; clear c3; replace H := Option.bind_eq_some_iff.mp H; obtain ⟨t404, A40, H⟩ := H; (try dsimp -simprocs only at H); have A4 := am A40; clear A40; obtain rfl := Option.some.inj H
  go_enter Tryz.func26, Tryz.ntmps26
  go_wp2_with (first | ((with_reducible refine gate_dst (N := 2) rfl ?_); refine bE 2 #[.int .i64 a0_0, .slice A0_1 l0_1.length c0_1] 30 ?_; intro gb402 hg w5 hbox hb; have n0_ := Bb HB hb; have n1_ := am (hbox); have n2_ := Gl HB hg; have n3_ := Gl HB hg; clear HB; revert n0_ n1_ n2_ n3_; intro HB BK402 GW402 GE402; clear hb hbox hg) | ((with_reducible refine gate_dst (N := 3) rfl ?_); refine bE 3 #[.int .i64 a1_0, .slice A1_1 l1_1.length c1_1] 30 ?_; intro gb403 hg w6 hbox hb; have n0_ := Kb BK402 hb; have n1_ := Bc HB hb; have n2_ := am (hbox); have n3_ := Gm HB hg; have n4_ := Gm HB hg; have n5_ := Nl BK402 hg; have n6_ := Ng BK402 hg; clear BK402 HB; revert n0_ n1_ n2_ n3_ n4_ n5_ n6_; intro BK402 HB BK403 GW403 GE403 NB402_403 NB403_402; clear hb hbox hg; have hnb7 := NB402_403.out; have hnc7 := NB403_402.out; obtain ⟨hcz8_0, hcz8_1, hfz8_0, hfz8_1⟩ := cf2 (w := w6) BK402; obtain ⟨hcz9_0, hcz9_1, hfz9_0, hfz9_1⟩ := cf2 (w := w6) BK403) | (go_at_call 46; (with_reducible refine (slices_Equal_int_int.calls k _ _ l0_1 _ _ l1_1 t404 _ ?side1 ?side2 ?side3 ?side4 A4.out).mono ?_); (case side1 => exact Cz (Kd.C_below HR0_1.out HB.out)); (case side2 => exact HC0_1.out); (case side3 => exact Cz (Kd.C_below HR1_1.out HB.out)); (case side4 => exact HC1_1.out); rintro e w' ⟨rfl, ⟨nd, rfl⟩⟩))
  go_ret
  exact ⟨eZ, Bq⟩
 ·rw [if_neg c3] at H
  have c3b0 : (a0_0 == a1_0) = false := beq_eq_false_iff_ne.mpr c3; have c3b1 : (a0_0 != a1_0) = true := bne_iff_ne.mpr c3; obtain rfl := Option.some.inj H
  go_enter Tryz.func26, Tryz.ntmps26
  go_wp2_with (first | ((with_reducible refine gate_dst (N := 2) rfl ?_); refine bE 2 #[.int .i64 a0_0, .slice A0_1 l0_1.length c0_1] 30 ?_; intro gb402 hg w10 hbox hb; have n0_ := Bb HB hb; have n1_ := am (hbox); have n2_ := Gl HB hg; have n3_ := Gl HB hg; clear HB; revert n0_ n1_ n2_ n3_; intro HB BK402 GW402 GE402; clear hb hbox hg) | ((with_reducible refine gate_dst (N := 3) rfl ?_); refine bE 3 #[.int .i64 a1_0, .slice A1_1 l1_1.length c1_1] 30 ?_; intro gb403 hg w11 hbox hb; have n0_ := Kb BK402 hb; have n1_ := Bc HB hb; have n2_ := am (hbox); have n3_ := Gm HB hg; have n4_ := Gm HB hg; have n5_ := Nl BK402 hg; have n6_ := Ng BK402 hg; clear BK402 HB; revert n0_ n1_ n2_ n3_ n4_ n5_ n6_; intro BK402 HB BK403 GW403 GE403 NB402_403 NB403_402; clear hb hbox hg; have hnb12 := NB402_403.out; have hnc12 := NB403_402.out; obtain ⟨hcz13_0, hcz13_1, hfz13_0, hfz13_1⟩ := cf2 (w := w11) BK402; obtain ⟨hcz14_0, hcz14_1, hfz14_0, hfz14_1⟩ := cf2 (w := w11) BK403))
  go_ret
  exact ⟨eZ, Bq⟩

end Go.Proofs.YtalfkfddpamnjaaGreat.PA
-- printed by a program of this session (wip/gp) out of the translation; Lean checks it
namespace Go.Proofs.YtalfkfddpamnjaaGreat.PA
open Go.RowKit Go.Proofs.YtalfkfddpamnjaaGreatW.PrintWords Go.Proofs.YtalfkfddpamnjaaGreatW.PrintLast Go.Proofs.YtalfkfddpamnjaaGreatW.PrintMore Go.Proofs.YtalfkfddpamnjaaGreatSq
attribute [local go_sem] max2_int min2_int max_two min_two max_three min_three max_four min_four   -- for this text's walks alone
attribute [local go_sem] Go.Proofs.YtalfkfddpamnjaaGreatGp.str_geq Go.Proofs.YtalfkfddpamnjaaGreatGp.str_gtr Go.Proofs.YtalfkfddpamnjaaGreatGp.str_leq
set_option linter.unusedVariables false
set_option linter.unusedSimpArgs false

set_option maxHeartbeats 8000000
set_option maxRecDepth 100000
mutual
def impl_Trie_nodes.j0 : Nat → Bool → Int → List Int → Int → List Int → ByteArray → Option (List ByteArray)
 | 0, _, _, _, _, _, _ => none
 | k + 1, x50, x1000, x1001, x1002, x1003, x1004 => if x50 = true then (some ([] : List ByteArray)) else (impl_Trie_nodes.l0 k (([(⟨#[]⟩ : ByteArray)] : List ByteArray)) 0 x1000 0 x1000 x1001 x1002 x1003 x1004)
def impl_Trie_nodes.l0 : Nat → List ByteArray → Int → Int → Int → Int → List Int → Int → List Int → ByteArray → Option (List ByteArray)
 | 0, _, _, _, _, _, _, _, _, _ => none
 | k + 1, x3, x4, x56, x57, x1000, x1001, x1002, x1003, x1004 => if x57 < x56 then (if x4 ≥ (x3.length : Int) then (some ([] : List ByteArray)) else ((impl_Bits_at.f x1000 x1001 x57).bind fun t416 => (if t416 = true then (if (x3.length : Int) > (x1004.size : Int) then (some ([] : List ByteArray)) else (if 0 ≤ x4 then (if x4 < (x3.length : Int) then (if ((rdOf ByteArray.empty x3 x4).size : Int) = 12 then (some ([] : List ByteArray)) else (if 0 ≤ (wrap64 ((x3.length : Int) - 1)) then (if (wrap64 ((x3.length : Int) - 1)) ≤ (x3.length : Int) then (if (x3.length : Int) ≤ (x1004.size : Int) then (if (rdOf ByteArray.empty x3 x4).size + (x1004.extract ((wrap64 ((x3.length : Int) - 1)) : Int).toNat ((x3.length : Int) : Int).toNat).size ≤ 9223372036854775807 then (if x3.length < 8796093022208 then (impl_Trie_nodes.l0 k (x3 ++ [(rdOf ByteArray.empty x3 x4) ++ (x1004.extract ((wrap64 ((x3.length : Int) - 1)) : Int).toNat ((x3.length : Int) : Int).toNat)]) x4 x56 (wrap64 (x57 + 1)) x1000 x1001 x1002 x1003 x1004) else (none)) else (none)) else (none)) else (none)) else (none))) else (none)) else (none))) else (impl_Trie_nodes.l0 k x3 (wrap64 (x4 + 1)) x56 (wrap64 (x57 + 1)) x1000 x1001 x1002 x1003 x1004)))) else ((impl_Trie_ends.f k x1000 x1001 x1002 x1003 x1004 x3).bind fun t422 => (if (x3.length : Int) = x1002 then ((impl_AreKeys.f k t422).bind fun t425 => (impl_Trie_nodes.j2 k x3 t422 (!t425) x1000 x1001 x1002 x1003 x1004)) else (impl_Trie_nodes.j2 k x3 t422 true x1000 x1001 x1002 x1003 x1004)))
def impl_Trie_nodes.j2 : Nat → List ByteArray → List ByteArray → Bool → Int → List Int → Int → List Int → ByteArray → Option (List ByteArray)
 | 0, _, _, _, _, _, _, _, _ => none
 | k + 1, x3, x6, x125, x1000, x1001, x1002, x1003, x1004 => if x125 = true then (some ([] : List ByteArray)) else ((impl_trie.f k x6).bind fun bt426 => ((impl_sameBits.f k bt426.1 bt426.2.1 x1000 x1001).bind fun t436 => (if t436 = true then ((impl_sameBits.f k bt426.2.2.1 bt426.2.2.2.1 x1002 x1003).bind fun t437 => (if t437 = true then (if bt426.2.2.2.2.toList = x1004.toList then (if 0 < (x3.length : Int) then (some x3) else (none)) else (some ([] : List ByteArray))) else (some ([] : List ByteArray)))) else (some ([] : List ByteArray)))))
end
def impl_Trie_nodes.f (k : Nat) (a0_0 : Int) (l0_1 : List Int) (a0_2 : Int) (l0_3 : List Int) (a0_4 : ByteArray) : Option (List ByteArray) := (impl_IsBits.f k a0_0 l0_1).bind fun t411 => (if t411 = true then ((impl_IsBits.f k a0_2 l0_3).bind fun t412 => (if t412 = true then (if a0_0 = (wrap64 ((wrap64 (2 * a0_2)) - 1)) then (impl_Trie_nodes.j0 k ((a0_4.size : Int) != (wrap64 (a0_2 - 1))) a0_0 l0_1 a0_2 l0_3 a0_4) else (impl_Trie_nodes.j0 k true a0_0 l0_1 a0_2 l0_3 a0_4)) else (impl_Trie_nodes.j0 k true a0_0 l0_1 a0_2 l0_3 a0_4))) else (impl_Trie_nodes.j0 k true a0_0 l0_1 a0_2 l0_3 a0_4))
theorem impl_Trie_nodes.mono_l : ∀ k, (∀ y0 y1 y2 y3 y4 y5, LeO (impl_Trie_nodes.j0 k y0 y1 y2 y3 y4 y5) (impl_Trie_nodes.j0 (k + 1) y0 y1 y2 y3 y4 y5)) ∧ (∀ y0 y1 y2 y3 y4 y5 y6 y7 y8, LeO (impl_Trie_nodes.l0 k y0 y1 y2 y3 y4 y5 y6 y7 y8) (impl_Trie_nodes.l0 (k + 1) y0 y1 y2 y3 y4 y5 y6 y7 y8)) ∧ (∀ y0 y1 y2 y3 y4 y5 y6 y7, LeO (impl_Trie_nodes.j2 k y0 y1 y2 y3 y4 y5 y6 y7) (impl_Trie_nodes.j2 (k + 1) y0 y1 y2 y3 y4 y5 y6 y7))
 | 0 => ⟨fun _ _ _ _ _ _ r h => by simp [impl_Trie_nodes.j0] at h, fun _ _ _ _ _ _ _ _ _ r h => by simp [impl_Trie_nodes.l0] at h, fun _ _ _ _ _ _ _ _ r h => by simp [impl_Trie_nodes.j2] at h⟩
 | k + 1 => by
  obtain ⟨ih0, ih1, ih2⟩ := impl_Trie_nodes.mono_l k; refine ⟨?_, ?_, ?_⟩
  ·intro y0 y1 y2 y3 y4 y5
   unfold impl_Trie_nodes.j0
   repeat' first | (with_reducible first | exact ih0 _ _ _ _ _ _ | exact ih1 _ _ _ _ _ _ _ _ _ | exact ih2 _ _ _ _ _ _ _ _ | exact impl_AreKeys.mono _ _ | exact impl_IsBits.mono _ _ _ | exact impl_Trie_ends.mono _ _ _ _ _ _ _ | exact impl_sameBits.mono _ _ _ _ _ | exact impl_trie.mono _ _ | exact LeO.refl _ | exact LeO.none _ | refine LeO.ite ?_ ?_ | refine LeO.bind ?_ (fun _ => ?_)) | exact LeO.none _ | refine LeO.ite ?_ ?_ | refine LeO.bind ?_ (fun _ => ?_)
  ·intro y0 y1 y2 y3 y4 y5 y6 y7 y8
   unfold impl_Trie_nodes.l0
   repeat' first | (with_reducible first | exact ih0 _ _ _ _ _ _ | exact ih1 _ _ _ _ _ _ _ _ _ | exact ih2 _ _ _ _ _ _ _ _ | exact impl_AreKeys.mono _ _ | exact impl_IsBits.mono _ _ _ | exact impl_Trie_ends.mono _ _ _ _ _ _ _ | exact impl_sameBits.mono _ _ _ _ _ | exact impl_trie.mono _ _ | exact LeO.refl _ | exact LeO.none _ | refine LeO.ite ?_ ?_ | refine LeO.bind ?_ (fun _ => ?_)) | exact LeO.none _ | refine LeO.ite ?_ ?_ | refine LeO.bind ?_ (fun _ => ?_)
  ·intro y0 y1 y2 y3 y4 y5 y6 y7
   unfold impl_Trie_nodes.j2
   repeat' first | (with_reducible first | exact ih0 _ _ _ _ _ _ | exact ih1 _ _ _ _ _ _ _ _ _ | exact ih2 _ _ _ _ _ _ _ _ | exact impl_AreKeys.mono _ _ | exact impl_IsBits.mono _ _ _ | exact impl_Trie_ends.mono _ _ _ _ _ _ _ | exact impl_sameBits.mono _ _ _ _ _ | exact impl_trie.mono _ _ | exact LeO.refl _ | exact LeO.none _ | refine LeO.ite ?_ ?_ | refine LeO.bind ?_ (fun _ => ?_)) | exact LeO.none _ | refine LeO.ite ?_ ?_ | refine LeO.bind ?_ (fun _ => ?_)
theorem impl_Trie_nodes.mono : ∀ a0 a1 a2 a3 a4 k, LeO (impl_Trie_nodes.f k a0 a1 a2 a3 a4) (impl_Trie_nodes.f (k + 1) a0 a1 a2 a3 a4) := by
 intro a0 a1 a2 a3 a4 k; obtain ⟨ih0, ih1, ih2⟩ := impl_Trie_nodes.mono_l k
 unfold impl_Trie_nodes.f
 repeat' first | (with_reducible first | exact ih0 _ _ _ _ _ _ | exact ih1 _ _ _ _ _ _ _ _ _ | exact ih2 _ _ _ _ _ _ _ _ | exact impl_AreKeys.mono _ _ | exact impl_IsBits.mono _ _ _ | exact impl_Trie_ends.mono _ _ _ _ _ _ _ | exact impl_sameBits.mono _ _ _ _ _ | exact impl_trie.mono _ _ | exact LeO.refl _ | exact LeO.none _ | refine LeO.ite ?_ ?_ | refine LeO.bind ?_ (fun _ => ?_)) | exact LeO.none _ | refine LeO.ite ?_ ?_ | refine LeO.bind ?_ (fun _ => ?_)
def impl_Trie_nodes.T1 : Bool × List (List Nat × List Nat) := (true, [([], []), ([0], [0]), ([1], [1]), ([2], [2]), ([3], [3]), ([4], [4]), ([5, 4], [5]), ([6], [6]), ([7, 6], [6, 7]), ([8, 6], [6, 8]), ([9, 6], [6, 9]), ([10, 6, 6], [6, 10]), ([11, 6], [6, 11]), ([6, 12], [6, 12]), ([13, 11], [13]), ([14], [14]), ([15, 14], [14, 15]), ([16, 14], [14, 16]), ([17, 14], [14, 17]), ([18, 14], [14, 18]), ([14], [14]), ([20, 14], [14, 20]), ([21, 14], [14, 21]), ([22, 14], [14, 22]), ([23, 14], [14, 23]), ([24, 14], [14, 24]), ([25, 14], [14, 25]), ([19, 26, 14], [14, 19, 26]), ([14, 27], [14, 27]), ([28, 14], [28]), ([29], [29]), ([30, 29], [29, 30]), ([31, 29], [29, 31]), ([32, 29], [29, 32]), ([33, 29], [29, 33]), ([29], [29]), ([35, 29], [29, 35]), ([36, 29], [29, 36]), ([37, 29], [29, 37]), ([38, 29], [29, 38]), ([39, 29], [29, 39]), ([34, 40, 29], [29, 34, 40]), ([29, 41], [29, 41])])
def impl_Trie_nodes.B1 : List Nat := [0, 1, 3, 7, 15, 31, 63, 127, 255, 511, 1023, 2047, 4095, 8191, 16383, 32767, 65535, 131071, 262143, 524287, 32767, 1081343, 3178495, 7372799, 15761407, 32538623, 66093055, 134217727, 268435455, 536870911, 1073741823, 2147483647, 4294967295, 8589934591, 17179869183, 1073741823, 35433480191, 104152956927, 241591910399, 516469817343, 1066225631231, 2199023255551, 4398046511103]
theorem impl_Trie_nodes.tab1 : rtab .any (opsOf Tryz.f14 1) = impl_Trie_nodes.T1 := by kernel_rfl
theorem impl_Trie_nodes.bits1 : waitsOk impl_Trie_nodes.T1.2 impl_Trie_nodes.B1 = true := by kernel_rfl
def impl_Trie_nodes.T7 : Bool × List (List Nat × List Nat) := (true, [([], []), ([], []), ([], []), ([1, 2], [1, 2]), ([3], [3]), ([], []), ([5], [5]), ([6], [6]), ([7], [7]), ([], []), ([9], [9]), ([10], [10]), ([], []), ([12], [12]), ([8, 11, 13], [8, 11, 13]), ([4, 14], [4, 14]), ([15], [15]), ([0, 16], [0, 16]), ([17, 17, 0, 1, 2, 3, 4, 5, 6, 7, 8, 9, 10, 11, 12, 13, 14, 15, 16, 17], [0, 1, 9, 12, 17])])
def impl_Trie_nodes.B7 : List Nat := [0, 0, 0, 6, 14, 0, 32, 96, 224, 0, 512, 1536, 0, 4096, 16352, 32766, 65534, 131071, 262143]
theorem impl_Trie_nodes.tab7 : rtab .any (opsOf Tryz.f14 7) = impl_Trie_nodes.T7 := by kernel_rfl
theorem impl_Trie_nodes.bits7 : waitsOk impl_Trie_nodes.T7.2 impl_Trie_nodes.B7 = true := by kernel_rfl
def impl_Trie_nodes.T19 : Bool × List (List Nat × List Nat) := (true, [([], []), ([0], [0]), ([], []), ([2], [2]), ([3], [3]), ([4], [4]), ([1, 5], [1, 5]), ([6], [6]), ([7, 6], [7]), ([8], [8]), ([9, 8], [8, 9]), ([8], [8]), ([11, 8], [8, 11]), ([12, 8], [8, 12]), ([13, 8], [8, 13]), ([10, 14, 8, 8], [8, 10, 14]), ([15, 8], [8, 15]), ([8, 16], [8, 16]), ([17, 15], [17]), ([18], [18]), ([19, 18], [18, 19]), ([18], [18]), ([21, 18], [18, 21]), ([22, 18], [18, 22]), ([23, 18], [18, 23]), ([20, 24, 18], [18, 20, 24]), ([18, 25], [18, 25])])
def impl_Trie_nodes.B19 : List Nat := [0, 1, 0, 4, 12, 28, 63, 127, 255, 511, 1023, 511, 2559, 6655, 14847, 32767, 65535, 131071, 262143, 524287, 1048575, 524287, 2621439, 6815743, 15204351, 33554431, 67108863]
theorem impl_Trie_nodes.tab19 : rtab .any (opsOf Tryz.f14 19) = impl_Trie_nodes.T19 := by kernel_rfl
theorem impl_Trie_nodes.bits19 : waitsOk impl_Trie_nodes.T19.2 impl_Trie_nodes.B19 = true := by kernel_rfl
theorem impl_Trie_nodes.calls (k : Nat) (g0 : Nat) (a0_0 : Int) (A0_1 : Option Addr) (c0_1 : Nat) (l0_1 : List Int) (a0_2 : Int) (A0_3 : Option Addr) (c0_3 : Nat) (l0_3 : List Int) (a0_4 : ByteArray) (r : List ByteArray) (w : World) (hb0 : w.heap[g0]? = some (.cells #[.int .i64 a0_0, .slice A0_1 l0_1.length c0_1, .int .i64 a0_2, .slice A0_3 l0_3.length c0_3, .string a0_4] 32 (0, 0))) (hr0_1 : Kd.C (Kd.int .i64) w A0_1 l0_1.length l0_1) (hc0_1 : l0_1.length ≤ c0_1) (hr0_3 : Kd.C (Kd.int .i64) w A0_3 l0_3.length l0_3) (hc0_3 : l0_3.length ≤ c0_3) (h : impl_Trie_nodes.f k a0_0 l0_1 a0_2 l0_3 a0_4 = some r) :
  Calls Tryz.prog 14 #[.pointer (some ⟨g0, 0, none⟩)] w fun e w' => (∃ v0_ : Value, e = .returned (v0_) ∧ Kd.R Kd.string 9 w' w.heap.size (fun _ => True) v0_ r ∧ Below w.heap.size w w') ∧ (r = [] → e = .returned (.slice none 0 0)) := by
 have hu30 := Tryz.underlying30; have hu32 := Tryz.underlying32; have HR0_1 := am hr0_1; have HC0_1 := am hc0_1; clear hr0_1 hc0_1; have HR0_3 := am hr0_3; have HC0_3 := am hc0_3; clear hr0_3 hc0_3; have BK0 := am hb0; clear hb0; have HB := am (Below.refl w.heap.size w); have H : ((impl_IsBits.f k a0_0 l0_1).bind fun t411 => (if t411 = true then ((impl_IsBits.f k a0_2 l0_3).bind fun t412 => (if t412 = true then (if a0_0 = (wrap64 ((wrap64 (2 * a0_2)) - 1)) then (impl_Trie_nodes.j0 k ((a0_4.size : Int) != (wrap64 (a0_2 - 1))) a0_0 l0_1 a0_2 l0_3 a0_4) else (impl_Trie_nodes.j0 k true a0_0 l0_1 a0_2 l0_3 a0_4)) else (impl_Trie_nodes.j0 k true a0_0 l0_1 a0_2 l0_3 a0_4))) else (impl_Trie_nodes.j0 k true a0_0 l0_1 a0_2 l0_3 a0_4))) = some r := h; clear h; have HC2 := am H; clear H
 go_enter Tryz.func14, Tryz.ntmps14
 go_upto_region 1 with (fail)
 go_cut [50] (fun v50 wc => ∃ (kq : Nat) (x50_1 : Bool), v50 = .bool x50_1 ∧ Aside0 (impl_Trie_nodes.j0 kq x50_1 a0_0 l0_1 a0_2 l0_3 a0_4 = some r) ∧ Aside0 (kq ≤ k) ∧ Aside0 (wc.heap[g0]? = some (.cells #[.int .i64 a0_0, (.slice A0_1 l0_1.length c0_1), .int .i64 a0_2, (.slice A0_3 l0_3.length c0_3), .string a0_4] 32 (0, 0))) ∧ Aside0 (Below w.heap.size w wc))
 case first =>
  have H := HC2.out; clear HC2; replace H := Option.bind_eq_some_iff.mp H; obtain ⟨t411, A30, H⟩ := H; (try dsimp -simprocs only at H); have A3 := am A30; clear A30
  by_cases c4 : t411 = true
  ·subst c4
   rw [if_pos rfl] at H; replace H := Option.bind_eq_some_iff.mp H; obtain ⟨t412, A50, H⟩ := H; (try dsimp -simprocs only at H); have A5 := am A50; clear A50
   by_cases c6 : t412 = true
   ·subst c6
    rw [if_pos rfl] at H
    by_cases c7 : a0_0 = (wrap64 ((wrap64 (2 * a0_2)) - 1))
    ·rw [if_pos c7] at H
     have c7b0 : (a0_0 == (wrap64 ((wrap64 (2 * a0_2)) - 1))) = true := beq_iff_eq.mpr c7; have c7b1 : (a0_0 != (wrap64 ((wrap64 (2 * a0_2)) - 1))) = false := bne_eq_false_iff_eq.mpr c7; clear c7
     (first | rw [c7b0] | (simp only [i64_w, i32_w]; rw [c7b0]) | skip)
     have H' := am H; clear H
     try go_wp2
     have n0_ := am (blk_drew BK0.out); have n1_ := am (below_drew1 HB.out); clear BK0 HB; revert n0_ n1_; intro BK0 HB; refine start_ (n := 43) (S := fun w' => w'.cell? ⟨g0, 0, none⟩ = some (.int .i64 a0_0) ∧ w'.cell? ⟨g0, 1, none⟩ = some (.slice A0_1 l0_1.length c0_1) ∧ w'.cell? ⟨g0, 2, none⟩ = some (.int .i64 a0_2) ∧ w'.cell? ⟨g0, 3, none⟩ = some (.slice A0_3 l0_3.length c0_3) ∧ w'.cell? ⟨g0, 4, none⟩ = some (.string a0_4)) (ds := []) (bA 43 0) (by kernel_rfl) rfl rfl ⟨cz BK0 0, cz BK0 1, cz BK0 2, cz BK0 3, cz BK0 4⟩ (fun hHeld => ?_); refine with_tabW impl_Trie_nodes.tab1 impl_Trie_nodes.bits1 (fun HT_ HW_ => ?_); generalize w.drew = w8 at BK0 HB hHeld ⊢; refine pZ 0 (some 8) (bA 43 1) HT_.out ?_; refine pZ 1 (some 9) (bA 43 3) HT_.out ?_; refine pZ 2 (some 10) (bA 43 7) HT_.out ?_; refine tZ5 3 (some 11) (bA 43 15) HT_.out HW_.out hHeld ?_; refine oZ 4 (some 12) (bA 43 31) HT_.out (fun K hK => ?_); refine gZ Tryz.func21 #[.agg #[.int .i64 a0_0, .slice A0_1 l0_1.length c0_1]] ?_
     with_reducible refine (impl_IsBits.calls k a0_0 _ _ l0_1 true _ ?side1 ?side2 A3.out).mono ?_
     (case side1 => exact Cz (Kd.C_below HR0_1.out HB.out))
     (case side2 => exact HC0_1.out)
     rintro e w9 ⟨rfl, hb⟩; refine ⟨_, rfl, ?_⟩; have n0_ := Kb BK0 hb; have n1_ := Bc HB hb; clear BK0 HB; revert n0_ n1_; intro BK0 HB
     (try clear hb)
     (try clear hb2)
     (try clear hk)
     (try clear hi)
     refine hK.out _ _ ⟨cz BK0 0, cz BK0 1, cz BK0 2, cz BK0 3, cz BK0 4⟩ (fun hHeld => ?_); clear hK K; refine norm_ (a' := ?_) ?_ ?_; rotate_left; show Act.put _ (some 12) _ = _; simp only [aP, i64_w, i32_w]; rfl; refine pZ 5 (some 13) (bA 43 63) HT_.out ?_; refine pZ 6 (some 14) (bA 43 127) HT_.out ?_; refine pZ 7 (some 15) (bA 43 255) HT_.out ?_; refine pZ 8 (some 16) (bA 43 511) HT_.out ?_; refine pZ 9 (some 17) (bA 43 1023) HT_.out ?_; refine tZ5 10 (some 18) (bA 43 2047) HT_.out HW_.out hHeld ?_; refine oZ 11 (some 19) (bA 43 4095) HT_.out (fun K hK => ?_); refine gZ Tryz.func21 #[.agg #[.int .i64 a0_2, .slice A0_3 l0_3.length c0_3]] ?_
     with_reducible refine (impl_IsBits.calls k a0_2 _ _ l0_3 true _ ?side1 ?side2 A5.out).mono ?_
     (case side1 => exact Cz (Kd.C_below HR0_3.out HB.out))
     (case side2 => exact HC0_3.out)
     rintro e w10 ⟨rfl, hb⟩; refine ⟨_, rfl, ?_⟩; have n0_ := Kb BK0 hb; have n1_ := Bc HB hb; clear BK0 HB; revert n0_ n1_; intro BK0 HB
     (try clear hb)
     (try clear hb2)
     (try clear hk)
     (try clear hi)
     refine hK.out _ _ ⟨cz BK0 0, cz BK0 1, cz BK0 2, cz BK0 3, cz BK0 4⟩ (fun hHeld => ?_); clear hK K; refine norm_ (a' := ?_) ?_ ?_; rotate_left; show Act.put _ (some 19) _ = _; simp only [aP, i64_w, i32_w]; rfl; refine pZ 12 (some 20) (bA 43 8191) HT_.out ?_; refine pZ 13 (some 21) (bA 43 16383) HT_.out ?_; refine pZ 14 (some 22) (bA 43 32767) HT_.out ?_; refine pZ 15 (some 23) (bA 43 65535) HT_.out ?_; refine pZ 16 (some 24) (bA 43 131071) HT_.out ?_; refine pZ 17 (some 25) (bA 43 262143) HT_.out ?_; refine pZ 18 (some 26) (bA 43 524287) HT_.out ?_; refine pZ 20 (some 28) (bA 43 1572863) HT_.out ?_; refine pZ 21 (some 29) (bA 43 3670015) HT_.out ?_; refine pZ 22 (some 30) (bA 43 7864319) HT_.out ?_; refine pZ 23 (some 31) (bA 43 16252927) HT_.out ?_; refine tZ5 19 (some 27) (bA 43 16777215) HT_.out HW_.out hHeld ?_; refine tZ5 24 (some 32) (bA 43 33554431) HT_.out HW_.out hHeld ?_; refine pZ 25 (some 33) (bA 43 67108863) HT_.out ?_; refine pZ 26 (some 34) (bA 43 134217727) HT_.out ?_; refine pZ 27 (some 35) (bA 43 268435455) HT_.out ?_; refine pZ 28 (some 36) (bA 43 536870911) HT_.out ?_; refine pZ 29 (some 37) (bA 43 1073741823) HT_.out ?_; refine pZ 30 (some 38) (bA 43 2147483647) HT_.out ?_; refine pZ 31 (some 39) (bA 43 4294967295) HT_.out ?_; refine pZ 32 (some 40) (bA 43 8589934591) HT_.out ?_; refine pZ 35 (some 43) (bA 43 42949672959) HT_.out ?_; refine pZ 36 (some 44) (bA 43 111669149695) HT_.out ?_; refine pZ 37 (some 45) (bA 43 249108103167) HT_.out ?_; refine pZ 38 (some 46) (bA 43 523986010111) HT_.out ?_; refine tZ5 33 (some 41) (bA 43 532575944703) HT_.out HW_.out hHeld ?_; refine pZ 34 (some 42) (bA 43 549755813887) HT_.out ?_; refine tZ5 39 (some 47) (bA 43 1099511627775) HT_.out HW_.out hHeld ?_; refine pZ 40 (some 48) (bA 43 2199023255551) HT_.out ?_; refine pZ 41 (some 49) (bA 43 4398046511103) HT_.out ?_; refine pZ 42 (some 50) (bA 43 8796093022207) HT_.out ?_; refine done_ (done_of HT_.out (by kernel_rfl)) ?_
     try go_wp2
     go_meet
     case rel => exact ⟨_, (((a0_4.size : Int) != (wrap64 (a0_2 - 1)))), wZ, H', ⟨by first | omega | exact Nat.le_refl _⟩, ⟨Kz BK0.out⟩, ⟨Bq⟩⟩
    ·rw [if_neg c7] at H
     have c7b0 : (a0_0 == (wrap64 ((wrap64 (2 * a0_2)) - 1))) = false := beq_eq_false_iff_ne.mpr c7; have c7b1 : (a0_0 != (wrap64 ((wrap64 (2 * a0_2)) - 1))) = true := bne_iff_ne.mpr c7
     (first | rw [c7b0] | (simp only [i64_w, i32_w]; rw [c7b0]) | skip)
     have H' := am H; clear H
     try go_wp2
     have n0_ := am (blk_drew BK0.out); have n1_ := am (below_drew1 HB.out); clear BK0 HB; revert n0_ n1_; intro BK0 HB; refine start_ (n := 43) (S := fun w' => w'.cell? ⟨g0, 0, none⟩ = some (.int .i64 a0_0) ∧ w'.cell? ⟨g0, 1, none⟩ = some (.slice A0_1 l0_1.length c0_1) ∧ w'.cell? ⟨g0, 2, none⟩ = some (.int .i64 a0_2) ∧ w'.cell? ⟨g0, 3, none⟩ = some (.slice A0_3 l0_3.length c0_3) ∧ w'.cell? ⟨g0, 4, none⟩ = some (.string a0_4)) (ds := []) (bA 43 0) (by kernel_rfl) rfl rfl ⟨cz BK0 0, cz BK0 1, cz BK0 2, cz BK0 3, cz BK0 4⟩ (fun hHeld => ?_); refine with_tabW impl_Trie_nodes.tab1 impl_Trie_nodes.bits1 (fun HT_ HW_ => ?_); generalize w.drew = w11 at BK0 HB hHeld ⊢; refine pZ 0 (some 8) (bA 43 1) HT_.out ?_; refine pZ 1 (some 9) (bA 43 3) HT_.out ?_; refine pZ 2 (some 10) (bA 43 7) HT_.out ?_; refine tZ5 3 (some 11) (bA 43 15) HT_.out HW_.out hHeld ?_; refine oZ 4 (some 12) (bA 43 31) HT_.out (fun K hK => ?_); refine gZ Tryz.func21 #[.agg #[.int .i64 a0_0, .slice A0_1 l0_1.length c0_1]] ?_
     with_reducible refine (impl_IsBits.calls k a0_0 _ _ l0_1 true _ ?side1 ?side2 A3.out).mono ?_
     (case side1 => exact Cz (Kd.C_below HR0_1.out HB.out))
     (case side2 => exact HC0_1.out)
     rintro e w12 ⟨rfl, hb⟩; refine ⟨_, rfl, ?_⟩; have n0_ := Kb BK0 hb; have n1_ := Bc HB hb; clear BK0 HB; revert n0_ n1_; intro BK0 HB
     (try clear hb)
     (try clear hb2)
     (try clear hk)
     (try clear hi)
     refine hK.out _ _ ⟨cz BK0 0, cz BK0 1, cz BK0 2, cz BK0 3, cz BK0 4⟩ (fun hHeld => ?_); clear hK K; refine norm_ (a' := ?_) ?_ ?_; rotate_left; show Act.put _ (some 12) _ = _; simp only [aP, i64_w, i32_w]; rfl; refine pZ 5 (some 13) (bA 43 63) HT_.out ?_; refine pZ 6 (some 14) (bA 43 127) HT_.out ?_; refine pZ 7 (some 15) (bA 43 255) HT_.out ?_; refine pZ 8 (some 16) (bA 43 511) HT_.out ?_; refine pZ 9 (some 17) (bA 43 1023) HT_.out ?_; refine tZ5 10 (some 18) (bA 43 2047) HT_.out HW_.out hHeld ?_; refine oZ 11 (some 19) (bA 43 4095) HT_.out (fun K hK => ?_); refine gZ Tryz.func21 #[.agg #[.int .i64 a0_2, .slice A0_3 l0_3.length c0_3]] ?_
     with_reducible refine (impl_IsBits.calls k a0_2 _ _ l0_3 true _ ?side1 ?side2 A5.out).mono ?_
     (case side1 => exact Cz (Kd.C_below HR0_3.out HB.out))
     (case side2 => exact HC0_3.out)
     rintro e w13 ⟨rfl, hb⟩; refine ⟨_, rfl, ?_⟩; have n0_ := Kb BK0 hb; have n1_ := Bc HB hb; clear BK0 HB; revert n0_ n1_; intro BK0 HB
     (try clear hb)
     (try clear hb2)
     (try clear hk)
     (try clear hi)
     refine hK.out _ _ ⟨cz BK0 0, cz BK0 1, cz BK0 2, cz BK0 3, cz BK0 4⟩ (fun hHeld => ?_); clear hK K; refine norm_ (a' := ?_) ?_ ?_; rotate_left; show Act.put _ (some 19) _ = _; simp only [aP, i64_w, i32_w]; rfl; refine pZ 12 (some 20) (bA 43 8191) HT_.out ?_; refine pZ 13 (some 21) (bA 43 16383) HT_.out ?_; refine pZ 14 (some 22) (bA 43 32767) HT_.out ?_; refine pZ 15 (some 23) (bA 43 65535) HT_.out ?_; refine pZ 16 (some 24) (bA 43 131071) HT_.out ?_; refine pZ 17 (some 25) (bA 43 262143) HT_.out ?_; refine pZ 18 (some 26) (bA 43 524287) HT_.out ?_; refine pZ 20 (some 28) (bA 43 1572863) HT_.out ?_; refine pZ 21 (some 29) (bA 43 3670015) HT_.out ?_; refine pZ 22 (some 30) (bA 43 7864319) HT_.out ?_; refine pZ 23 (some 31) (bA 43 16252927) HT_.out ?_; refine tZ5 19 (some 27) (bA 43 16777215) HT_.out HW_.out hHeld ?_; refine tZ5 24 (some 32) (bA 43 33554431) HT_.out HW_.out hHeld ?_; refine pZ 25 (some 33) (bA 43 67108863) HT_.out ?_; refine pZ 26 (some 34) (bA 43 134217727) HT_.out ?_; refine pZ 27 (some 35) (bA 43 268435455) HT_.out ?_; refine pZ 28 (some 36) (bA 43 536870911) HT_.out ?_; refine pZ 29 (some 37) (bA 43 1073741823) HT_.out ?_; refine sZ 30 (some 38) (bA 43 2147483647) HT_.out ?_; refine sZ 31 (some 39) (bA 43 4294967295) HT_.out ?_; refine sZ 32 (some 40) (bA 43 8589934591) HT_.out ?_; refine sZ 33 (some 41) (bA 43 17179869183) HT_.out ?_; refine sZ 34 (some 42) (bA 43 34359738367) HT_.out ?_; refine sZ 35 (some 43) (bA 43 68719476735) HT_.out ?_; refine sZ 36 (some 44) (bA 43 137438953471) HT_.out ?_; refine sZ 37 (some 45) (bA 43 274877906943) HT_.out ?_; refine sZ 38 (some 46) (bA 43 549755813887) HT_.out ?_; refine sZ 39 (some 47) (bA 43 1099511627775) HT_.out ?_; refine sZ 40 (some 48) (bA 43 2199023255551) HT_.out ?_; refine sZ 41 (some 49) (bA 43 4398046511103) HT_.out ?_; refine pZ 42 (some 50) (bA 43 8796093022207) HT_.out ?_; refine done_ (done_of HT_.out (by kernel_rfl)) ?_
     try go_wp2
     go_meet
     case rel => exact ⟨_, (true), wZ, H', ⟨by first | omega | exact Nat.le_refl _⟩, ⟨Kz BK0.out⟩, ⟨Bq⟩⟩
   ·replace c6 := Bool.eq_false_iff.mpr c6
    subst c6
    rw [if_neg (show ¬ (false = true) by decide)] at H; have H' := am H; clear H
    try go_wp2
    have n0_ := am (blk_drew BK0.out); have n1_ := am (below_drew1 HB.out); clear BK0 HB; revert n0_ n1_; intro BK0 HB; refine start_ (n := 43) (S := fun w' => w'.cell? ⟨g0, 0, none⟩ = some (.int .i64 a0_0) ∧ w'.cell? ⟨g0, 1, none⟩ = some (.slice A0_1 l0_1.length c0_1) ∧ w'.cell? ⟨g0, 2, none⟩ = some (.int .i64 a0_2) ∧ w'.cell? ⟨g0, 3, none⟩ = some (.slice A0_3 l0_3.length c0_3) ∧ w'.cell? ⟨g0, 4, none⟩ = some (.string a0_4)) (ds := []) (bA 43 0) (by kernel_rfl) rfl rfl ⟨cz BK0 0, cz BK0 1, cz BK0 2, cz BK0 3, cz BK0 4⟩ (fun hHeld => ?_); refine with_tabW impl_Trie_nodes.tab1 impl_Trie_nodes.bits1 (fun HT_ HW_ => ?_); generalize w.drew = w14 at BK0 HB hHeld ⊢; refine pZ 0 (some 8) (bA 43 1) HT_.out ?_; refine pZ 1 (some 9) (bA 43 3) HT_.out ?_; refine pZ 2 (some 10) (bA 43 7) HT_.out ?_; refine tZ5 3 (some 11) (bA 43 15) HT_.out HW_.out hHeld ?_; refine oZ 4 (some 12) (bA 43 31) HT_.out (fun K hK => ?_); refine gZ Tryz.func21 #[.agg #[.int .i64 a0_0, .slice A0_1 l0_1.length c0_1]] ?_
    with_reducible refine (impl_IsBits.calls k a0_0 _ _ l0_1 true _ ?side1 ?side2 A3.out).mono ?_
    (case side1 => exact Cz (Kd.C_below HR0_1.out HB.out))
    (case side2 => exact HC0_1.out)
    rintro e w15 ⟨rfl, hb⟩; refine ⟨_, rfl, ?_⟩; have n0_ := Kb BK0 hb; have n1_ := Bc HB hb; clear BK0 HB; revert n0_ n1_; intro BK0 HB
    (try clear hb)
    (try clear hb2)
    (try clear hk)
    (try clear hi)
    refine hK.out _ _ ⟨cz BK0 0, cz BK0 1, cz BK0 2, cz BK0 3, cz BK0 4⟩ (fun hHeld => ?_); clear hK K; refine norm_ (a' := ?_) ?_ ?_; rotate_left; show Act.put _ (some 12) _ = _; simp only [aP, i64_w, i32_w]; rfl; refine pZ 5 (some 13) (bA 43 63) HT_.out ?_; refine pZ 6 (some 14) (bA 43 127) HT_.out ?_; refine pZ 7 (some 15) (bA 43 255) HT_.out ?_; refine pZ 8 (some 16) (bA 43 511) HT_.out ?_; refine pZ 9 (some 17) (bA 43 1023) HT_.out ?_; refine tZ5 10 (some 18) (bA 43 2047) HT_.out HW_.out hHeld ?_; refine oZ 11 (some 19) (bA 43 4095) HT_.out (fun K hK => ?_); refine gZ Tryz.func21 #[.agg #[.int .i64 a0_2, .slice A0_3 l0_3.length c0_3]] ?_
    with_reducible refine (impl_IsBits.calls k a0_2 _ _ l0_3 false _ ?side1 ?side2 A5.out).mono ?_
    (case side1 => exact Cz (Kd.C_below HR0_3.out HB.out))
    (case side2 => exact HC0_3.out)
    rintro e w16 ⟨rfl, hb⟩; refine ⟨_, rfl, ?_⟩; have n0_ := Kb BK0 hb; have n1_ := Bc HB hb; clear BK0 HB; revert n0_ n1_; intro BK0 HB
    (try clear hb)
    (try clear hb2)
    (try clear hk)
    (try clear hi)
    refine hK.out _ _ ⟨cz BK0 0, cz BK0 1, cz BK0 2, cz BK0 3, cz BK0 4⟩ (fun hHeld => ?_); clear hK K; refine norm_ (a' := ?_) ?_ ?_; rotate_left; show Act.put _ (some 19) _ = _; simp only [aP, i64_w, i32_w]; rfl; refine pZ 12 (some 20) (bA 43 8191) HT_.out ?_; refine pZ 13 (some 21) (bA 43 16383) HT_.out ?_; refine pZ 14 (some 22) (bA 43 32767) HT_.out ?_; refine sZ 15 (some 23) (bA 43 65535) HT_.out ?_; refine sZ 16 (some 24) (bA 43 131071) HT_.out ?_; refine sZ 17 (some 25) (bA 43 262143) HT_.out ?_; refine sZ 18 (some 26) (bA 43 524287) HT_.out ?_; refine sZ 19 (some 27) (bA 43 1048575) HT_.out ?_; refine sZ 20 (some 28) (bA 43 2097151) HT_.out ?_; refine sZ 21 (some 29) (bA 43 4194303) HT_.out ?_; refine sZ 22 (some 30) (bA 43 8388607) HT_.out ?_; refine sZ 23 (some 31) (bA 43 16777215) HT_.out ?_; refine sZ 24 (some 32) (bA 43 33554431) HT_.out ?_; refine sZ 25 (some 33) (bA 43 67108863) HT_.out ?_; refine sZ 26 (some 34) (bA 43 134217727) HT_.out ?_; refine sZ 27 (some 35) (bA 43 268435455) HT_.out ?_; refine pZ 28 (some 36) (bA 43 536870911) HT_.out ?_; refine pZ 29 (some 37) (bA 43 1073741823) HT_.out ?_; refine sZ 30 (some 38) (bA 43 2147483647) HT_.out ?_; refine sZ 31 (some 39) (bA 43 4294967295) HT_.out ?_; refine sZ 32 (some 40) (bA 43 8589934591) HT_.out ?_; refine sZ 33 (some 41) (bA 43 17179869183) HT_.out ?_; refine sZ 34 (some 42) (bA 43 34359738367) HT_.out ?_; refine sZ 35 (some 43) (bA 43 68719476735) HT_.out ?_; refine sZ 36 (some 44) (bA 43 137438953471) HT_.out ?_; refine sZ 37 (some 45) (bA 43 274877906943) HT_.out ?_; refine sZ 38 (some 46) (bA 43 549755813887) HT_.out ?_; refine sZ 39 (some 47) (bA 43 1099511627775) HT_.out ?_; refine sZ 40 (some 48) (bA 43 2199023255551) HT_.out ?_; refine sZ 41 (some 49) (bA 43 4398046511103) HT_.out ?_; refine pZ 42 (some 50) (bA 43 8796093022207) HT_.out ?_; refine done_ (done_of HT_.out (by kernel_rfl)) ?_
    try go_wp2
    go_meet
    case rel => exact ⟨_, (true), wZ, H', ⟨by first | omega | exact Nat.le_refl _⟩, ⟨Kz BK0.out⟩, ⟨Bq⟩⟩
  ·replace c4 := Bool.eq_false_iff.mpr c4
   subst c4
   rw [if_neg (show ¬ (false = true) by decide)] at H; have H' := am H; clear H
   try go_wp2
   have n0_ := am (blk_drew BK0.out); have n1_ := am (below_drew1 HB.out); clear BK0 HB; revert n0_ n1_; intro BK0 HB; refine start_ (n := 43) (S := fun w' => w'.cell? ⟨g0, 0, none⟩ = some (.int .i64 a0_0) ∧ w'.cell? ⟨g0, 1, none⟩ = some (.slice A0_1 l0_1.length c0_1) ∧ w'.cell? ⟨g0, 2, none⟩ = some (.int .i64 a0_2) ∧ w'.cell? ⟨g0, 3, none⟩ = some (.slice A0_3 l0_3.length c0_3) ∧ w'.cell? ⟨g0, 4, none⟩ = some (.string a0_4)) (ds := []) (bA 43 0) (by kernel_rfl) rfl rfl ⟨cz BK0 0, cz BK0 1, cz BK0 2, cz BK0 3, cz BK0 4⟩ (fun hHeld => ?_); refine with_tabW impl_Trie_nodes.tab1 impl_Trie_nodes.bits1 (fun HT_ HW_ => ?_); generalize w.drew = w17 at BK0 HB hHeld ⊢; refine pZ 0 (some 8) (bA 43 1) HT_.out ?_; refine pZ 1 (some 9) (bA 43 3) HT_.out ?_; refine pZ 2 (some 10) (bA 43 7) HT_.out ?_; refine tZ5 3 (some 11) (bA 43 15) HT_.out HW_.out hHeld ?_; refine oZ 4 (some 12) (bA 43 31) HT_.out (fun K hK => ?_); refine gZ Tryz.func21 #[.agg #[.int .i64 a0_0, .slice A0_1 l0_1.length c0_1]] ?_
   with_reducible refine (impl_IsBits.calls k a0_0 _ _ l0_1 false _ ?side1 ?side2 A3.out).mono ?_
   (case side1 => exact Cz (Kd.C_below HR0_1.out HB.out))
   (case side2 => exact HC0_1.out)
   rintro e w18 ⟨rfl, hb⟩; refine ⟨_, rfl, ?_⟩; have n0_ := Kb BK0 hb; have n1_ := Bc HB hb; clear BK0 HB; revert n0_ n1_; intro BK0 HB
   (try clear hb)
   (try clear hb2)
   (try clear hk)
   (try clear hi)
   refine hK.out _ _ ⟨cz BK0 0, cz BK0 1, cz BK0 2, cz BK0 3, cz BK0 4⟩ (fun hHeld => ?_); clear hK K; refine norm_ (a' := ?_) ?_ ?_; rotate_left; show Act.put _ (some 12) _ = _; simp only [aP, i64_w, i32_w]; rfl; refine pZ 5 (some 13) (bA 43 63) HT_.out ?_; refine pZ 6 (some 14) (bA 43 127) HT_.out ?_; refine sZ 7 (some 15) (bA 43 255) HT_.out ?_; refine sZ 8 (some 16) (bA 43 511) HT_.out ?_; refine sZ 9 (some 17) (bA 43 1023) HT_.out ?_; refine sZ 10 (some 18) (bA 43 2047) HT_.out ?_; refine sZ 11 (some 19) (bA 43 4095) HT_.out ?_; refine sZ 12 (some 20) (bA 43 8191) HT_.out ?_; refine pZ 13 (some 21) (bA 43 16383) HT_.out ?_; refine pZ 14 (some 22) (bA 43 32767) HT_.out ?_; refine sZ 15 (some 23) (bA 43 65535) HT_.out ?_; refine sZ 16 (some 24) (bA 43 131071) HT_.out ?_; refine sZ 17 (some 25) (bA 43 262143) HT_.out ?_; refine sZ 18 (some 26) (bA 43 524287) HT_.out ?_; refine sZ 19 (some 27) (bA 43 1048575) HT_.out ?_; refine sZ 20 (some 28) (bA 43 2097151) HT_.out ?_; refine sZ 21 (some 29) (bA 43 4194303) HT_.out ?_; refine sZ 22 (some 30) (bA 43 8388607) HT_.out ?_; refine sZ 23 (some 31) (bA 43 16777215) HT_.out ?_; refine sZ 24 (some 32) (bA 43 33554431) HT_.out ?_; refine sZ 25 (some 33) (bA 43 67108863) HT_.out ?_; refine sZ 26 (some 34) (bA 43 134217727) HT_.out ?_; refine sZ 27 (some 35) (bA 43 268435455) HT_.out ?_; refine pZ 28 (some 36) (bA 43 536870911) HT_.out ?_; refine pZ 29 (some 37) (bA 43 1073741823) HT_.out ?_; refine sZ 30 (some 38) (bA 43 2147483647) HT_.out ?_; refine sZ 31 (some 39) (bA 43 4294967295) HT_.out ?_; refine sZ 32 (some 40) (bA 43 8589934591) HT_.out ?_; refine sZ 33 (some 41) (bA 43 17179869183) HT_.out ?_; refine sZ 34 (some 42) (bA 43 34359738367) HT_.out ?_; refine sZ 35 (some 43) (bA 43 68719476735) HT_.out ?_; refine sZ 36 (some 44) (bA 43 137438953471) HT_.out ?_; refine sZ 37 (some 45) (bA 43 274877906943) HT_.out ?_; refine sZ 38 (some 46) (bA 43 549755813887) HT_.out ?_; refine sZ 39 (some 47) (bA 43 1099511627775) HT_.out ?_; refine sZ 40 (some 48) (bA 43 2199023255551) HT_.out ?_; refine sZ 41 (some 49) (bA 43 4398046511103) HT_.out ?_; refine pZ 42 (some 50) (bA 43 8796093022207) HT_.out ?_; refine done_ (done_of HT_.out (by kernel_rfl)) ?_
   try go_wp2
   go_meet
   case rel => exact ⟨_, (true), wZ, H', ⟨by first | omega | exact Nat.le_refl _⟩, ⟨Kz BK0.out⟩, ⟨Bq⟩⟩
 case rest =>
  clear HC2
  try clear c2
  try clear p2
  try clear c4
  try clear c6
  obtain ⟨kq, x50_1, rfl, HA, HJ1, BK0, HB⟩ := hcut; cases kq with
  | zero => exact absurd HA.out (by simp [impl_Trie_nodes.j0])
  | succ kj1 =>
   have H := HA.out; clear HA
   simp only [impl_Trie_nodes.j0] at H
   by_cases c19 : x50_1 = true
   ·subst c19
    rw [if_pos rfl] at H; obtain rfl := Option.some.inj H
    go_wp2
    go_ret
    exact ⟨⟨_, eZ, nZ, Bq⟩, by first | exact rfl | exact fun _ => rfl | exact nzE (dT)⟩
   ·replace c19 := Bool.eq_false_iff.mpr c19
    subst c19
    rw [if_neg (show ¬ (false = true) by decide)] at H; obtain ⟨y413, hy413⟩ : ∃ y_ : List ByteArray, y_ = (([(⟨#[]⟩ : ByteArray)] : List ByteArray)) := ⟨_, rfl⟩
    replace H : (impl_Trie_nodes.l0 kj1 y413 0 a0_0 0 a0_0 l0_1 a0_2 l0_3 a0_4) = some r := by first | (rw [hy413]; with_reducible exact H) | (have H2_ := (Option.bind_some _ _).symm.trans H; rw [hy413]; with_reducible exact H2_) | (have H2_ := (Option.bind_some _ _).symm.trans H; with_reducible exact H2_) | with_reducible exact H | (rw [hy413]; exact H) | exact H
    have Ny413 := am hy413; clear hy413; have H' := am H; clear H
    go_wp2_with (first | ((with_reducible refine gate_dst (N := 51) rfl ?_); (try (refine gate_guard (by rfl) ?_; dsimp only)); refine Kd.R_lit Kd.string _ 9 ?hg (N := 51) ?hd (xs := ([(⟨#[]⟩ : ByteArray)] : List ByteArray)) (inner := [.string (⟨#[]⟩ : ByteArray)]) (ok := fun _ => True) (okp := fun _ => True) ?hr ?hp (fun _ hk => hk) trivial (Below.refl _ _) (Nat.le_refl _) (by simp) ?_; (case hd => rfl); (case hg => rfl); (case hr => first | (go_simp; done) | (go_simp; rfl)); (case hp => exact (Reps.one (show Kd.M Kd.string _ _ _ (⟨#[]⟩ : ByteArray) [.string (⟨#[]⟩ : ByteArray)] from rfl) (Reps.none _ _))); intro v414 w20 ho21 hb hg_ hnew_; clear hg_ hnew_; (first | rw [← Ny413.out] at ho21 | (simp only [Int.reduceToNat] at ho21; rw [← Ny413.out] at ho21)); have n0_ := Rm ho21 HB; have n1_ := Kb BK0 hb; have n2_ := Bc HB hb; clear BK0 HB; revert n0_ n1_ n2_; intro HO415 BK0 HB; clear hb ho21; obtain ⟨hcz22_0, hcz22_1, hcz22_2, hcz22_3, hcz22_4, hfz22_0, hfz22_1, hfz22_2, hfz22_3, hfz22_4⟩ := cf5 (w := w20) BK0))
    (try simp only [aP])
    go_loopg [3, 4, 57] kj1 (fun kq v3 v4 v57 w' => ∃ (x3_2 : List ByteArray) (x4_2 : Int) (x57_2 : Int), v4 = .int .i64 x4_2 ∧ v57 = .int .i64 x57_2 ∧ Aside0 (impl_Trie_nodes.l0 kq x3_2 x4_2 a0_0 x57_2 a0_0 l0_1 a0_2 l0_3 a0_4 = some r) ∧ Aside0 (kq ≤ kj1) ∧ Aside0 (Kd.R Kd.string 9 w' w.heap.size (fun _ => True) v3 x3_2) ∧ Aside0 (w'.heap[g0]? = some (.cells #[.int .i64 a0_0, (.slice A0_1 l0_1.length c0_1), .int .i64 a0_2, (.slice A0_3 l0_3.length c0_3), .string a0_4] 32 (0, 0))) ∧ Aside0 (Below w.heap.size w w'))
    case atStart => exact ⟨(y413), (0), (0), wZ, wZ, H', ⟨Nat.le_refl _⟩, ⟨Rz HO415.out⟩, ⟨Kz BK0.out⟩, ⟨Bq⟩⟩
    case round =>
     clear H'
     try clear c1
     try clear c2
     try clear p2
     try clear c4
     try clear c6
     try clear c19
     try clear c21
     try clear hcz22_0
     try clear hcz22_1
     try clear hcz22_2
     try clear hcz22_3
     try clear hcz22_4
     try clear hfz22_0
     try clear hfz22_1
     try clear hfz22_2
     try clear hfz22_3
     try clear hfz22_4
     try clear p2
     obtain ⟨x3_2, x4_2, x57_2, rfl, rfl, HA, HK2, HO_3, BK0, HB⟩ := hrel; cases gk with
     | zero => exact absurd HA.out (by simp [impl_Trie_nodes.l0])
     | succ k2 =>
      have H := HA.out; clear HA
      simp only [impl_Trie_nodes.l0] at H
      by_cases c23 : x57_2 < a0_0
      ·rw [if_pos c23] at H
       have c23b0 : decide (x57_2 < a0_0) = true := decide_eq_true c23; clear c23
       by_cases c24 : x4_2 ≥ (x3_2.length : Int)
       ·rw [if_pos c24] at H
        have c24b0 : decide ((x3_2.length : Int) ≤ x4_2) = true := decide_eq_true c24; clear c24; obtain rfl := Option.some.inj H; obtain ⟨Ao25, co25, eo25⟩ := Kd.R_slice HO_3.out; subst eo25
        go_wp2
        go_ret
        exact ⟨⟨_, eZ, nZ, Bq⟩, by first | exact rfl | exact fun _ => rfl | exact nzE (dT)⟩
       ·rw [if_neg c24] at H
        have c24b0 : decide ((x3_2.length : Int) ≤ x4_2) = false := decide_eq_false c24; clear c24; replace H := Option.bind_eq_some_iff.mp H; obtain ⟨t416, A260, H⟩ := H; (try dsimp -simprocs only at H); have A26 := am A260; clear A260
        by_cases c27 : t416 = true
        ·subst c27
         rw [if_pos rfl] at H
         by_cases c28 : (x3_2.length : Int) > (a0_4.size : Int)
         ·rw [if_pos c28] at H
          have c28b0 : decide ((a0_4.size : Int) < (x3_2.length : Int)) = true := decide_eq_true c28; have c28b1 : decide (a0_4.size < x3_2.length) = true := decide_eq_true (Int.ofNat_lt.mp c28); clear c28; obtain rfl := Option.some.inj H; obtain ⟨Ao29, co29, eo29⟩ := Kd.R_slice HO_3.out; subst eo29
          go_wp2_with (first | ((with_reducible refine gate_callee (f := 22) rfl ?_); refine gL (some 88) Tryz.func22 #[.pointer (some ⟨g0, 0, none⟩), .int .i64 x57_2] ?_; (with_reducible refine (impl_Bits_at.calls_v0_32_0 g0 a0_2 (.slice A0_3 l0_3.length c0_3) a0_4 a0_0 A0_1 c0_1 l0_1 x57_2 true _ ?side1 ?side2 ?side3 A26.out).mono ?_); (case side1 => exact Kz BK0.out); (case side2 => exact Cz (Kd.C_below HR0_1.out HB.out)); (case side3 => exact HC0_1.out); rintro e w' ⟨rfl, ⟨nd, rfl⟩⟩; refine ⟨_, rfl, ?_⟩; obtain ⟨hcz30_0, hcz30_1, hcz30_2, hcz30_3, hcz30_4, hfz30_0, hfz30_1, hfz30_2, hfz30_3, hfz30_4⟩ := cf5 (w := wr) BK0))
          go_ret
          exact ⟨⟨_, eZ, nZ, Bq⟩, by first | exact rfl | exact fun _ => rfl | exact nzE (dT)⟩
         ·rw [if_neg c28] at H
          have c28b0 : decide ((a0_4.size : Int) < (x3_2.length : Int)) = false := decide_eq_false c28; have c28b1 : decide (a0_4.size < x3_2.length) = false := decide_eq_false (fun h => c28 (Int.ofNat_lt.mpr h)); clear c28
          by_cases c31 : 0 ≤ x4_2
          ·rw [if_pos c31] at H
           have c31b0 : decide (0 ≤ x4_2) = true := decide_eq_true c31; clear c31
           by_cases c32 : x4_2 < (x3_2.length : Int)
           ·rw [if_pos c32] at H
            have c32b0 : decide (x4_2 < (x3_2.length : Int)) = true := decide_eq_true c32; clear c32
            by_cases c33 : ((rdOf ByteArray.empty x3_2 x4_2).size : Int) = 12
            ·rw [if_pos c33] at H
             have c33b0 : (((rdOf ByteArray.empty x3_2 x4_2).size : Int) == 12) = true := beq_iff_eq.mpr c33; have c33b1 : (((rdOf ByteArray.empty x3_2 x4_2).size : Int) != 12) = false := bne_eq_false_iff_eq.mpr c33; clear c33; obtain rfl := Option.some.inj H; obtain ⟨Ao34, co34, eo34⟩ := Kd.R_slice HO_3.out; subst eo34
             go_wp2_with (first | ((with_reducible refine gate_callee (f := 22) rfl ?_); refine gL (some 88) Tryz.func22 #[.pointer (some ⟨g0, 0, none⟩), .int .i64 x57_2] ?_; (with_reducible refine (impl_Bits_at.calls_v0_32_0 g0 a0_2 (.slice A0_3 l0_3.length c0_3) a0_4 a0_0 A0_1 c0_1 l0_1 x57_2 true _ ?side1 ?side2 ?side3 A26.out).mono ?_); (case side1 => exact Kz BK0.out); (case side2 => exact Cz (Kd.C_below HR0_1.out HB.out)); (case side3 => exact HC0_1.out); rintro e w' ⟨rfl, ⟨nd, rfl⟩⟩; refine ⟨_, rfl, ?_⟩; obtain ⟨hcz35_0, hcz35_1, hcz35_2, hcz35_3, hcz35_4, hfz35_0, hfz35_1, hfz35_2, hfz35_3, hfz35_4⟩ := cf5 (w := wr) BK0; obtain ⟨ad417, e417, hx417_0⟩ := Kd.at_string (Kd.R_reads' HO_3.out).2.2 x4_2 dT dT; cases e417; have p417 := eT (0 ≤ (x4_2 : Int)); have q417 := eT (x4_2 < (x3_2.length : Int))))
             go_ret
             exact ⟨⟨_, eZ, nZ, Bq⟩, by first | exact rfl | exact fun _ => rfl | exact nzE (dT)⟩
            ·rw [if_neg c33] at H
             have c33b0 : (((rdOf ByteArray.empty x3_2 x4_2).size : Int) == 12) = false := beq_eq_false_iff_ne.mpr c33; have c33b1 : (((rdOf ByteArray.empty x3_2 x4_2).size : Int) != 12) = true := bne_iff_ne.mpr c33; obtain ⟨ji36, hji36⟩ : ∃ j_ : Int, (wrap64 ((x3_2.length : Int) - 1)) = j_ := ⟨_, rfl⟩
             replace H : (if 0 ≤ (ji36) then (if (ji36) ≤ (x3_2.length : Int) then (if (x3_2.length : Int) ≤ (a0_4.size : Int) then (if (rdOf ByteArray.empty x3_2 x4_2).size + (a0_4.extract ((ji36) : Int).toNat ((x3_2.length : Int) : Int).toNat).size ≤ 9223372036854775807 then (if x3_2.length < 8796093022208 then (impl_Trie_nodes.l0 k2 (x3_2 ++ [(rdOf ByteArray.empty x3_2 x4_2) ++ (a0_4.extract ((ji36) : Int).toNat ((x3_2.length : Int) : Int).toNat)]) x4_2 a0_0 (wrap64 (x57_2 + 1)) a0_0 l0_1 a0_2 l0_3 a0_4) else (none)) else (none)) else (none)) else (none)) else (none)) = some r := by first | (rw [hji36] at H; exact H) | (simp only [hji36] at H ⊢; exact H)
             (try rw [hji36] at A26)
             have hji36w : (IntKind.i64.wrap ((x3_2.length : Int) - 1)) = ji36 := (i64_w _).trans hji36
             by_cases c37 : 0 ≤ (ji36)
             ·rw [if_pos c37] at H
              have c37b0 := eq_true c37; have c37b1 : decide (0 ≤ (ji36)) = true := decide_eq_true c37; clear c37
              by_cases c38 : (ji36) ≤ (x3_2.length : Int)
              ·rw [if_pos c38] at H
               have c38b0 := eq_true c38; have c38b1 : decide ((ji36) ≤ (x3_2.length : Int)) = true := decide_eq_true c38; clear c38
               by_cases c39 : (x3_2.length : Int) ≤ (a0_4.size : Int)
               ·rw [if_pos c39] at H
                have c39b0 := eq_true c39; have c39b1 : decide ((x3_2.length : Int) ≤ (a0_4.size : Int)) = true := decide_eq_true c39; clear c39
                by_cases c40 : (rdOf ByteArray.empty x3_2 x4_2).size + (a0_4.extract ((ji36) : Int).toNat ((x3_2.length : Int) : Int).toNat).size ≤ 9223372036854775807
                ·rw [if_pos c40] at H
                 have c40b0 := eq_true c40; have c40b1 : decide ((rdOf ByteArray.empty x3_2 x4_2).size + (a0_4.extract ((ji36) : Int).toNat ((x3_2.length : Int) : Int).toNat).size ≤ 9223372036854775807) = true := decide_eq_true c40
                 try have c40b2 : (9223372036854775807 < (rdOf ByteArray.empty x3_2 x4_2).size + (a0_4.extract ((ji36) : Int).toNat ((x3_2.length : Int) : Int).toNat).size) = False := eq_false (Nat.not_lt.2 c40)
                 (try (have c40b3 := c40b2; simp only [ByteArray.size_extract, Int.toNat_natCast] at c40b3))
                 by_cases c41 : x3_2.length < 8796093022208
                 ·rw [if_pos c41] at H
                  have LMc41 := am c41; clear c41; obtain ⟨y419, hy419⟩ : ∃ y_ : List ByteArray, y_ = (x3_2 ++ [(rdOf ByteArray.empty x3_2 x4_2) ++ (a0_4.extract ((ji36) : Int).toNat ((x3_2.length : Int) : Int).toNat)]) := ⟨_, rfl⟩
                  replace H : (impl_Trie_nodes.l0 k2 y419 x4_2 a0_0 (wrap64 (x57_2 + 1)) a0_0 l0_1 a0_2 l0_3 a0_4) = some r := by first | (rw [hy419]; with_reducible exact H) | (have H2_ := (Option.bind_some _ _).symm.trans H; rw [hy419]; with_reducible exact H2_) | (have H2_ := (Option.bind_some _ _).symm.trans H; with_reducible exact H2_) | with_reducible exact H | (rw [hy419]; exact H) | exact H
                  have Ny419 := am hy419; clear hy419; have H' := am H; clear H; obtain ⟨Ao42, co42, eo42⟩ := Kd.R_slice HO_3.out; subst eo42
                  try go_wp2_with (first | ((with_reducible refine gate_callee (f := 22) rfl ?_); refine gL (some 88) Tryz.func22 #[.pointer (some ⟨g0, 0, none⟩), .int .i64 x57_2] ?_; (with_reducible refine (impl_Bits_at.calls_v0_32_0 g0 a0_2 (.slice A0_3 l0_3.length c0_3) a0_4 a0_0 A0_1 c0_1 l0_1 x57_2 true _ ?side1 ?side2 ?side3 A26.out).mono ?_); (case side1 => exact Kz BK0.out); (case side2 => exact Cz (Kd.C_below HR0_1.out HB.out)); (case side3 => exact HC0_1.out); rintro e w' ⟨rfl, ⟨nd, rfl⟩⟩; refine ⟨_, rfl, ?_⟩; obtain ⟨hcz43_0, hcz43_1, hcz43_2, hcz43_3, hcz43_4, hfz43_0, hfz43_1, hfz43_2, hfz43_3, hfz43_4⟩ := cf5 (w := wr) BK0; obtain ⟨ad417, e417, hx417_0⟩ := Kd.at_string (Kd.R_reads' HO_3.out).2.2 x4_2 dT dT; cases e417; have p417 := eT (0 ≤ (x4_2 : Int)); have q417 := eT (x4_2 < (x3_2.length : Int))))
                  (try (rw [drewN_self wr]; generalize hq_ : World.drewN wr _ = wr; have n0_ : Aside0 (Kd.R Kd.string 9 wr w.heap.size (fun _ => True) (.slice (some ad417) x3_2.length co42) x3_2) := ⟨by rw [← hq_]; exact (Rz HO_3.out)⟩; have n1_ : Aside0 (wr.heap[g0]? = some (.cells #[.int .i64 a0_0, .slice A0_1 l0_1.length c0_1, .int .i64 a0_2, .slice A0_3 l0_3.length c0_3, .string a0_4] 32 (0, 0))) := ⟨by rw [← hq_]; exact (Kz BK0.out)⟩; have n2_ : Aside0 (Below w.heap.size w wr) := ⟨by rw [← hq_]; exact (Bq)⟩; clear HO_3 BK0 HB hq_; revert n0_ n1_ n2_; intro HO_3 BK0 HB))
                  have n0_ := am (Kd.R_drew HO_3.out); have n1_ := am (blk_drew BK0.out); have n2_ := am (below_drew1 HB.out); clear HO_3 BK0 HB; revert n0_ n1_ n2_; intro HO_3 BK0 HB; have p418 : 0 ≤ (x4_2 : Int) := dT; have q418 : x4_2 < (x3_2.length : Int) := dT; obtain ⟨ad418, e418, hx418_0⟩ := Kd.at_string (Kd.R_reads' HO_3.out).2.2 x4_2 p418 q418; obtain rfl : ad417 = ad418 := (by injection e418); replace p418 := eq_true p418; replace q418 := eq_true q418; refine start_ (n := 19) (S := fun w' => w'.cell? ⟨g0, 0, none⟩ = some (.int .i64 a0_0) ∧ w'.cell? ⟨g0, 1, none⟩ = some (.slice A0_1 l0_1.length c0_1) ∧ w'.cell? ⟨g0, 2, none⟩ = some (.int .i64 a0_2) ∧ w'.cell? ⟨g0, 3, none⟩ = some (.slice A0_3 l0_3.length c0_3) ∧ w'.cell? ⟨g0, 4, none⟩ = some (.string a0_4) ∧ w'.cell? (ad417.add (x4_2).toNat) = some (.string (rdOf ByteArray.empty x3_2 x4_2))) (ds := [16, 17]) (bA 19 0) (by kernel_rfl) rfl rfl ⟨cz BK0 0, cz BK0 1, cz BK0 2, cz BK0 3, cz BK0 4, hx418_0⟩ (fun hHeld => ?_); refine with_tabW impl_Trie_nodes.tab7 impl_Trie_nodes.bits7 (fun HT_ HW_ => ?_); generalize wr.drew = w44 at HO_3 BK0 HB hx418_0 hHeld ⊢; refine pZ 0 (some 60) (bA 19 1) HT_.out ?_; refine pZ 1 (some 61) (bA 19 3) HT_.out ?_; refine pZ 2 (some 62) (bA 19 7) HT_.out ?_; refine pZ 3 (some 63) (bA 19 15) HT_.out ?_; refine pZ 5 (some 65) (bA 19 47) HT_.out ?_; refine pZ 6 (some 66) (bA 19 111) HT_.out ?_; refine pZ 7 (some 67) (bA 19 239) HT_.out ?_; refine pZ 9 (some 69) (bA 19 751) HT_.out ?_; refine pZ 10 (some 70) (bA 19 1775) HT_.out ?_; refine pZ 11 (some 71) (bA 19 3823) HT_.out ?_; refine pZ 12 (some 72) (bA 19 7919) HT_.out ?_; refine pZ 13 (some 73) (bA 19 16111) HT_.out ?_; refine tZ6 4 (some 64) (bA 19 16127) HT_.out HW_.out hHeld ?_; refine tZ6 8 (some 68) (bA 19 16383) HT_.out HW_.out hHeld ?_; refine pZ 14 (some 74) (bA 19 32767) HT_.out ?_; refine pZ 15 (some 75) (bA 19 65535) HT_.out ?_; refine lZ 16 (some 76) (bA 19 131071) HT_.out (fun K hK => ?_); refine value_ (w1 := ?_) (v := ?_) (by rfl) rfl ?_ ?_
                  rotate_left 2
                  ·go_simp
                   constructor
                   ·rfl
                   ·rfl
                  refine hK.out _ _ ?_; clear hK K; refine norm_ (a' := ?_) ?_ ?_; rotate_left; show Act.put _ (some 76) _ = _; simp only [aP, i64_w, i32_w]; rfl; refine lZ 17 (some 77) (bA 19 262143) HT_.out (fun K hK => ?_); refine Kd.R_append_step Kd.string (w0 := w) w.heap.size (by rfl) (.tmp 60) (.tmp 76) 37 9 (.string ⟨#[]⟩) 16 rfl Tryz.underlying37 info9 rfl (by decide) (by omega) (.slice (some ad417) x3_2.length co42) x3_2 ((rdOf ByteArray.empty x3_2 x4_2) ++ (a0_4.extract ((ji36) : Int).toNat ((x3_2.length : Int) : Int).toNat)) [.string ((rdOf ByteArray.empty x3_2 x4_2) ++ (a0_4.extract ((ji36) : Int).toNat ((x3_2.length : Int) : Int).toNat))] (fun _ => True) (fun _ => False) rfl rfl ?aP (fun _ hk => hk.elim) ?aF ?aO ?aB ?aS ?aL ?_
                  (case aP => exact rfl)
                  (case aB => exact (Bq))
                  (case aF => exact (fun _ _ => trivial))
                  (case aO => exact (Rz HO_3.out))
                  (case aS => exact (below_size (w := w) (Bq)))
                  (case aL => have := LMc41.out; omega)
                  intro v420 w45 ho hb hg hat; rw [← Ny419.out] at ho; have n0_ := am (blk_grown (g := g0) (o := .cells #[.int .i64 a0_0, .slice A0_1 l0_1.length c0_1, .int .i64 a0_2, .slice A0_3 l0_3.length c0_3, .string a0_4] 32 (0, 0)) (Kz BK0.out) hg (Kd.R_ne HO_3.out BK0.out (by decide))); have n1_ := am (hb); have n2_ := am (ho); clear BK0 HB HO_3; revert n0_ n1_ n2_; intro BK0 HB HO421; clear ho hb hg hat; refine hK.out _ _ ?_; clear hK K; refine norm_ (a' := ?_) ?_ ?_; rotate_left; show Act.put _ (some 77) _ = _; simp only [aP, i64_w, i32_w]; rfl; refine pZ 18 (some 3) (bA 19 524287) HT_.out ?_; refine done_ (done_of HT_.out (by kernel_rfl)) ?_
                  try go_wp2
                  go_roundg k2
                  case measure => have := HJ1.out; have := HK2.out; omega
                  case rel => exact ⟨(y419), (x4_2), (wrap64 (x57_2 + 1)), wZ, wZ, H', ⟨by have := HJ1.out; have := HK2.out; omega⟩, ⟨Rz HO421.out⟩, ⟨Kz BK0.out⟩, ⟨Bq⟩⟩
                 ·rw [if_neg c41] at H
                  exact absurd H (by simp)
                ·rw [if_neg c40] at H
                 exact absurd H (by simp)
               ·rw [if_neg c39] at H
                exact absurd H (by simp)
              ·rw [if_neg c38] at H
               exact absurd H (by simp)
             ·rw [if_neg c37] at H
              exact absurd H (by simp)
           ·rw [if_neg c32] at H
            exact absurd H (by simp)
          ·rw [if_neg c31] at H
           exact absurd H (by simp)
        ·replace c27 := Bool.eq_false_iff.mpr c27
         subst c27
         rw [if_neg (show ¬ (false = true) by decide)] at H; have H' := am H; clear H; obtain ⟨Ao46, co46, eo46⟩ := Kd.R_slice HO_3.out; subst eo46
         go_wp2_with (first | ((with_reducible refine gate_callee (f := 22) rfl ?_); refine gL (some 88) Tryz.func22 #[.pointer (some ⟨g0, 0, none⟩), .int .i64 x57_2] ?_; (with_reducible refine (impl_Bits_at.calls_v0_32_0 g0 a0_2 (.slice A0_3 l0_3.length c0_3) a0_4 a0_0 A0_1 c0_1 l0_1 x57_2 false _ ?side1 ?side2 ?side3 A26.out).mono ?_); (case side1 => exact Kz BK0.out); (case side2 => exact Cz (Kd.C_below HR0_1.out HB.out)); (case side3 => exact HC0_1.out); rintro e w' ⟨rfl, ⟨nd, rfl⟩⟩; refine ⟨_, rfl, ?_⟩))
         go_roundg k2
         case measure => have := HJ1.out; have := HK2.out; omega
         case rel => exact ⟨(x3_2), (wrap64 (x4_2 + 1)), (wrap64 (x57_2 + 1)), wZ, wZ, H', ⟨by have := HJ1.out; have := HK2.out; omega⟩, ⟨Rz HO_3.out⟩, ⟨Kz BK0.out⟩, ⟨Bq⟩⟩
      ·rw [if_neg c23] at H
       have c23b0 : decide (x57_2 < a0_0) = false := decide_eq_false c23; clear c23; replace H := Option.bind_eq_some_iff.mp H; obtain ⟨t422, A470, H⟩ := H; (try dsimp -simprocs only at H); have A47 := am A470; clear A470; have HC48 := am H; clear H; obtain ⟨Ao49, co49, eo49⟩ := Kd.R_slice HO_3.out; subst eo49
       go_upto_region 16 with (first | ((with_reducible refine gate_callee (f := 23) rfl ?_); refine gL (some 112) Tryz.func23 #[.pointer (some ⟨g0, 0, none⟩), .slice Ao49 x3_2.length co49] ?_; (with_reducible refine (impl_Trie_ends.calls k2 g0 a0_0 A0_1 c0_1 l0_1 a0_2 A0_3 c0_3 l0_3 a0_4 _ _ x3_2 t422 _ ?side1 ?side2 ?side3 ?side4 ?side5 ?side6 ?side7 A47.out).mono ?_); (case side1 => exact Kz BK0.out); (case side2 => exact Cz (Kd.C_below HR0_1.out HB.out)); (case side3 => exact HC0_1.out); (case side4 => exact Cz (Kd.C_below HR0_3.out HB.out)); (case side5 => exact HC0_3.out); (case side6 => exact Cz ((Kd.R_reads' HO_3.out).2.2)); (case side7 => exact (Kd.R_reads' HO_3.out).2.1); rintro e w50 ⟨v423, rfl, ho0, hb⟩; refine ⟨_, rfl, ?_⟩; have n0_ := Re HO_3 (Kd.R_base ho0) hb; have n1_ := Rm (Kd.R_new' ho0 (Kd.R_lt (Rz HO_3.out))) HB; have n2_ := Kb BK0 hb; have n3_ := Bc HB hb; clear HO_3 BK0 HB; revert n0_ n1_ n2_ n3_; intro HO_3 HO424 BK0 HB; (try clear hb); (try clear hb2); (try clear hk); (try clear hi); (try clear ho0)))
       (try simp only [aP])
       go_cut [125] (fun v125 wc => ∃ (kq : Nat) (x125_47 : Bool), v125 = .bool x125_47 ∧ Aside0 (impl_Trie_nodes.j2 kq x3_2 t422 x125_47 a0_0 l0_1 a0_2 l0_3 a0_4 = some r) ∧ Aside0 (kq ≤ k2) ∧ Aside0 (Kd.R Kd.string 9 wc w.heap.size (fun k_ => some k_ ≠ (v423 : Value).ownBlock) (.slice Ao49 x3_2.length co49) x3_2) ∧ Aside0 (Kd.R Kd.string 9 wc w.heap.size (fun k_ => some k_ ≠ ((.slice Ao49 x3_2.length co49) : Value).ownBlock) v423 t422) ∧ Aside0 (wc.heap[g0]? = some (.cells #[.int .i64 a0_0, (.slice A0_1 l0_1.length c0_1), .int .i64 a0_2, (.slice A0_3 l0_3.length c0_3), .string a0_4] 32 (0, 0))) ∧ Aside0 (Below w.heap.size w wc))
       case first =>
        have H := HC48.out; clear HC48
        by_cases c51 : (x3_2.length : Int) = a0_2
        ·rw [if_pos c51] at H
         have c51b0 : ((x3_2.length : Int) == a0_2) = true := beq_iff_eq.mpr c51; have c51b1 : ((x3_2.length : Int) != a0_2) = false := bne_eq_false_iff_eq.mpr c51; clear c51
         (first | rw [c51b0] | (simp only [i64_w, i32_w]; rw [c51b0]) | skip)
         replace H := Option.bind_eq_some_iff.mp H; obtain ⟨t425, A520, H⟩ := H; (try dsimp -simprocs only at H); have A52 := am A520; clear A520; have H' := am H; clear H; obtain ⟨hcz53_0, hcz53_1, hcz53_2, hcz53_3, hcz53_4, hfz53_0, hfz53_1, hfz53_2, hfz53_3, hfz53_4⟩ := cf5 (w := w50) BK0; obtain ⟨Ao54, co54, eo54⟩ := Kd.R_slice HO424.out; subst eo54
         go_wp2_with (first | (go_at_call 24; (with_reducible refine (impl_AreKeys.calls k2 _ _ t422 t425 _ ?side1 ?side2 A52.out).mono ?_); (case side1 => exact Cz ((Kd.R_reads' HO424.out).2.2)); (case side2 => exact (Kd.R_reads' HO424.out).2.1); rintro e w' ⟨rfl, ⟨nd, rfl⟩⟩))
         go_meet
         case rel => exact ⟨_, (!t425), wZ, H', ⟨by have := HJ1.out; have := HK2.out; first | omega | exact Nat.le_refl _⟩, ⟨Rz (Kd.R_mono HO_3.out (fun _ hk => hk.2))⟩, ⟨Rz (Kd.R_mono HO424.out (fun _ hk => hk.2))⟩, ⟨Kz BK0.out⟩, ⟨Bq⟩⟩
        ·rw [if_neg c51] at H
         have c51b0 : ((x3_2.length : Int) == a0_2) = false := beq_eq_false_iff_ne.mpr c51; have c51b1 : ((x3_2.length : Int) != a0_2) = true := bne_iff_ne.mpr c51
         (first | rw [c51b0] | (simp only [i64_w, i32_w]; rw [c51b0]) | skip)
         have H' := am H; clear H; obtain ⟨hcz55_0, hcz55_1, hcz55_2, hcz55_3, hcz55_4, hfz55_0, hfz55_1, hfz55_2, hfz55_3, hfz55_4⟩ := cf5 (w := w50) BK0
         go_wp2
         go_meet
         case rel => exact ⟨_, (true), wZ, H', ⟨by have := HJ1.out; have := HK2.out; first | omega | exact Nat.le_refl _⟩, ⟨Rz (Kd.R_mono HO_3.out (fun _ hk => hk.2))⟩, ⟨Rz (Kd.R_mono HO424.out (fun _ hk => hk.2))⟩, ⟨Kz BK0.out⟩, ⟨Bq⟩⟩
       case rest =>
        clear HC48
        try clear c1
        try clear c2
        try clear p2
        try clear c3
        try clear c4
        try clear p4
        try clear q4
        try clear hx4
        try clear c5
        try clear c6
        try clear p6
        try clear c19
        try clear c21
        try clear c22
        try clear c23
        try clear c23b0
        try clear c24
        try clear c24b0
        try clear c27
        try clear c28
        try clear c28b0
        try clear c28b1
        try clear c31
        try clear c31b0
        try clear c32
        try clear c32b0
        try clear c33
        try clear c33b0
        try clear c33b1
        try clear c37
        try clear c37b0
        try clear c37b1
        try clear c38
        try clear c38b0
        try clear c38b1
        try clear c39
        try clear c39b0
        try clear c39b1
        try clear c40
        try clear c40b0
        try clear c40b1
        try clear c40b2
        try clear c41
        try clear p41
        try clear q41
        try clear hx41
        try clear c51
        try clear c51b0
        try clear c51b1
        try clear hcz22_0
        try clear hcz22_1
        try clear hcz22_2
        try clear hcz22_3
        try clear hcz22_4
        try clear hcz30_0
        try clear hcz30_1
        try clear hcz30_2
        try clear hcz30_3
        try clear hcz30_4
        try clear hcz35_0
        try clear hcz35_1
        try clear hcz35_2
        try clear hcz35_3
        try clear hcz35_4
        try clear hcz43_0
        try clear hcz43_1
        try clear hcz43_2
        try clear hcz43_3
        try clear hcz43_4
        try clear hcz53_0
        try clear hcz53_1
        try clear hcz53_2
        try clear hcz53_3
        try clear hcz53_4
        try clear hcz55_0
        try clear hcz55_1
        try clear hcz55_2
        try clear hcz55_3
        try clear hcz55_4
        try clear hfz22_0
        try clear hfz22_1
        try clear hfz22_2
        try clear hfz22_3
        try clear hfz22_4
        try clear hfz30_0
        try clear hfz30_1
        try clear hfz30_2
        try clear hfz30_3
        try clear hfz30_4
        try clear hfz35_0
        try clear hfz35_1
        try clear hfz35_2
        try clear hfz35_3
        try clear hfz35_4
        try clear hfz43_0
        try clear hfz43_1
        try clear hfz43_2
        try clear hfz43_3
        try clear hfz43_4
        try clear hfz53_0
        try clear hfz53_1
        try clear hfz53_2
        try clear hfz53_3
        try clear hfz53_4
        try clear hfz55_0
        try clear hfz55_1
        try clear hfz55_2
        try clear hfz55_3
        try clear hfz55_4
        try clear hx417_0
        try clear hx418_0
        try clear p2
        try clear p417
        try clear p418
        try clear q417
        try clear q418
        obtain ⟨kq, x125_47, rfl, HA, HJ47, HO_3, HO_6, BK0, HB⟩ := hcut; cases kq with
        | zero => exact absurd HA.out (by simp [impl_Trie_nodes.j2])
        | succ kj47 =>
         have H := HA.out; clear HA
         simp only [impl_Trie_nodes.j2] at H
         by_cases c56 : x125_47 = true
         ·subst c56
          rw [if_pos rfl] at H; obtain rfl := Option.some.inj H
          go_wp2
          go_ret
          exact ⟨⟨_, eZ, nZ, Bq⟩, by first | exact rfl | exact fun _ => rfl | exact nzE (dT)⟩
         ·replace c56 := Bool.eq_false_iff.mpr c56
          subst c56
          rw [if_neg (show ¬ (false = true) by decide)] at H; replace H := Option.bind_eq_some_iff.mp H; obtain ⟨⟨t426, t427, t430, t431, t434⟩, A570, H⟩ := H; (try dsimp -simprocs only at H); have A57 := am A570; clear A570; replace H := Option.bind_eq_some_iff.mp H; obtain ⟨t436, A580, H⟩ := H; (try dsimp -simprocs only at H); have A58 := am A580; clear A580
          by_cases c59 : t436 = true
          ·subst c59
           rw [if_pos rfl] at H; replace H := Option.bind_eq_some_iff.mp H; obtain ⟨t437, A600, H⟩ := H; (try dsimp -simprocs only at H); have A60 := am A600; clear A600
           by_cases c61 : t437 = true
           ·subst c61
            rw [if_pos rfl] at H
            by_cases c62 : t434.toList = a0_4.toList
            ·rw [if_pos c62] at H
             have c62b0 : (t434.toList == a0_4.toList) = true := beq_iff_eq.mpr c62; have c62b1 : (t434.toList != a0_4.toList) = false := bne_eq_false_iff_eq.mpr c62; clear c62
             by_cases c63 : 0 < (x3_2.length : Int)
             ·rw [if_pos c63] at H
              have c63b0 := eq_true c63; have c63b1 : decide (0 < (x3_2.length : Int)) = true := decide_eq_true c63; clear c63; obtain rfl := Option.some.inj H; obtain ⟨Ao64, co64, eo64⟩ := Kd.R_slice HO_6.out; subst eo64
              try go_wp2_with (first | ((with_reducible refine gate_callee (f := 25) rfl ?_); refine gL (some 127) Tryz.func25 #[.slice Ao64 t422.length co64] ?_; (with_reducible refine (impl_trie.calls kj47 _ _ t422 t426 t427 t430 t431 t434 _ ?side1 ?side2 A57.out).mono ?_); (case side1 => exact Cz ((Kd.R_reads' HO_6.out).2.2)); (case side2 => exact (Kd.R_reads' HO_6.out).2.1); rintro e w65 ⟨v428, v432, rfl, ho0, ho1, hb⟩; refine ⟨_, rfl, ?_⟩; have n0_ := Rb HO_3 hb; have n1_ := Rb HO_6 hb; have n2_ := Rm ho0 HB; have n3_ := Rm ho1 HB; have n4_ := Kb BK0 hb; have n5_ := Bc HB hb; clear HO_3 HO_6 BK0 HB; revert n0_ n1_ n2_ n3_ n4_ n5_; intro HO_3 HO_6 HO429 HO433 BK0 HB; (try clear hb); (try clear hb2); (try clear hk); (try clear hi); (try clear ho0); (try clear ho1)) | ((with_reducible refine gate_dst (N := 7) rfl ?_); (try (refine gate_guard (by rfl) ?_; dsimp only)); refine bE 7 #[.int .i64 0, .slice none 0 0, .int .i64 0, .slice none 0 0, .string (⟨#[]⟩ : ByteArray)] 32 ?_; intro gb435 hg w66 hbox hb; have n0_ := Rb HO_3 hb; have n1_ := Rb HO_6 hb; have n2_ := Rb HO429 hb; have n3_ := Rb HO433 hb; have n4_ := Kb BK0 hb; have n5_ := Bc HB hb; have n6_ := am (hbox); have n7_ := Gm HB hg; have n8_ := Gm HB hg; have n9_ := Nl BK0 hg; have n10_ := Ng BK0 hg; clear HO_3 HO_6 HO429 HO433 BK0 HB; revert n0_ n1_ n2_ n3_ n4_ n5_ n6_ n7_ n8_ n9_ n10_; intro HO_3 HO_6 HO429 HO433 BK0 HB BK435 GW435 GE435 NB0_435 NB435_0; clear hb hbox hg; have hnb67 := NB435_0.out; have hnc67 := NB0_435.out; obtain ⟨hcz68_0, hcz68_1, hcz68_2, hcz68_3, hcz68_4, hfz68_0, hfz68_1, hfz68_2, hfz68_3, hfz68_4⟩ := cf5 (w := w66) BK435; obtain ⟨Ao69, co69, eo69⟩ := Kd.R_slice HO429.out; subst eo69; obtain ⟨Ao70, co70, eo70⟩ := Kd.R_slice HO433.out; subst eo70))
              have n0_ : Aside0 (Kd.R Kd.string 9 (((((w66.setCell ⟨gb435, 0, none⟩ (.int .i64 t426)).setCell ⟨gb435, 1, none⟩ (.slice Ao69 t427.length co69)).setCell ⟨gb435, 2, none⟩ (.int .i64 t430)).setCell ⟨gb435, 3, none⟩ (.slice Ao70 t431.length co70)).setCell ⟨gb435, 4, none⟩ (.string t434)) w.heap.size (fun k_ => some k_ ≠ (.slice Ao64 t422.length co64 : Value).ownBlock) (.slice Ao49 x3_2.length co49) x3_2) := ⟨Rz (Kd.R_mono (Kd.R_far (p := ⟨gb435, 4, none⟩) (Kd.R_far (p := ⟨gb435, 3, none⟩) (Kd.R_far (p := ⟨gb435, 2, none⟩) (Kd.R_far (p := ⟨gb435, 1, none⟩) (Kd.R_far (p := ⟨gb435, 0, none⟩) (Kd.R_types HO_3.out BK435.out (by decide)) (fun _ hk => hk.2) (.int .i64 t426)) (fun _ hk => hk.2) (.slice Ao69 t427.length co69)) (fun _ hk => hk.2) (.int .i64 t430)) (fun _ hk => hk.2) (.slice Ao70 t431.length co70)) (fun _ hk => hk.2) (.string t434)) (fun _ hk => hk.1))⟩; have n1_ : Aside0 (Kd.R Kd.string 9 (((((w66.setCell ⟨gb435, 0, none⟩ (.int .i64 t426)).setCell ⟨gb435, 1, none⟩ (.slice Ao69 t427.length co69)).setCell ⟨gb435, 2, none⟩ (.int .i64 t430)).setCell ⟨gb435, 3, none⟩ (.slice Ao70 t431.length co70)).setCell ⟨gb435, 4, none⟩ (.string t434)) w.heap.size (fun k_ => some k_ ≠ (.slice Ao49 x3_2.length co49 : Value).ownBlock) (.slice Ao64 t422.length co64) t422) := ⟨Rz (Kd.R_mono (Kd.R_far (p := ⟨gb435, 4, none⟩) (Kd.R_far (p := ⟨gb435, 3, none⟩) (Kd.R_far (p := ⟨gb435, 2, none⟩) (Kd.R_far (p := ⟨gb435, 1, none⟩) (Kd.R_far (p := ⟨gb435, 0, none⟩) (Kd.R_types HO_6.out BK435.out (by decide)) (fun _ hk => hk.2) (.int .i64 t426)) (fun _ hk => hk.2) (.slice Ao69 t427.length co69)) (fun _ hk => hk.2) (.int .i64 t430)) (fun _ hk => hk.2) (.slice Ao70 t431.length co70)) (fun _ hk => hk.2) (.string t434)) (fun _ hk => hk.1))⟩; have n2_ : Aside0 (Kd.R (Kd.int .i64) 3 (((((w66.setCell ⟨gb435, 0, none⟩ (.int .i64 t426)).setCell ⟨gb435, 1, none⟩ (.slice Ao69 t427.length co69)).setCell ⟨gb435, 2, none⟩ (.int .i64 t430)).setCell ⟨gb435, 3, none⟩ (.slice Ao70 t431.length co70)).setCell ⟨gb435, 4, none⟩ (.string t434)) w.heap.size (fun k_ => some k_ ≠ (.slice Ao70 t431.length co70 : Value).ownBlock) (.slice Ao69 t427.length co69) t427) := ⟨Rz (Kd.R_mono (Kd.R_far (p := ⟨gb435, 4, none⟩) (Kd.R_far (p := ⟨gb435, 3, none⟩) (Kd.R_far (p := ⟨gb435, 2, none⟩) (Kd.R_far (p := ⟨gb435, 1, none⟩) (Kd.R_far (p := ⟨gb435, 0, none⟩) (Kd.R_types HO429.out BK435.out (by decide)) (fun _ hk => hk.2) (.int .i64 t426)) (fun _ hk => hk.2) (.slice Ao69 t427.length co69)) (fun _ hk => hk.2) (.int .i64 t430)) (fun _ hk => hk.2) (.slice Ao70 t431.length co70)) (fun _ hk => hk.2) (.string t434)) (fun _ hk => hk.1))⟩; have n3_ : Aside0 (Kd.R (Kd.int .i64) 3 (((((w66.setCell ⟨gb435, 0, none⟩ (.int .i64 t426)).setCell ⟨gb435, 1, none⟩ (.slice Ao69 t427.length co69)).setCell ⟨gb435, 2, none⟩ (.int .i64 t430)).setCell ⟨gb435, 3, none⟩ (.slice Ao70 t431.length co70)).setCell ⟨gb435, 4, none⟩ (.string t434)) w.heap.size (fun k_ => some k_ ≠ (.slice Ao69 t427.length co69 : Value).ownBlock) (.slice Ao70 t431.length co70) t431) := ⟨Rz (Kd.R_mono (Kd.R_far (p := ⟨gb435, 4, none⟩) (Kd.R_far (p := ⟨gb435, 3, none⟩) (Kd.R_far (p := ⟨gb435, 2, none⟩) (Kd.R_far (p := ⟨gb435, 1, none⟩) (Kd.R_far (p := ⟨gb435, 0, none⟩) (Kd.R_types HO433.out BK435.out (by decide)) (fun _ hk => hk.2) (.int .i64 t426)) (fun _ hk => hk.2) (.slice Ao69 t427.length co69)) (fun _ hk => hk.2) (.int .i64 t430)) (fun _ hk => hk.2) (.slice Ao70 t431.length co70)) (fun _ hk => hk.2) (.string t434)) (fun _ hk => hk.1))⟩
              have n4_ : Aside0 ((((((w66.setCell ⟨gb435, 0, none⟩ (.int .i64 t426)).setCell ⟨gb435, 1, none⟩ (.slice Ao69 t427.length co69)).setCell ⟨gb435, 2, none⟩ (.int .i64 t430)).setCell ⟨gb435, 3, none⟩ (.slice Ao70 t431.length co70)).setCell ⟨gb435, 4, none⟩ (.string t434)).heap[g0]? = some (.cells #[.int .i64 a0_0, .slice A0_1 l0_1.length c0_1, .int .i64 a0_2, .slice A0_3 l0_3.length c0_3, .string a0_4] 32 (0, 0))) := ⟨by (with_reducible repeat (first | refine blk_drewN ?_ _ | refine blk_drew ?_ | refine blk_alloc ?_ _)); refine blk_far ?_ NB0_435.out _; (with_reducible repeat (first | refine blk_drewN ?_ _ | refine blk_drew ?_ | refine blk_alloc ?_ _)); refine blk_far ?_ NB0_435.out _; (with_reducible repeat (first | refine blk_drewN ?_ _ | refine blk_drew ?_ | refine blk_alloc ?_ _)); refine blk_far ?_ NB0_435.out _; (with_reducible repeat (first | refine blk_drewN ?_ _ | refine blk_drew ?_ | refine blk_alloc ?_ _)); refine blk_far ?_ NB0_435.out _; (with_reducible repeat (first | refine blk_drewN ?_ _ | refine blk_drew ?_ | refine blk_alloc ?_ _)); refine blk_far ?_ NB0_435.out _; (with_reducible repeat (first | refine blk_drewN ?_ _ | refine blk_drew ?_ | refine blk_alloc ?_ _)); exact BK0.out⟩; have n5_ : Aside0 ((((((w66.setCell ⟨gb435, 0, none⟩ (.int .i64 t426)).setCell ⟨gb435, 1, none⟩ (.slice Ao69 t427.length co69)).setCell ⟨gb435, 2, none⟩ (.int .i64 t430)).setCell ⟨gb435, 3, none⟩ (.slice Ao70 t431.length co70)).setCell ⟨gb435, 4, none⟩ (.string t434)).heap[gb435]? = some (.cells #[.int .i64 t426, .slice Ao69 t427.length co69, .int .i64 t430, .slice Ao70 t431.length co70, .string t434] 32 (0, 0))) := ⟨by (with_reducible repeat (first | refine blk_drewN ?_ _ | refine blk_drew ?_ | refine blk_alloc ?_ _)); refine blk_put (cs := #[.int .i64 t426, .slice Ao69 t427.length co69, .int .i64 t430, .slice Ao70 t431.length co70, .string (⟨#[]⟩ : ByteArray)]) ?_ 4 _ rfl; (with_reducible repeat (first | refine blk_drewN ?_ _ | refine blk_drew ?_ | refine blk_alloc ?_ _)); refine blk_put (cs := #[.int .i64 t426, .slice Ao69 t427.length co69, .int .i64 t430, .slice none 0 0, .string (⟨#[]⟩ : ByteArray)]) ?_ 3 _ rfl; (with_reducible repeat (first | refine blk_drewN ?_ _ | refine blk_drew ?_ | refine blk_alloc ?_ _)); refine blk_put (cs := #[.int .i64 t426, .slice Ao69 t427.length co69, .int .i64 0, .slice none 0 0, .string (⟨#[]⟩ : ByteArray)]) ?_ 2 _ rfl; (with_reducible repeat (first | refine blk_drewN ?_ _ | refine blk_drew ?_ | refine blk_alloc ?_ _)); refine blk_put (cs := #[.int .i64 t426, .slice none 0 0, .int .i64 0, .slice none 0 0, .string (⟨#[]⟩ : ByteArray)]) ?_ 1 _ rfl; (with_reducible repeat (first | refine blk_drewN ?_ _ | refine blk_drew ?_ | refine blk_alloc ?_ _)); refine blk_put (cs := #[.int .i64 0, .slice none 0 0, .int .i64 0, .slice none 0 0, .string (⟨#[]⟩ : ByteArray)]) ?_ 0 _ rfl; (with_reducible repeat (first | refine blk_drewN ?_ _ | refine blk_drew ?_ | refine blk_alloc ?_ _)); exact BK435.out⟩; have n6_ : Aside0 (Below w.heap.size w (((((w66.setCell ⟨gb435, 0, none⟩ (.int .i64 t426)).setCell ⟨gb435, 1, none⟩ (.slice Ao69 t427.length co69)).setCell ⟨gb435, 2, none⟩ (.int .i64 t430)).setCell ⟨gb435, 3, none⟩ (.slice Ao70 t431.length co70)).setCell ⟨gb435, 4, none⟩ (.string t434))) := ⟨Bq⟩
              (try clear HO_3)
              (try clear HO_6)
              (try clear HO429)
              (try clear HO433)
              (try clear BK0)
              (try clear BK435)
              (try clear HB)
              generalize (((((w66.setCell ⟨gb435, 0, none⟩ (.int .i64 t426)).setCell ⟨gb435, 1, none⟩ (.slice Ao69 t427.length co69)).setCell ⟨gb435, 2, none⟩ (.int .i64 t430)).setCell ⟨gb435, 3, none⟩ (.slice Ao70 t431.length co70)).setCell ⟨gb435, 4, none⟩ (.string t434)) = w71 at n0_ n1_ n2_ n3_ n4_ n5_ n6_ ⊢; revert n0_ n1_ n2_ n3_ n4_ n5_ n6_; intro HO_3 HO_6 HO429 HO433 BK0 BK435 HB; have n0_ := am (Kd.R_drew HO_3.out); have n1_ := am (Kd.R_drew HO_6.out); have n2_ := am (Kd.R_drew HO429.out); have n3_ := am (Kd.R_drew HO433.out); have n4_ := am (blk_drew BK0.out); have n5_ := am (blk_drew BK435.out); have n6_ := am (below_drew1 HB.out); clear HO_3 HO_6 HO429 HO433 BK0 BK435 HB; revert n0_ n1_ n2_ n3_ n4_ n5_ n6_; intro HO_3 HO_6 HO429 HO433 BK0 BK435 HB; refine start_ (n := 27) (S := fun w' => w'.cell? ⟨gb435, 0, none⟩ = some (.int .i64 t426) ∧ w'.cell? ⟨gb435, 1, none⟩ = some (.slice Ao69 t427.length co69) ∧ w'.cell? ⟨gb435, 2, none⟩ = some (.int .i64 t430) ∧ w'.cell? ⟨gb435, 3, none⟩ = some (.slice Ao70 t431.length co70) ∧ w'.cell? ⟨gb435, 4, none⟩ = some (.string t434) ∧ w'.cell? ⟨g0, 0, none⟩ = some (.int .i64 a0_0) ∧ w'.cell? ⟨g0, 1, none⟩ = some (.slice A0_1 l0_1.length c0_1) ∧ w'.cell? ⟨g0, 2, none⟩ = some (.int .i64 a0_2) ∧ w'.cell? ⟨g0, 3, none⟩ = some (.slice A0_3 l0_3.length c0_3) ∧ w'.cell? ⟨g0, 4, none⟩ = some (.string a0_4)) (ds := []) (bA 27 0) (by kernel_rfl) rfl rfl ⟨cz BK435 0, cz BK435 1, cz BK435 2, cz BK435 3, cz BK435 4, cz BK0 0, cz BK0 1, cz BK0 2, cz BK0 3, cz BK0 4⟩ (fun hHeld => ?_); refine with_tabW impl_Trie_nodes.tab19 impl_Trie_nodes.bits19 (fun HT_ HW_ => ?_); generalize w71.drew = w72 at HO_3 HO_6 HO429 HO433 BK0 BK435 HB hHeld ⊢; refine pZ 0 (some 128) (bA 27 1) HT_.out ?_; refine pZ 2 (some 130) (bA 27 5) HT_.out ?_; refine pZ 3 (some 131) (bA 27 13) HT_.out ?_; refine pZ 4 (some 132) (bA 27 29) HT_.out ?_; refine take_ (i := 1) (N := some 129) (v := ?_) (a' := ?_) (bA 27 31) rfl rfl (take_ofW HT_.out HW_.out (by kernel_rfl)) (fun _ _ _ h => h) (Or.inl ⟨by rfl, ?_⟩) hHeld ?_ ?_
              rotate_left
              ·rintro w' ⟨s0, s1, s2, s3, s4, s5, s6, s7, s8, s9⟩
               go_simp
               with_reducible rfl
              rotate_left
              ·simp only [aP, i64_w, i32_w]
               rfl
              refine take_ (i := 5) (N := some 133) (v := ?_) (a' := ?_) (bA 27 63) rfl rfl (take_ofW HT_.out HW_.out (by kernel_rfl)) (fun _ _ _ h => h) (Or.inl ⟨by rfl, ?_⟩) hHeld ?_ ?_
              rotate_left
              ·rintro w' ⟨s0, s1, s2, s3, s4, s5, s6, s7, s8, s9⟩
               go_simp
               with_reducible rfl
              rotate_left
              ·simp only [aP, i64_w, i32_w]
               rfl
              refine oZ 6 (some 134) (bA 27 127) HT_.out (fun K hK => ?_); refine gZ Tryz.func26 #[.agg #[.int .i64 t426, .slice Ao69 t427.length co69], .agg #[.int .i64 a0_0, .slice A0_1 l0_1.length c0_1]] ?_
              with_reducible refine (impl_sameBits.calls kj47 t426 _ _ t427 a0_0 _ _ l0_1 true _ ?side1 ?side2 ?side3 ?side4 A58.out).mono ?_
              (case side1 => exact Cz ((Kd.R_reads' HO429.out).2.2))
              (case side2 => exact (Kd.R_reads' HO429.out).2.1)
              (case side3 => exact Cz (Kd.C_below HR0_1.out HB.out))
              (case side4 => exact HC0_1.out)
              rintro e w73 ⟨rfl, hb⟩; refine ⟨_, rfl, ?_⟩; have n0_ := Rb HO_3 hb; have n1_ := Rb HO_6 hb; have n2_ := Rb HO429 hb; have n3_ := Rb HO433 hb; have n4_ := Kb BK0 hb; have n5_ := Kb BK435 hb; have n6_ := Bc HB hb; clear HO_3 HO_6 HO429 HO433 BK0 BK435 HB; revert n0_ n1_ n2_ n3_ n4_ n5_ n6_; intro HO_3 HO_6 HO429 HO433 BK0 BK435 HB
              (try clear hb)
              (try clear hb2)
              (try clear hk)
              (try clear hi)
              refine hK.out _ _ ⟨cz BK435 0, cz BK435 1, cz BK435 2, cz BK435 3, cz BK435 4, cz BK0 0, cz BK0 1, cz BK0 2, cz BK0 3, cz BK0 4⟩ (fun hHeld => ?_); clear hK K; refine norm_ (a' := ?_) ?_ ?_; rotate_left; show Act.put _ (some 134) _ = _; simp only [aP, i64_w, i32_w]; rfl; refine pZ 7 (some 135) (bA 27 255) HT_.out ?_; refine pZ 8 (some 136) (bA 27 511) HT_.out ?_; refine pZ 9 (some 137) (bA 27 1023) HT_.out ?_; refine pZ 11 (some 139) (bA 27 3071) HT_.out ?_; refine pZ 12 (some 140) (bA 27 7167) HT_.out ?_; refine pZ 13 (some 141) (bA 27 15359) HT_.out ?_; refine take_ (i := 10) (N := some 138) (v := ?_) (a' := ?_) (bA 27 16383) rfl rfl (take_ofW HT_.out HW_.out (by kernel_rfl)) (fun _ _ _ h => h) (Or.inl ⟨by rfl, ?_⟩) hHeld ?_ ?_
              rotate_left
              ·rintro w' ⟨s0, s1, s2, s3, s4, s5, s6, s7, s8, s9⟩
               go_simp
               with_reducible rfl
              rotate_left
              ·simp only [aP, i64_w, i32_w]
               rfl
              refine take_ (i := 14) (N := some 142) (v := ?_) (a' := ?_) (bA 27 32767) rfl rfl (take_ofW HT_.out HW_.out (by kernel_rfl)) (fun _ _ _ h => h) (Or.inl ⟨by rfl, ?_⟩) hHeld ?_ ?_
              rotate_left
              ·rintro w' ⟨s0, s1, s2, s3, s4, s5, s6, s7, s8, s9⟩
               go_simp
               with_reducible rfl
              rotate_left
              ·simp only [aP, i64_w, i32_w]
               rfl
              refine oZ 15 (some 143) (bA 27 65535) HT_.out (fun K hK => ?_); refine gZ Tryz.func26 #[.agg #[.int .i64 t430, .slice Ao70 t431.length co70], .agg #[.int .i64 a0_2, .slice A0_3 l0_3.length c0_3]] ?_
              with_reducible refine (impl_sameBits.calls kj47 t430 _ _ t431 a0_2 _ _ l0_3 true _ ?side1 ?side2 ?side3 ?side4 A60.out).mono ?_
              (case side1 => exact Cz ((Kd.R_reads' HO433.out).2.2))
              (case side2 => exact (Kd.R_reads' HO433.out).2.1)
              (case side3 => exact Cz (Kd.C_below HR0_3.out HB.out))
              (case side4 => exact HC0_3.out)
              rintro e w74 ⟨rfl, hb⟩; refine ⟨_, rfl, ?_⟩; have n0_ := Rb HO_3 hb; have n1_ := Rb HO_6 hb; have n2_ := Rb HO429 hb; have n3_ := Rb HO433 hb; have n4_ := Kb BK0 hb; have n5_ := Kb BK435 hb; have n6_ := Bc HB hb; clear HO_3 HO_6 HO429 HO433 BK0 BK435 HB; revert n0_ n1_ n2_ n3_ n4_ n5_ n6_; intro HO_3 HO_6 HO429 HO433 BK0 BK435 HB
              (try clear hb)
              (try clear hb2)
              (try clear hk)
              (try clear hi)
              refine hK.out _ _ ⟨cz BK435 0, cz BK435 1, cz BK435 2, cz BK435 3, cz BK435 4, cz BK0 0, cz BK0 1, cz BK0 2, cz BK0 3, cz BK0 4⟩ (fun hHeld => ?_); clear hK K; refine norm_ (a' := ?_) ?_ ?_; rotate_left; show Act.put _ (some 143) _ = _; simp only [aP, i64_w, i32_w]; rfl; refine pZ 16 (some 144) (bA 27 131071) HT_.out ?_; refine pZ 17 (some 145) (bA 27 262143) HT_.out ?_; refine pZ 18 (some 146) (bA 27 524287) HT_.out ?_; refine pZ 19 (some 147) (bA 27 1048575) HT_.out ?_; refine pZ 21 (some 149) (bA 27 3145727) HT_.out ?_; refine pZ 22 (some 150) (bA 27 7340031) HT_.out ?_; refine pZ 23 (some 151) (bA 27 15728639) HT_.out ?_; refine take_ (i := 20) (N := some 148) (v := ?_) (a' := ?_) (bA 27 16777215) rfl rfl (take_ofW HT_.out HW_.out (by kernel_rfl)) (fun _ _ _ h => h) (Or.inl ⟨by rfl, ?_⟩) hHeld ?_ ?_
              rotate_left
              ·rintro w' ⟨s0, s1, s2, s3, s4, s5, s6, s7, s8, s9⟩
               go_simp
               with_reducible rfl
              rotate_left
              ·simp only [aP, i64_w, i32_w]
               rfl
              refine take_ (i := 24) (N := some 152) (v := ?_) (a' := ?_) (bA 27 33554431) rfl rfl (take_ofW HT_.out HW_.out (by kernel_rfl)) (fun _ _ _ h => h) (Or.inl ⟨by rfl, ?_⟩) hHeld ?_ ?_
              rotate_left
              ·rintro w' ⟨s0, s1, s2, s3, s4, s5, s6, s7, s8, s9⟩
               go_simp
               with_reducible rfl
              rotate_left
              ·simp only [aP, i64_w, i32_w]
               rfl
              refine pZ 25 (some 153) (bA 27 67108863) HT_.out ?_; refine pZ 26 (some 154) (bA 27 134217727) HT_.out ?_; refine done_ (done_of HT_.out (by kernel_rfl)) ?_
              try go_wp2
              go_ret
              exact ⟨⟨_, eZ, Rz (Kd.R_mono HO_3.out (fun _ hk => trivial)), Bq⟩, by first | exact rfl | exact fun _ => rfl | exact nzE (dT)⟩
             ·rw [if_neg c63] at H
              exact absurd H (by simp)
            ·rw [if_neg c62] at H
             have c62b0 : (t434.toList == a0_4.toList) = false := beq_eq_false_iff_ne.mpr c62; have c62b1 : (t434.toList != a0_4.toList) = true := bne_iff_ne.mpr c62; obtain rfl := Option.some.inj H; obtain ⟨Ao75, co75, eo75⟩ := Kd.R_slice HO_6.out; subst eo75
             try go_wp2_with (first | ((with_reducible refine gate_callee (f := 25) rfl ?_); refine gL (some 127) Tryz.func25 #[.slice Ao75 t422.length co75] ?_; (with_reducible refine (impl_trie.calls kj47 _ _ t422 t426 t427 t430 t431 t434 _ ?side1 ?side2 A57.out).mono ?_); (case side1 => exact Cz ((Kd.R_reads' HO_6.out).2.2)); (case side2 => exact (Kd.R_reads' HO_6.out).2.1); rintro e w76 ⟨v428, v432, rfl, ho0, ho1, hb⟩; refine ⟨_, rfl, ?_⟩; have n0_ := Rb HO_3 hb; have n1_ := Rb HO_6 hb; have n2_ := Rm ho0 HB; have n3_ := Rm ho1 HB; have n4_ := Kb BK0 hb; have n5_ := Bc HB hb; clear HO_3 HO_6 BK0 HB; revert n0_ n1_ n2_ n3_ n4_ n5_; intro HO_3 HO_6 HO429 HO433 BK0 HB; (try clear hb); (try clear hb2); (try clear hk); (try clear hi); (try clear ho0); (try clear ho1)) | ((with_reducible refine gate_dst (N := 7) rfl ?_); (try (refine gate_guard (by rfl) ?_; dsimp only)); refine bE 7 #[.int .i64 0, .slice none 0 0, .int .i64 0, .slice none 0 0, .string (⟨#[]⟩ : ByteArray)] 32 ?_; intro gb435 hg w77 hbox hb; have n0_ := Rb HO_3 hb; have n1_ := Rb HO_6 hb; have n2_ := Rb HO429 hb; have n3_ := Rb HO433 hb; have n4_ := Kb BK0 hb; have n5_ := Bc HB hb; have n6_ := am (hbox); have n7_ := Gm HB hg; have n8_ := Gm HB hg; have n9_ := Nl BK0 hg; have n10_ := Ng BK0 hg; clear HO_3 HO_6 HO429 HO433 BK0 HB; revert n0_ n1_ n2_ n3_ n4_ n5_ n6_ n7_ n8_ n9_ n10_; intro HO_3 HO_6 HO429 HO433 BK0 HB BK435 GW435 GE435 NB0_435 NB435_0; clear hb hbox hg; have hnb78 := NB435_0.out; have hnc78 := NB0_435.out; obtain ⟨hcz79_0, hcz79_1, hcz79_2, hcz79_3, hcz79_4, hfz79_0, hfz79_1, hfz79_2, hfz79_3, hfz79_4⟩ := cf5 (w := w77) BK435; obtain ⟨Ao80, co80, eo80⟩ := Kd.R_slice HO429.out; subst eo80; obtain ⟨Ao81, co81, eo81⟩ := Kd.R_slice HO433.out; subst eo81))
             have n0_ : Aside0 (Kd.R Kd.string 9 (((((w77.setCell ⟨gb435, 0, none⟩ (.int .i64 t426)).setCell ⟨gb435, 1, none⟩ (.slice Ao80 t427.length co80)).setCell ⟨gb435, 2, none⟩ (.int .i64 t430)).setCell ⟨gb435, 3, none⟩ (.slice Ao81 t431.length co81)).setCell ⟨gb435, 4, none⟩ (.string t434)) w.heap.size (fun k_ => some k_ ≠ (.slice Ao75 t422.length co75 : Value).ownBlock) (.slice Ao49 x3_2.length co49) x3_2) := ⟨Rz (Kd.R_mono (Kd.R_far (p := ⟨gb435, 4, none⟩) (Kd.R_far (p := ⟨gb435, 3, none⟩) (Kd.R_far (p := ⟨gb435, 2, none⟩) (Kd.R_far (p := ⟨gb435, 1, none⟩) (Kd.R_far (p := ⟨gb435, 0, none⟩) (Kd.R_types HO_3.out BK435.out (by decide)) (fun _ hk => hk.2) (.int .i64 t426)) (fun _ hk => hk.2) (.slice Ao80 t427.length co80)) (fun _ hk => hk.2) (.int .i64 t430)) (fun _ hk => hk.2) (.slice Ao81 t431.length co81)) (fun _ hk => hk.2) (.string t434)) (fun _ hk => hk.1))⟩; have n1_ : Aside0 (Kd.R Kd.string 9 (((((w77.setCell ⟨gb435, 0, none⟩ (.int .i64 t426)).setCell ⟨gb435, 1, none⟩ (.slice Ao80 t427.length co80)).setCell ⟨gb435, 2, none⟩ (.int .i64 t430)).setCell ⟨gb435, 3, none⟩ (.slice Ao81 t431.length co81)).setCell ⟨gb435, 4, none⟩ (.string t434)) w.heap.size (fun k_ => some k_ ≠ (.slice Ao49 x3_2.length co49 : Value).ownBlock) (.slice Ao75 t422.length co75) t422) := ⟨Rz (Kd.R_mono (Kd.R_far (p := ⟨gb435, 4, none⟩) (Kd.R_far (p := ⟨gb435, 3, none⟩) (Kd.R_far (p := ⟨gb435, 2, none⟩) (Kd.R_far (p := ⟨gb435, 1, none⟩) (Kd.R_far (p := ⟨gb435, 0, none⟩) (Kd.R_types HO_6.out BK435.out (by decide)) (fun _ hk => hk.2) (.int .i64 t426)) (fun _ hk => hk.2) (.slice Ao80 t427.length co80)) (fun _ hk => hk.2) (.int .i64 t430)) (fun _ hk => hk.2) (.slice Ao81 t431.length co81)) (fun _ hk => hk.2) (.string t434)) (fun _ hk => hk.1))⟩; have n2_ : Aside0 (Kd.R (Kd.int .i64) 3 (((((w77.setCell ⟨gb435, 0, none⟩ (.int .i64 t426)).setCell ⟨gb435, 1, none⟩ (.slice Ao80 t427.length co80)).setCell ⟨gb435, 2, none⟩ (.int .i64 t430)).setCell ⟨gb435, 3, none⟩ (.slice Ao81 t431.length co81)).setCell ⟨gb435, 4, none⟩ (.string t434)) w.heap.size (fun k_ => some k_ ≠ (.slice Ao81 t431.length co81 : Value).ownBlock) (.slice Ao80 t427.length co80) t427) := ⟨Rz (Kd.R_mono (Kd.R_far (p := ⟨gb435, 4, none⟩) (Kd.R_far (p := ⟨gb435, 3, none⟩) (Kd.R_far (p := ⟨gb435, 2, none⟩) (Kd.R_far (p := ⟨gb435, 1, none⟩) (Kd.R_far (p := ⟨gb435, 0, none⟩) (Kd.R_types HO429.out BK435.out (by decide)) (fun _ hk => hk.2) (.int .i64 t426)) (fun _ hk => hk.2) (.slice Ao80 t427.length co80)) (fun _ hk => hk.2) (.int .i64 t430)) (fun _ hk => hk.2) (.slice Ao81 t431.length co81)) (fun _ hk => hk.2) (.string t434)) (fun _ hk => hk.1))⟩; have n3_ : Aside0 (Kd.R (Kd.int .i64) 3 (((((w77.setCell ⟨gb435, 0, none⟩ (.int .i64 t426)).setCell ⟨gb435, 1, none⟩ (.slice Ao80 t427.length co80)).setCell ⟨gb435, 2, none⟩ (.int .i64 t430)).setCell ⟨gb435, 3, none⟩ (.slice Ao81 t431.length co81)).setCell ⟨gb435, 4, none⟩ (.string t434)) w.heap.size (fun k_ => some k_ ≠ (.slice Ao80 t427.length co80 : Value).ownBlock) (.slice Ao81 t431.length co81) t431) := ⟨Rz (Kd.R_mono (Kd.R_far (p := ⟨gb435, 4, none⟩) (Kd.R_far (p := ⟨gb435, 3, none⟩) (Kd.R_far (p := ⟨gb435, 2, none⟩) (Kd.R_far (p := ⟨gb435, 1, none⟩) (Kd.R_far (p := ⟨gb435, 0, none⟩) (Kd.R_types HO433.out BK435.out (by decide)) (fun _ hk => hk.2) (.int .i64 t426)) (fun _ hk => hk.2) (.slice Ao80 t427.length co80)) (fun _ hk => hk.2) (.int .i64 t430)) (fun _ hk => hk.2) (.slice Ao81 t431.length co81)) (fun _ hk => hk.2) (.string t434)) (fun _ hk => hk.1))⟩
             have n4_ : Aside0 ((((((w77.setCell ⟨gb435, 0, none⟩ (.int .i64 t426)).setCell ⟨gb435, 1, none⟩ (.slice Ao80 t427.length co80)).setCell ⟨gb435, 2, none⟩ (.int .i64 t430)).setCell ⟨gb435, 3, none⟩ (.slice Ao81 t431.length co81)).setCell ⟨gb435, 4, none⟩ (.string t434)).heap[g0]? = some (.cells #[.int .i64 a0_0, .slice A0_1 l0_1.length c0_1, .int .i64 a0_2, .slice A0_3 l0_3.length c0_3, .string a0_4] 32 (0, 0))) := ⟨by (with_reducible repeat (first | refine blk_drewN ?_ _ | refine blk_drew ?_ | refine blk_alloc ?_ _)); refine blk_far ?_ NB0_435.out _; (with_reducible repeat (first | refine blk_drewN ?_ _ | refine blk_drew ?_ | refine blk_alloc ?_ _)); refine blk_far ?_ NB0_435.out _; (with_reducible repeat (first | refine blk_drewN ?_ _ | refine blk_drew ?_ | refine blk_alloc ?_ _)); refine blk_far ?_ NB0_435.out _; (with_reducible repeat (first | refine blk_drewN ?_ _ | refine blk_drew ?_ | refine blk_alloc ?_ _)); refine blk_far ?_ NB0_435.out _; (with_reducible repeat (first | refine blk_drewN ?_ _ | refine blk_drew ?_ | refine blk_alloc ?_ _)); refine blk_far ?_ NB0_435.out _; (with_reducible repeat (first | refine blk_drewN ?_ _ | refine blk_drew ?_ | refine blk_alloc ?_ _)); exact BK0.out⟩; have n5_ : Aside0 ((((((w77.setCell ⟨gb435, 0, none⟩ (.int .i64 t426)).setCell ⟨gb435, 1, none⟩ (.slice Ao80 t427.length co80)).setCell ⟨gb435, 2, none⟩ (.int .i64 t430)).setCell ⟨gb435, 3, none⟩ (.slice Ao81 t431.length co81)).setCell ⟨gb435, 4, none⟩ (.string t434)).heap[gb435]? = some (.cells #[.int .i64 t426, .slice Ao80 t427.length co80, .int .i64 t430, .slice Ao81 t431.length co81, .string t434] 32 (0, 0))) := ⟨by (with_reducible repeat (first | refine blk_drewN ?_ _ | refine blk_drew ?_ | refine blk_alloc ?_ _)); refine blk_put (cs := #[.int .i64 t426, .slice Ao80 t427.length co80, .int .i64 t430, .slice Ao81 t431.length co81, .string (⟨#[]⟩ : ByteArray)]) ?_ 4 _ rfl; (with_reducible repeat (first | refine blk_drewN ?_ _ | refine blk_drew ?_ | refine blk_alloc ?_ _)); refine blk_put (cs := #[.int .i64 t426, .slice Ao80 t427.length co80, .int .i64 t430, .slice none 0 0, .string (⟨#[]⟩ : ByteArray)]) ?_ 3 _ rfl; (with_reducible repeat (first | refine blk_drewN ?_ _ | refine blk_drew ?_ | refine blk_alloc ?_ _)); refine blk_put (cs := #[.int .i64 t426, .slice Ao80 t427.length co80, .int .i64 0, .slice none 0 0, .string (⟨#[]⟩ : ByteArray)]) ?_ 2 _ rfl; (with_reducible repeat (first | refine blk_drewN ?_ _ | refine blk_drew ?_ | refine blk_alloc ?_ _)); refine blk_put (cs := #[.int .i64 t426, .slice none 0 0, .int .i64 0, .slice none 0 0, .string (⟨#[]⟩ : ByteArray)]) ?_ 1 _ rfl; (with_reducible repeat (first | refine blk_drewN ?_ _ | refine blk_drew ?_ | refine blk_alloc ?_ _)); refine blk_put (cs := #[.int .i64 0, .slice none 0 0, .int .i64 0, .slice none 0 0, .string (⟨#[]⟩ : ByteArray)]) ?_ 0 _ rfl; (with_reducible repeat (first | refine blk_drewN ?_ _ | refine blk_drew ?_ | refine blk_alloc ?_ _)); exact BK435.out⟩; have n6_ : Aside0 (Below w.heap.size w (((((w77.setCell ⟨gb435, 0, none⟩ (.int .i64 t426)).setCell ⟨gb435, 1, none⟩ (.slice Ao80 t427.length co80)).setCell ⟨gb435, 2, none⟩ (.int .i64 t430)).setCell ⟨gb435, 3, none⟩ (.slice Ao81 t431.length co81)).setCell ⟨gb435, 4, none⟩ (.string t434))) := ⟨Bq⟩
             (try clear HO_3)
             (try clear HO_6)
             (try clear HO429)
             (try clear HO433)
             (try clear BK0)
             (try clear BK435)
             (try clear HB)
             generalize (((((w77.setCell ⟨gb435, 0, none⟩ (.int .i64 t426)).setCell ⟨gb435, 1, none⟩ (.slice Ao80 t427.length co80)).setCell ⟨gb435, 2, none⟩ (.int .i64 t430)).setCell ⟨gb435, 3, none⟩ (.slice Ao81 t431.length co81)).setCell ⟨gb435, 4, none⟩ (.string t434)) = w82 at n0_ n1_ n2_ n3_ n4_ n5_ n6_ ⊢; revert n0_ n1_ n2_ n3_ n4_ n5_ n6_; intro HO_3 HO_6 HO429 HO433 BK0 BK435 HB; have n0_ := am (Kd.R_drew HO_3.out); have n1_ := am (Kd.R_drew HO_6.out); have n2_ := am (Kd.R_drew HO429.out); have n3_ := am (Kd.R_drew HO433.out); have n4_ := am (blk_drew BK0.out); have n5_ := am (blk_drew BK435.out); have n6_ := am (below_drew1 HB.out); clear HO_3 HO_6 HO429 HO433 BK0 BK435 HB; revert n0_ n1_ n2_ n3_ n4_ n5_ n6_; intro HO_3 HO_6 HO429 HO433 BK0 BK435 HB; refine start_ (n := 27) (S := fun w' => w'.cell? ⟨gb435, 0, none⟩ = some (.int .i64 t426) ∧ w'.cell? ⟨gb435, 1, none⟩ = some (.slice Ao80 t427.length co80) ∧ w'.cell? ⟨gb435, 2, none⟩ = some (.int .i64 t430) ∧ w'.cell? ⟨gb435, 3, none⟩ = some (.slice Ao81 t431.length co81) ∧ w'.cell? ⟨gb435, 4, none⟩ = some (.string t434) ∧ w'.cell? ⟨g0, 0, none⟩ = some (.int .i64 a0_0) ∧ w'.cell? ⟨g0, 1, none⟩ = some (.slice A0_1 l0_1.length c0_1) ∧ w'.cell? ⟨g0, 2, none⟩ = some (.int .i64 a0_2) ∧ w'.cell? ⟨g0, 3, none⟩ = some (.slice A0_3 l0_3.length c0_3) ∧ w'.cell? ⟨g0, 4, none⟩ = some (.string a0_4)) (ds := []) (bA 27 0) (by kernel_rfl) rfl rfl ⟨cz BK435 0, cz BK435 1, cz BK435 2, cz BK435 3, cz BK435 4, cz BK0 0, cz BK0 1, cz BK0 2, cz BK0 3, cz BK0 4⟩ (fun hHeld => ?_); refine with_tabW impl_Trie_nodes.tab19 impl_Trie_nodes.bits19 (fun HT_ HW_ => ?_); generalize w82.drew = w83 at HO_3 HO_6 HO429 HO433 BK0 BK435 HB hHeld ⊢; refine pZ 0 (some 128) (bA 27 1) HT_.out ?_; refine pZ 2 (some 130) (bA 27 5) HT_.out ?_; refine pZ 3 (some 131) (bA 27 13) HT_.out ?_; refine pZ 4 (some 132) (bA 27 29) HT_.out ?_; refine take_ (i := 1) (N := some 129) (v := ?_) (a' := ?_) (bA 27 31) rfl rfl (take_ofW HT_.out HW_.out (by kernel_rfl)) (fun _ _ _ h => h) (Or.inl ⟨by rfl, ?_⟩) hHeld ?_ ?_
             rotate_left
             ·rintro w' ⟨s0, s1, s2, s3, s4, s5, s6, s7, s8, s9⟩
              go_simp
              with_reducible rfl
             rotate_left
             ·simp only [aP, i64_w, i32_w]
              rfl
             refine take_ (i := 5) (N := some 133) (v := ?_) (a' := ?_) (bA 27 63) rfl rfl (take_ofW HT_.out HW_.out (by kernel_rfl)) (fun _ _ _ h => h) (Or.inl ⟨by rfl, ?_⟩) hHeld ?_ ?_
             rotate_left
             ·rintro w' ⟨s0, s1, s2, s3, s4, s5, s6, s7, s8, s9⟩
              go_simp
              with_reducible rfl
             rotate_left
             ·simp only [aP, i64_w, i32_w]
              rfl
             refine oZ 6 (some 134) (bA 27 127) HT_.out (fun K hK => ?_); refine gZ Tryz.func26 #[.agg #[.int .i64 t426, .slice Ao80 t427.length co80], .agg #[.int .i64 a0_0, .slice A0_1 l0_1.length c0_1]] ?_
             with_reducible refine (impl_sameBits.calls kj47 t426 _ _ t427 a0_0 _ _ l0_1 true _ ?side1 ?side2 ?side3 ?side4 A58.out).mono ?_
             (case side1 => exact Cz ((Kd.R_reads' HO429.out).2.2))
             (case side2 => exact (Kd.R_reads' HO429.out).2.1)
             (case side3 => exact Cz (Kd.C_below HR0_1.out HB.out))
             (case side4 => exact HC0_1.out)
             rintro e w84 ⟨rfl, hb⟩; refine ⟨_, rfl, ?_⟩; have n0_ := Rb HO_3 hb; have n1_ := Rb HO_6 hb; have n2_ := Rb HO429 hb; have n3_ := Rb HO433 hb; have n4_ := Kb BK0 hb; have n5_ := Kb BK435 hb; have n6_ := Bc HB hb; clear HO_3 HO_6 HO429 HO433 BK0 BK435 HB; revert n0_ n1_ n2_ n3_ n4_ n5_ n6_; intro HO_3 HO_6 HO429 HO433 BK0 BK435 HB
             (try clear hb)
             (try clear hb2)
             (try clear hk)
             (try clear hi)
             refine hK.out _ _ ⟨cz BK435 0, cz BK435 1, cz BK435 2, cz BK435 3, cz BK435 4, cz BK0 0, cz BK0 1, cz BK0 2, cz BK0 3, cz BK0 4⟩ (fun hHeld => ?_); clear hK K; refine norm_ (a' := ?_) ?_ ?_; rotate_left; show Act.put _ (some 134) _ = _; simp only [aP, i64_w, i32_w]; rfl; refine pZ 7 (some 135) (bA 27 255) HT_.out ?_; refine pZ 8 (some 136) (bA 27 511) HT_.out ?_; refine pZ 9 (some 137) (bA 27 1023) HT_.out ?_; refine pZ 11 (some 139) (bA 27 3071) HT_.out ?_; refine pZ 12 (some 140) (bA 27 7167) HT_.out ?_; refine pZ 13 (some 141) (bA 27 15359) HT_.out ?_; refine take_ (i := 10) (N := some 138) (v := ?_) (a' := ?_) (bA 27 16383) rfl rfl (take_ofW HT_.out HW_.out (by kernel_rfl)) (fun _ _ _ h => h) (Or.inl ⟨by rfl, ?_⟩) hHeld ?_ ?_
             rotate_left
             ·rintro w' ⟨s0, s1, s2, s3, s4, s5, s6, s7, s8, s9⟩
              go_simp
              with_reducible rfl
             rotate_left
             ·simp only [aP, i64_w, i32_w]
              rfl
             refine take_ (i := 14) (N := some 142) (v := ?_) (a' := ?_) (bA 27 32767) rfl rfl (take_ofW HT_.out HW_.out (by kernel_rfl)) (fun _ _ _ h => h) (Or.inl ⟨by rfl, ?_⟩) hHeld ?_ ?_
             rotate_left
             ·rintro w' ⟨s0, s1, s2, s3, s4, s5, s6, s7, s8, s9⟩
              go_simp
              with_reducible rfl
             rotate_left
             ·simp only [aP, i64_w, i32_w]
              rfl
             refine oZ 15 (some 143) (bA 27 65535) HT_.out (fun K hK => ?_); refine gZ Tryz.func26 #[.agg #[.int .i64 t430, .slice Ao81 t431.length co81], .agg #[.int .i64 a0_2, .slice A0_3 l0_3.length c0_3]] ?_
             with_reducible refine (impl_sameBits.calls kj47 t430 _ _ t431 a0_2 _ _ l0_3 true _ ?side1 ?side2 ?side3 ?side4 A60.out).mono ?_
             (case side1 => exact Cz ((Kd.R_reads' HO433.out).2.2))
             (case side2 => exact (Kd.R_reads' HO433.out).2.1)
             (case side3 => exact Cz (Kd.C_below HR0_3.out HB.out))
             (case side4 => exact HC0_3.out)
             rintro e w85 ⟨rfl, hb⟩; refine ⟨_, rfl, ?_⟩; have n0_ := Rb HO_3 hb; have n1_ := Rb HO_6 hb; have n2_ := Rb HO429 hb; have n3_ := Rb HO433 hb; have n4_ := Kb BK0 hb; have n5_ := Kb BK435 hb; have n6_ := Bc HB hb; clear HO_3 HO_6 HO429 HO433 BK0 BK435 HB; revert n0_ n1_ n2_ n3_ n4_ n5_ n6_; intro HO_3 HO_6 HO429 HO433 BK0 BK435 HB
             (try clear hb)
             (try clear hb2)
             (try clear hk)
             (try clear hi)
             refine hK.out _ _ ⟨cz BK435 0, cz BK435 1, cz BK435 2, cz BK435 3, cz BK435 4, cz BK0 0, cz BK0 1, cz BK0 2, cz BK0 3, cz BK0 4⟩ (fun hHeld => ?_); clear hK K; refine norm_ (a' := ?_) ?_ ?_; rotate_left; show Act.put _ (some 143) _ = _; simp only [aP, i64_w, i32_w]; rfl; refine pZ 16 (some 144) (bA 27 131071) HT_.out ?_; refine pZ 17 (some 145) (bA 27 262143) HT_.out ?_; refine pZ 18 (some 146) (bA 27 524287) HT_.out ?_; refine pZ 19 (some 147) (bA 27 1048575) HT_.out ?_; refine pZ 21 (some 149) (bA 27 3145727) HT_.out ?_; refine pZ 22 (some 150) (bA 27 7340031) HT_.out ?_; refine pZ 23 (some 151) (bA 27 15728639) HT_.out ?_; refine take_ (i := 20) (N := some 148) (v := ?_) (a' := ?_) (bA 27 16777215) rfl rfl (take_ofW HT_.out HW_.out (by kernel_rfl)) (fun _ _ _ h => h) (Or.inl ⟨by rfl, ?_⟩) hHeld ?_ ?_
             rotate_left
             ·rintro w' ⟨s0, s1, s2, s3, s4, s5, s6, s7, s8, s9⟩
              go_simp
              with_reducible rfl
             rotate_left
             ·simp only [aP, i64_w, i32_w]
              rfl
             refine take_ (i := 24) (N := some 152) (v := ?_) (a' := ?_) (bA 27 33554431) rfl rfl (take_ofW HT_.out HW_.out (by kernel_rfl)) (fun _ _ _ h => h) (Or.inl ⟨by rfl, ?_⟩) hHeld ?_ ?_
             rotate_left
             ·rintro w' ⟨s0, s1, s2, s3, s4, s5, s6, s7, s8, s9⟩
              go_simp
              with_reducible rfl
             rotate_left
             ·simp only [aP, i64_w, i32_w]
              rfl
             refine pZ 25 (some 153) (bA 27 67108863) HT_.out ?_; refine pZ 26 (some 154) (bA 27 134217727) HT_.out ?_; refine done_ (done_of HT_.out (by kernel_rfl)) ?_
             try go_wp2
             go_ret
             exact ⟨⟨_, eZ, nZ, Bq⟩, by first | exact rfl | exact fun _ => rfl | exact nzE (dT)⟩
           ·replace c61 := Bool.eq_false_iff.mpr c61
            subst c61
            rw [if_neg (show ¬ (false = true) by decide)] at H; obtain rfl := Option.some.inj H; obtain ⟨Ao86, co86, eo86⟩ := Kd.R_slice HO_6.out; subst eo86
            try go_wp2_with (first | ((with_reducible refine gate_callee (f := 25) rfl ?_); refine gL (some 127) Tryz.func25 #[.slice Ao86 t422.length co86] ?_; (with_reducible refine (impl_trie.calls kj47 _ _ t422 t426 t427 t430 t431 t434 _ ?side1 ?side2 A57.out).mono ?_); (case side1 => exact Cz ((Kd.R_reads' HO_6.out).2.2)); (case side2 => exact (Kd.R_reads' HO_6.out).2.1); rintro e w87 ⟨v428, v432, rfl, ho0, ho1, hb⟩; refine ⟨_, rfl, ?_⟩; have n0_ := Rb HO_3 hb; have n1_ := Rb HO_6 hb; have n2_ := Rm ho0 HB; have n3_ := Rm ho1 HB; have n4_ := Kb BK0 hb; have n5_ := Bc HB hb; clear HO_3 HO_6 BK0 HB; revert n0_ n1_ n2_ n3_ n4_ n5_; intro HO_3 HO_6 HO429 HO433 BK0 HB; (try clear hb); (try clear hb2); (try clear hk); (try clear hi); (try clear ho0); (try clear ho1)) | ((with_reducible refine gate_dst (N := 7) rfl ?_); (try (refine gate_guard (by rfl) ?_; dsimp only)); refine bE 7 #[.int .i64 0, .slice none 0 0, .int .i64 0, .slice none 0 0, .string (⟨#[]⟩ : ByteArray)] 32 ?_; intro gb435 hg w88 hbox hb; have n0_ := Rb HO_3 hb; have n1_ := Rb HO_6 hb; have n2_ := Rb HO429 hb; have n3_ := Rb HO433 hb; have n4_ := Kb BK0 hb; have n5_ := Bc HB hb; have n6_ := am (hbox); have n7_ := Gm HB hg; have n8_ := Gm HB hg; have n9_ := Nl BK0 hg; have n10_ := Ng BK0 hg; clear HO_3 HO_6 HO429 HO433 BK0 HB; revert n0_ n1_ n2_ n3_ n4_ n5_ n6_ n7_ n8_ n9_ n10_; intro HO_3 HO_6 HO429 HO433 BK0 HB BK435 GW435 GE435 NB0_435 NB435_0; clear hb hbox hg; have hnb89 := NB435_0.out; have hnc89 := NB0_435.out; obtain ⟨hcz90_0, hcz90_1, hcz90_2, hcz90_3, hcz90_4, hfz90_0, hfz90_1, hfz90_2, hfz90_3, hfz90_4⟩ := cf5 (w := w88) BK435; obtain ⟨Ao91, co91, eo91⟩ := Kd.R_slice HO429.out; subst eo91; obtain ⟨Ao92, co92, eo92⟩ := Kd.R_slice HO433.out; subst eo92))
            have n0_ : Aside0 (Kd.R Kd.string 9 (((((w88.setCell ⟨gb435, 0, none⟩ (.int .i64 t426)).setCell ⟨gb435, 1, none⟩ (.slice Ao91 t427.length co91)).setCell ⟨gb435, 2, none⟩ (.int .i64 t430)).setCell ⟨gb435, 3, none⟩ (.slice Ao92 t431.length co92)).setCell ⟨gb435, 4, none⟩ (.string t434)) w.heap.size (fun k_ => some k_ ≠ (.slice Ao86 t422.length co86 : Value).ownBlock) (.slice Ao49 x3_2.length co49) x3_2) := ⟨Rz (Kd.R_mono (Kd.R_far (p := ⟨gb435, 4, none⟩) (Kd.R_far (p := ⟨gb435, 3, none⟩) (Kd.R_far (p := ⟨gb435, 2, none⟩) (Kd.R_far (p := ⟨gb435, 1, none⟩) (Kd.R_far (p := ⟨gb435, 0, none⟩) (Kd.R_types HO_3.out BK435.out (by decide)) (fun _ hk => hk.2) (.int .i64 t426)) (fun _ hk => hk.2) (.slice Ao91 t427.length co91)) (fun _ hk => hk.2) (.int .i64 t430)) (fun _ hk => hk.2) (.slice Ao92 t431.length co92)) (fun _ hk => hk.2) (.string t434)) (fun _ hk => hk.1))⟩; have n1_ : Aside0 (Kd.R Kd.string 9 (((((w88.setCell ⟨gb435, 0, none⟩ (.int .i64 t426)).setCell ⟨gb435, 1, none⟩ (.slice Ao91 t427.length co91)).setCell ⟨gb435, 2, none⟩ (.int .i64 t430)).setCell ⟨gb435, 3, none⟩ (.slice Ao92 t431.length co92)).setCell ⟨gb435, 4, none⟩ (.string t434)) w.heap.size (fun k_ => some k_ ≠ (.slice Ao49 x3_2.length co49 : Value).ownBlock) (.slice Ao86 t422.length co86) t422) := ⟨Rz (Kd.R_mono (Kd.R_far (p := ⟨gb435, 4, none⟩) (Kd.R_far (p := ⟨gb435, 3, none⟩) (Kd.R_far (p := ⟨gb435, 2, none⟩) (Kd.R_far (p := ⟨gb435, 1, none⟩) (Kd.R_far (p := ⟨gb435, 0, none⟩) (Kd.R_types HO_6.out BK435.out (by decide)) (fun _ hk => hk.2) (.int .i64 t426)) (fun _ hk => hk.2) (.slice Ao91 t427.length co91)) (fun _ hk => hk.2) (.int .i64 t430)) (fun _ hk => hk.2) (.slice Ao92 t431.length co92)) (fun _ hk => hk.2) (.string t434)) (fun _ hk => hk.1))⟩; have n2_ : Aside0 (Kd.R (Kd.int .i64) 3 (((((w88.setCell ⟨gb435, 0, none⟩ (.int .i64 t426)).setCell ⟨gb435, 1, none⟩ (.slice Ao91 t427.length co91)).setCell ⟨gb435, 2, none⟩ (.int .i64 t430)).setCell ⟨gb435, 3, none⟩ (.slice Ao92 t431.length co92)).setCell ⟨gb435, 4, none⟩ (.string t434)) w.heap.size (fun k_ => some k_ ≠ (.slice Ao92 t431.length co92 : Value).ownBlock) (.slice Ao91 t427.length co91) t427) := ⟨Rz (Kd.R_mono (Kd.R_far (p := ⟨gb435, 4, none⟩) (Kd.R_far (p := ⟨gb435, 3, none⟩) (Kd.R_far (p := ⟨gb435, 2, none⟩) (Kd.R_far (p := ⟨gb435, 1, none⟩) (Kd.R_far (p := ⟨gb435, 0, none⟩) (Kd.R_types HO429.out BK435.out (by decide)) (fun _ hk => hk.2) (.int .i64 t426)) (fun _ hk => hk.2) (.slice Ao91 t427.length co91)) (fun _ hk => hk.2) (.int .i64 t430)) (fun _ hk => hk.2) (.slice Ao92 t431.length co92)) (fun _ hk => hk.2) (.string t434)) (fun _ hk => hk.1))⟩; have n3_ : Aside0 (Kd.R (Kd.int .i64) 3 (((((w88.setCell ⟨gb435, 0, none⟩ (.int .i64 t426)).setCell ⟨gb435, 1, none⟩ (.slice Ao91 t427.length co91)).setCell ⟨gb435, 2, none⟩ (.int .i64 t430)).setCell ⟨gb435, 3, none⟩ (.slice Ao92 t431.length co92)).setCell ⟨gb435, 4, none⟩ (.string t434)) w.heap.size (fun k_ => some k_ ≠ (.slice Ao91 t427.length co91 : Value).ownBlock) (.slice Ao92 t431.length co92) t431) := ⟨Rz (Kd.R_mono (Kd.R_far (p := ⟨gb435, 4, none⟩) (Kd.R_far (p := ⟨gb435, 3, none⟩) (Kd.R_far (p := ⟨gb435, 2, none⟩) (Kd.R_far (p := ⟨gb435, 1, none⟩) (Kd.R_far (p := ⟨gb435, 0, none⟩) (Kd.R_types HO433.out BK435.out (by decide)) (fun _ hk => hk.2) (.int .i64 t426)) (fun _ hk => hk.2) (.slice Ao91 t427.length co91)) (fun _ hk => hk.2) (.int .i64 t430)) (fun _ hk => hk.2) (.slice Ao92 t431.length co92)) (fun _ hk => hk.2) (.string t434)) (fun _ hk => hk.1))⟩
            have n4_ : Aside0 ((((((w88.setCell ⟨gb435, 0, none⟩ (.int .i64 t426)).setCell ⟨gb435, 1, none⟩ (.slice Ao91 t427.length co91)).setCell ⟨gb435, 2, none⟩ (.int .i64 t430)).setCell ⟨gb435, 3, none⟩ (.slice Ao92 t431.length co92)).setCell ⟨gb435, 4, none⟩ (.string t434)).heap[g0]? = some (.cells #[.int .i64 a0_0, .slice A0_1 l0_1.length c0_1, .int .i64 a0_2, .slice A0_3 l0_3.length c0_3, .string a0_4] 32 (0, 0))) := ⟨by (with_reducible repeat (first | refine blk_drewN ?_ _ | refine blk_drew ?_ | refine blk_alloc ?_ _)); refine blk_far ?_ NB0_435.out _; (with_reducible repeat (first | refine blk_drewN ?_ _ | refine blk_drew ?_ | refine blk_alloc ?_ _)); refine blk_far ?_ NB0_435.out _; (with_reducible repeat (first | refine blk_drewN ?_ _ | refine blk_drew ?_ | refine blk_alloc ?_ _)); refine blk_far ?_ NB0_435.out _; (with_reducible repeat (first | refine blk_drewN ?_ _ | refine blk_drew ?_ | refine blk_alloc ?_ _)); refine blk_far ?_ NB0_435.out _; (with_reducible repeat (first | refine blk_drewN ?_ _ | refine blk_drew ?_ | refine blk_alloc ?_ _)); refine blk_far ?_ NB0_435.out _; (with_reducible repeat (first | refine blk_drewN ?_ _ | refine blk_drew ?_ | refine blk_alloc ?_ _)); exact BK0.out⟩; have n5_ : Aside0 ((((((w88.setCell ⟨gb435, 0, none⟩ (.int .i64 t426)).setCell ⟨gb435, 1, none⟩ (.slice Ao91 t427.length co91)).setCell ⟨gb435, 2, none⟩ (.int .i64 t430)).setCell ⟨gb435, 3, none⟩ (.slice Ao92 t431.length co92)).setCell ⟨gb435, 4, none⟩ (.string t434)).heap[gb435]? = some (.cells #[.int .i64 t426, .slice Ao91 t427.length co91, .int .i64 t430, .slice Ao92 t431.length co92, .string t434] 32 (0, 0))) := ⟨by (with_reducible repeat (first | refine blk_drewN ?_ _ | refine blk_drew ?_ | refine blk_alloc ?_ _)); refine blk_put (cs := #[.int .i64 t426, .slice Ao91 t427.length co91, .int .i64 t430, .slice Ao92 t431.length co92, .string (⟨#[]⟩ : ByteArray)]) ?_ 4 _ rfl; (with_reducible repeat (first | refine blk_drewN ?_ _ | refine blk_drew ?_ | refine blk_alloc ?_ _)); refine blk_put (cs := #[.int .i64 t426, .slice Ao91 t427.length co91, .int .i64 t430, .slice none 0 0, .string (⟨#[]⟩ : ByteArray)]) ?_ 3 _ rfl; (with_reducible repeat (first | refine blk_drewN ?_ _ | refine blk_drew ?_ | refine blk_alloc ?_ _)); refine blk_put (cs := #[.int .i64 t426, .slice Ao91 t427.length co91, .int .i64 0, .slice none 0 0, .string (⟨#[]⟩ : ByteArray)]) ?_ 2 _ rfl; (with_reducible repeat (first | refine blk_drewN ?_ _ | refine blk_drew ?_ | refine blk_alloc ?_ _)); refine blk_put (cs := #[.int .i64 t426, .slice none 0 0, .int .i64 0, .slice none 0 0, .string (⟨#[]⟩ : ByteArray)]) ?_ 1 _ rfl; (with_reducible repeat (first | refine blk_drewN ?_ _ | refine blk_drew ?_ | refine blk_alloc ?_ _)); refine blk_put (cs := #[.int .i64 0, .slice none 0 0, .int .i64 0, .slice none 0 0, .string (⟨#[]⟩ : ByteArray)]) ?_ 0 _ rfl; (with_reducible repeat (first | refine blk_drewN ?_ _ | refine blk_drew ?_ | refine blk_alloc ?_ _)); exact BK435.out⟩; have n6_ : Aside0 (Below w.heap.size w (((((w88.setCell ⟨gb435, 0, none⟩ (.int .i64 t426)).setCell ⟨gb435, 1, none⟩ (.slice Ao91 t427.length co91)).setCell ⟨gb435, 2, none⟩ (.int .i64 t430)).setCell ⟨gb435, 3, none⟩ (.slice Ao92 t431.length co92)).setCell ⟨gb435, 4, none⟩ (.string t434))) := ⟨Bq⟩
            (try clear HO_3)
            (try clear HO_6)
            (try clear HO429)
            (try clear HO433)
            (try clear BK0)
            (try clear BK435)
            (try clear HB)
            generalize (((((w88.setCell ⟨gb435, 0, none⟩ (.int .i64 t426)).setCell ⟨gb435, 1, none⟩ (.slice Ao91 t427.length co91)).setCell ⟨gb435, 2, none⟩ (.int .i64 t430)).setCell ⟨gb435, 3, none⟩ (.slice Ao92 t431.length co92)).setCell ⟨gb435, 4, none⟩ (.string t434)) = w93 at n0_ n1_ n2_ n3_ n4_ n5_ n6_ ⊢; revert n0_ n1_ n2_ n3_ n4_ n5_ n6_; intro HO_3 HO_6 HO429 HO433 BK0 BK435 HB; have n0_ := am (Kd.R_drew HO_3.out); have n1_ := am (Kd.R_drew HO_6.out); have n2_ := am (Kd.R_drew HO429.out); have n3_ := am (Kd.R_drew HO433.out); have n4_ := am (blk_drew BK0.out); have n5_ := am (blk_drew BK435.out); have n6_ := am (below_drew1 HB.out); clear HO_3 HO_6 HO429 HO433 BK0 BK435 HB; revert n0_ n1_ n2_ n3_ n4_ n5_ n6_; intro HO_3 HO_6 HO429 HO433 BK0 BK435 HB; refine start_ (n := 27) (S := fun w' => w'.cell? ⟨gb435, 0, none⟩ = some (.int .i64 t426) ∧ w'.cell? ⟨gb435, 1, none⟩ = some (.slice Ao91 t427.length co91) ∧ w'.cell? ⟨gb435, 2, none⟩ = some (.int .i64 t430) ∧ w'.cell? ⟨gb435, 3, none⟩ = some (.slice Ao92 t431.length co92) ∧ w'.cell? ⟨gb435, 4, none⟩ = some (.string t434) ∧ w'.cell? ⟨g0, 0, none⟩ = some (.int .i64 a0_0) ∧ w'.cell? ⟨g0, 1, none⟩ = some (.slice A0_1 l0_1.length c0_1) ∧ w'.cell? ⟨g0, 2, none⟩ = some (.int .i64 a0_2) ∧ w'.cell? ⟨g0, 3, none⟩ = some (.slice A0_3 l0_3.length c0_3) ∧ w'.cell? ⟨g0, 4, none⟩ = some (.string a0_4)) (ds := []) (bA 27 0) (by kernel_rfl) rfl rfl ⟨cz BK435 0, cz BK435 1, cz BK435 2, cz BK435 3, cz BK435 4, cz BK0 0, cz BK0 1, cz BK0 2, cz BK0 3, cz BK0 4⟩ (fun hHeld => ?_); refine with_tabW impl_Trie_nodes.tab19 impl_Trie_nodes.bits19 (fun HT_ HW_ => ?_); generalize w93.drew = w94 at HO_3 HO_6 HO429 HO433 BK0 BK435 HB hHeld ⊢; refine pZ 0 (some 128) (bA 27 1) HT_.out ?_; refine pZ 2 (some 130) (bA 27 5) HT_.out ?_; refine pZ 3 (some 131) (bA 27 13) HT_.out ?_; refine pZ 4 (some 132) (bA 27 29) HT_.out ?_; refine take_ (i := 1) (N := some 129) (v := ?_) (a' := ?_) (bA 27 31) rfl rfl (take_ofW HT_.out HW_.out (by kernel_rfl)) (fun _ _ _ h => h) (Or.inl ⟨by rfl, ?_⟩) hHeld ?_ ?_
            rotate_left
            ·rintro w' ⟨s0, s1, s2, s3, s4, s5, s6, s7, s8, s9⟩
             go_simp
             with_reducible rfl
            rotate_left
            ·simp only [aP, i64_w, i32_w]
             rfl
            refine take_ (i := 5) (N := some 133) (v := ?_) (a' := ?_) (bA 27 63) rfl rfl (take_ofW HT_.out HW_.out (by kernel_rfl)) (fun _ _ _ h => h) (Or.inl ⟨by rfl, ?_⟩) hHeld ?_ ?_
            rotate_left
            ·rintro w' ⟨s0, s1, s2, s3, s4, s5, s6, s7, s8, s9⟩
             go_simp
             with_reducible rfl
            rotate_left
            ·simp only [aP, i64_w, i32_w]
             rfl
            refine oZ 6 (some 134) (bA 27 127) HT_.out (fun K hK => ?_); refine gZ Tryz.func26 #[.agg #[.int .i64 t426, .slice Ao91 t427.length co91], .agg #[.int .i64 a0_0, .slice A0_1 l0_1.length c0_1]] ?_
            with_reducible refine (impl_sameBits.calls kj47 t426 _ _ t427 a0_0 _ _ l0_1 true _ ?side1 ?side2 ?side3 ?side4 A58.out).mono ?_
            (case side1 => exact Cz ((Kd.R_reads' HO429.out).2.2))
            (case side2 => exact (Kd.R_reads' HO429.out).2.1)
            (case side3 => exact Cz (Kd.C_below HR0_1.out HB.out))
            (case side4 => exact HC0_1.out)
            rintro e w95 ⟨rfl, hb⟩; refine ⟨_, rfl, ?_⟩; have n0_ := Rb HO_3 hb; have n1_ := Rb HO_6 hb; have n2_ := Rb HO429 hb; have n3_ := Rb HO433 hb; have n4_ := Kb BK0 hb; have n5_ := Kb BK435 hb; have n6_ := Bc HB hb; clear HO_3 HO_6 HO429 HO433 BK0 BK435 HB; revert n0_ n1_ n2_ n3_ n4_ n5_ n6_; intro HO_3 HO_6 HO429 HO433 BK0 BK435 HB
            (try clear hb)
            (try clear hb2)
            (try clear hk)
            (try clear hi)
            refine hK.out _ _ ⟨cz BK435 0, cz BK435 1, cz BK435 2, cz BK435 3, cz BK435 4, cz BK0 0, cz BK0 1, cz BK0 2, cz BK0 3, cz BK0 4⟩ (fun hHeld => ?_); clear hK K; refine norm_ (a' := ?_) ?_ ?_; rotate_left; show Act.put _ (some 134) _ = _; simp only [aP, i64_w, i32_w]; rfl; refine pZ 7 (some 135) (bA 27 255) HT_.out ?_; refine pZ 8 (some 136) (bA 27 511) HT_.out ?_; refine pZ 9 (some 137) (bA 27 1023) HT_.out ?_; refine pZ 11 (some 139) (bA 27 3071) HT_.out ?_; refine pZ 12 (some 140) (bA 27 7167) HT_.out ?_; refine pZ 13 (some 141) (bA 27 15359) HT_.out ?_; refine take_ (i := 10) (N := some 138) (v := ?_) (a' := ?_) (bA 27 16383) rfl rfl (take_ofW HT_.out HW_.out (by kernel_rfl)) (fun _ _ _ h => h) (Or.inl ⟨by rfl, ?_⟩) hHeld ?_ ?_
            rotate_left
            ·rintro w' ⟨s0, s1, s2, s3, s4, s5, s6, s7, s8, s9⟩
             go_simp
             with_reducible rfl
            rotate_left
            ·simp only [aP, i64_w, i32_w]
             rfl
            refine take_ (i := 14) (N := some 142) (v := ?_) (a' := ?_) (bA 27 32767) rfl rfl (take_ofW HT_.out HW_.out (by kernel_rfl)) (fun _ _ _ h => h) (Or.inl ⟨by rfl, ?_⟩) hHeld ?_ ?_
            rotate_left
            ·rintro w' ⟨s0, s1, s2, s3, s4, s5, s6, s7, s8, s9⟩
             go_simp
             with_reducible rfl
            rotate_left
            ·simp only [aP, i64_w, i32_w]
             rfl
            refine oZ 15 (some 143) (bA 27 65535) HT_.out (fun K hK => ?_); refine gZ Tryz.func26 #[.agg #[.int .i64 t430, .slice Ao92 t431.length co92], .agg #[.int .i64 a0_2, .slice A0_3 l0_3.length c0_3]] ?_
            with_reducible refine (impl_sameBits.calls kj47 t430 _ _ t431 a0_2 _ _ l0_3 false _ ?side1 ?side2 ?side3 ?side4 A60.out).mono ?_
            (case side1 => exact Cz ((Kd.R_reads' HO433.out).2.2))
            (case side2 => exact (Kd.R_reads' HO433.out).2.1)
            (case side3 => exact Cz (Kd.C_below HR0_3.out HB.out))
            (case side4 => exact HC0_3.out)
            rintro e w96 ⟨rfl, hb⟩; refine ⟨_, rfl, ?_⟩; have n0_ := Rb HO_3 hb; have n1_ := Rb HO_6 hb; have n2_ := Rb HO429 hb; have n3_ := Rb HO433 hb; have n4_ := Kb BK0 hb; have n5_ := Kb BK435 hb; have n6_ := Bc HB hb; clear HO_3 HO_6 HO429 HO433 BK0 BK435 HB; revert n0_ n1_ n2_ n3_ n4_ n5_ n6_; intro HO_3 HO_6 HO429 HO433 BK0 BK435 HB
            (try clear hb)
            (try clear hb2)
            (try clear hk)
            (try clear hi)
            refine hK.out _ _ ⟨cz BK435 0, cz BK435 1, cz BK435 2, cz BK435 3, cz BK435 4, cz BK0 0, cz BK0 1, cz BK0 2, cz BK0 3, cz BK0 4⟩ (fun hHeld => ?_); clear hK K; refine norm_ (a' := ?_) ?_ ?_; rotate_left; show Act.put _ (some 143) _ = _; simp only [aP, i64_w, i32_w]; rfl; refine pZ 16 (some 144) (bA 27 131071) HT_.out ?_; refine pZ 17 (some 145) (bA 27 262143) HT_.out ?_; refine pZ 18 (some 146) (bA 27 524287) HT_.out ?_; refine sZ 19 (some 147) (bA 27 1048575) HT_.out ?_; refine sZ 20 (some 148) (bA 27 2097151) HT_.out ?_; refine sZ 21 (some 149) (bA 27 4194303) HT_.out ?_; refine sZ 22 (some 150) (bA 27 8388607) HT_.out ?_; refine sZ 23 (some 151) (bA 27 16777215) HT_.out ?_; refine sZ 24 (some 152) (bA 27 33554431) HT_.out ?_; refine sZ 25 (some 153) (bA 27 67108863) HT_.out ?_; refine pZ 26 (some 154) (bA 27 134217727) HT_.out ?_; refine done_ (done_of HT_.out (by kernel_rfl)) ?_
            try go_wp2
            go_ret
            exact ⟨⟨_, eZ, nZ, Bq⟩, by first | exact rfl | exact fun _ => rfl | exact nzE (dT)⟩
          ·replace c59 := Bool.eq_false_iff.mpr c59
           subst c59
           rw [if_neg (show ¬ (false = true) by decide)] at H; obtain rfl := Option.some.inj H; obtain ⟨Ao97, co97, eo97⟩ := Kd.R_slice HO_6.out; subst eo97
           try go_wp2_with (first | ((with_reducible refine gate_callee (f := 25) rfl ?_); refine gL (some 127) Tryz.func25 #[.slice Ao97 t422.length co97] ?_; (with_reducible refine (impl_trie.calls kj47 _ _ t422 t426 t427 t430 t431 t434 _ ?side1 ?side2 A57.out).mono ?_); (case side1 => exact Cz ((Kd.R_reads' HO_6.out).2.2)); (case side2 => exact (Kd.R_reads' HO_6.out).2.1); rintro e w98 ⟨v428, v432, rfl, ho0, ho1, hb⟩; refine ⟨_, rfl, ?_⟩; have n0_ := Rb HO_3 hb; have n1_ := Rb HO_6 hb; have n2_ := Rm ho0 HB; have n3_ := Rm ho1 HB; have n4_ := Kb BK0 hb; have n5_ := Bc HB hb; clear HO_3 HO_6 BK0 HB; revert n0_ n1_ n2_ n3_ n4_ n5_; intro HO_3 HO_6 HO429 HO433 BK0 HB; (try clear hb); (try clear hb2); (try clear hk); (try clear hi); (try clear ho0); (try clear ho1)) | ((with_reducible refine gate_dst (N := 7) rfl ?_); (try (refine gate_guard (by rfl) ?_; dsimp only)); refine bE 7 #[.int .i64 0, .slice none 0 0, .int .i64 0, .slice none 0 0, .string (⟨#[]⟩ : ByteArray)] 32 ?_; intro gb435 hg w99 hbox hb; have n0_ := Rb HO_3 hb; have n1_ := Rb HO_6 hb; have n2_ := Rb HO429 hb; have n3_ := Rb HO433 hb; have n4_ := Kb BK0 hb; have n5_ := Bc HB hb; have n6_ := am (hbox); have n7_ := Gm HB hg; have n8_ := Gm HB hg; have n9_ := Nl BK0 hg; have n10_ := Ng BK0 hg; clear HO_3 HO_6 HO429 HO433 BK0 HB; revert n0_ n1_ n2_ n3_ n4_ n5_ n6_ n7_ n8_ n9_ n10_; intro HO_3 HO_6 HO429 HO433 BK0 HB BK435 GW435 GE435 NB0_435 NB435_0; clear hb hbox hg; have hnb100 := NB435_0.out; have hnc100 := NB0_435.out; obtain ⟨hcz101_0, hcz101_1, hcz101_2, hcz101_3, hcz101_4, hfz101_0, hfz101_1, hfz101_2, hfz101_3, hfz101_4⟩ := cf5 (w := w99) BK435; obtain ⟨Ao102, co102, eo102⟩ := Kd.R_slice HO429.out; subst eo102; obtain ⟨Ao103, co103, eo103⟩ := Kd.R_slice HO433.out; subst eo103))
           have n0_ : Aside0 (Kd.R Kd.string 9 (((((w99.setCell ⟨gb435, 0, none⟩ (.int .i64 t426)).setCell ⟨gb435, 1, none⟩ (.slice Ao102 t427.length co102)).setCell ⟨gb435, 2, none⟩ (.int .i64 t430)).setCell ⟨gb435, 3, none⟩ (.slice Ao103 t431.length co103)).setCell ⟨gb435, 4, none⟩ (.string t434)) w.heap.size (fun k_ => some k_ ≠ (.slice Ao97 t422.length co97 : Value).ownBlock) (.slice Ao49 x3_2.length co49) x3_2) := ⟨Rz (Kd.R_mono (Kd.R_far (p := ⟨gb435, 4, none⟩) (Kd.R_far (p := ⟨gb435, 3, none⟩) (Kd.R_far (p := ⟨gb435, 2, none⟩) (Kd.R_far (p := ⟨gb435, 1, none⟩) (Kd.R_far (p := ⟨gb435, 0, none⟩) (Kd.R_types HO_3.out BK435.out (by decide)) (fun _ hk => hk.2) (.int .i64 t426)) (fun _ hk => hk.2) (.slice Ao102 t427.length co102)) (fun _ hk => hk.2) (.int .i64 t430)) (fun _ hk => hk.2) (.slice Ao103 t431.length co103)) (fun _ hk => hk.2) (.string t434)) (fun _ hk => hk.1))⟩; have n1_ : Aside0 (Kd.R Kd.string 9 (((((w99.setCell ⟨gb435, 0, none⟩ (.int .i64 t426)).setCell ⟨gb435, 1, none⟩ (.slice Ao102 t427.length co102)).setCell ⟨gb435, 2, none⟩ (.int .i64 t430)).setCell ⟨gb435, 3, none⟩ (.slice Ao103 t431.length co103)).setCell ⟨gb435, 4, none⟩ (.string t434)) w.heap.size (fun k_ => some k_ ≠ (.slice Ao49 x3_2.length co49 : Value).ownBlock) (.slice Ao97 t422.length co97) t422) := ⟨Rz (Kd.R_mono (Kd.R_far (p := ⟨gb435, 4, none⟩) (Kd.R_far (p := ⟨gb435, 3, none⟩) (Kd.R_far (p := ⟨gb435, 2, none⟩) (Kd.R_far (p := ⟨gb435, 1, none⟩) (Kd.R_far (p := ⟨gb435, 0, none⟩) (Kd.R_types HO_6.out BK435.out (by decide)) (fun _ hk => hk.2) (.int .i64 t426)) (fun _ hk => hk.2) (.slice Ao102 t427.length co102)) (fun _ hk => hk.2) (.int .i64 t430)) (fun _ hk => hk.2) (.slice Ao103 t431.length co103)) (fun _ hk => hk.2) (.string t434)) (fun _ hk => hk.1))⟩; have n2_ : Aside0 (Kd.R (Kd.int .i64) 3 (((((w99.setCell ⟨gb435, 0, none⟩ (.int .i64 t426)).setCell ⟨gb435, 1, none⟩ (.slice Ao102 t427.length co102)).setCell ⟨gb435, 2, none⟩ (.int .i64 t430)).setCell ⟨gb435, 3, none⟩ (.slice Ao103 t431.length co103)).setCell ⟨gb435, 4, none⟩ (.string t434)) w.heap.size (fun k_ => some k_ ≠ (.slice Ao103 t431.length co103 : Value).ownBlock) (.slice Ao102 t427.length co102) t427) := ⟨Rz (Kd.R_mono (Kd.R_far (p := ⟨gb435, 4, none⟩) (Kd.R_far (p := ⟨gb435, 3, none⟩) (Kd.R_far (p := ⟨gb435, 2, none⟩) (Kd.R_far (p := ⟨gb435, 1, none⟩) (Kd.R_far (p := ⟨gb435, 0, none⟩) (Kd.R_types HO429.out BK435.out (by decide)) (fun _ hk => hk.2) (.int .i64 t426)) (fun _ hk => hk.2) (.slice Ao102 t427.length co102)) (fun _ hk => hk.2) (.int .i64 t430)) (fun _ hk => hk.2) (.slice Ao103 t431.length co103)) (fun _ hk => hk.2) (.string t434)) (fun _ hk => hk.1))⟩; have n3_ : Aside0 (Kd.R (Kd.int .i64) 3 (((((w99.setCell ⟨gb435, 0, none⟩ (.int .i64 t426)).setCell ⟨gb435, 1, none⟩ (.slice Ao102 t427.length co102)).setCell ⟨gb435, 2, none⟩ (.int .i64 t430)).setCell ⟨gb435, 3, none⟩ (.slice Ao103 t431.length co103)).setCell ⟨gb435, 4, none⟩ (.string t434)) w.heap.size (fun k_ => some k_ ≠ (.slice Ao102 t427.length co102 : Value).ownBlock) (.slice Ao103 t431.length co103) t431) := ⟨Rz (Kd.R_mono (Kd.R_far (p := ⟨gb435, 4, none⟩) (Kd.R_far (p := ⟨gb435, 3, none⟩) (Kd.R_far (p := ⟨gb435, 2, none⟩) (Kd.R_far (p := ⟨gb435, 1, none⟩) (Kd.R_far (p := ⟨gb435, 0, none⟩) (Kd.R_types HO433.out BK435.out (by decide)) (fun _ hk => hk.2) (.int .i64 t426)) (fun _ hk => hk.2) (.slice Ao102 t427.length co102)) (fun _ hk => hk.2) (.int .i64 t430)) (fun _ hk => hk.2) (.slice Ao103 t431.length co103)) (fun _ hk => hk.2) (.string t434)) (fun _ hk => hk.1))⟩
           have n4_ : Aside0 ((((((w99.setCell ⟨gb435, 0, none⟩ (.int .i64 t426)).setCell ⟨gb435, 1, none⟩ (.slice Ao102 t427.length co102)).setCell ⟨gb435, 2, none⟩ (.int .i64 t430)).setCell ⟨gb435, 3, none⟩ (.slice Ao103 t431.length co103)).setCell ⟨gb435, 4, none⟩ (.string t434)).heap[g0]? = some (.cells #[.int .i64 a0_0, .slice A0_1 l0_1.length c0_1, .int .i64 a0_2, .slice A0_3 l0_3.length c0_3, .string a0_4] 32 (0, 0))) := ⟨by (with_reducible repeat (first | refine blk_drewN ?_ _ | refine blk_drew ?_ | refine blk_alloc ?_ _)); refine blk_far ?_ NB0_435.out _; (with_reducible repeat (first | refine blk_drewN ?_ _ | refine blk_drew ?_ | refine blk_alloc ?_ _)); refine blk_far ?_ NB0_435.out _; (with_reducible repeat (first | refine blk_drewN ?_ _ | refine blk_drew ?_ | refine blk_alloc ?_ _)); refine blk_far ?_ NB0_435.out _; (with_reducible repeat (first | refine blk_drewN ?_ _ | refine blk_drew ?_ | refine blk_alloc ?_ _)); refine blk_far ?_ NB0_435.out _; (with_reducible repeat (first | refine blk_drewN ?_ _ | refine blk_drew ?_ | refine blk_alloc ?_ _)); refine blk_far ?_ NB0_435.out _; (with_reducible repeat (first | refine blk_drewN ?_ _ | refine blk_drew ?_ | refine blk_alloc ?_ _)); exact BK0.out⟩; have n5_ : Aside0 ((((((w99.setCell ⟨gb435, 0, none⟩ (.int .i64 t426)).setCell ⟨gb435, 1, none⟩ (.slice Ao102 t427.length co102)).setCell ⟨gb435, 2, none⟩ (.int .i64 t430)).setCell ⟨gb435, 3, none⟩ (.slice Ao103 t431.length co103)).setCell ⟨gb435, 4, none⟩ (.string t434)).heap[gb435]? = some (.cells #[.int .i64 t426, .slice Ao102 t427.length co102, .int .i64 t430, .slice Ao103 t431.length co103, .string t434] 32 (0, 0))) := ⟨by (with_reducible repeat (first | refine blk_drewN ?_ _ | refine blk_drew ?_ | refine blk_alloc ?_ _)); refine blk_put (cs := #[.int .i64 t426, .slice Ao102 t427.length co102, .int .i64 t430, .slice Ao103 t431.length co103, .string (⟨#[]⟩ : ByteArray)]) ?_ 4 _ rfl; (with_reducible repeat (first | refine blk_drewN ?_ _ | refine blk_drew ?_ | refine blk_alloc ?_ _)); refine blk_put (cs := #[.int .i64 t426, .slice Ao102 t427.length co102, .int .i64 t430, .slice none 0 0, .string (⟨#[]⟩ : ByteArray)]) ?_ 3 _ rfl; (with_reducible repeat (first | refine blk_drewN ?_ _ | refine blk_drew ?_ | refine blk_alloc ?_ _)); refine blk_put (cs := #[.int .i64 t426, .slice Ao102 t427.length co102, .int .i64 0, .slice none 0 0, .string (⟨#[]⟩ : ByteArray)]) ?_ 2 _ rfl; (with_reducible repeat (first | refine blk_drewN ?_ _ | refine blk_drew ?_ | refine blk_alloc ?_ _)); refine blk_put (cs := #[.int .i64 t426, .slice none 0 0, .int .i64 0, .slice none 0 0, .string (⟨#[]⟩ : ByteArray)]) ?_ 1 _ rfl; (with_reducible repeat (first | refine blk_drewN ?_ _ | refine blk_drew ?_ | refine blk_alloc ?_ _)); refine blk_put (cs := #[.int .i64 0, .slice none 0 0, .int .i64 0, .slice none 0 0, .string (⟨#[]⟩ : ByteArray)]) ?_ 0 _ rfl; (with_reducible repeat (first | refine blk_drewN ?_ _ | refine blk_drew ?_ | refine blk_alloc ?_ _)); exact BK435.out⟩; have n6_ : Aside0 (Below w.heap.size w (((((w99.setCell ⟨gb435, 0, none⟩ (.int .i64 t426)).setCell ⟨gb435, 1, none⟩ (.slice Ao102 t427.length co102)).setCell ⟨gb435, 2, none⟩ (.int .i64 t430)).setCell ⟨gb435, 3, none⟩ (.slice Ao103 t431.length co103)).setCell ⟨gb435, 4, none⟩ (.string t434))) := ⟨Bq⟩
           (try clear HO_3)
           (try clear HO_6)
           (try clear HO429)
           (try clear HO433)
           (try clear BK0)
           (try clear BK435)
           (try clear HB)
           generalize (((((w99.setCell ⟨gb435, 0, none⟩ (.int .i64 t426)).setCell ⟨gb435, 1, none⟩ (.slice Ao102 t427.length co102)).setCell ⟨gb435, 2, none⟩ (.int .i64 t430)).setCell ⟨gb435, 3, none⟩ (.slice Ao103 t431.length co103)).setCell ⟨gb435, 4, none⟩ (.string t434)) = w104 at n0_ n1_ n2_ n3_ n4_ n5_ n6_ ⊢; revert n0_ n1_ n2_ n3_ n4_ n5_ n6_; intro HO_3 HO_6 HO429 HO433 BK0 BK435 HB; have n0_ := am (Kd.R_drew HO_3.out); have n1_ := am (Kd.R_drew HO_6.out); have n2_ := am (Kd.R_drew HO429.out); have n3_ := am (Kd.R_drew HO433.out); have n4_ := am (blk_drew BK0.out); have n5_ := am (blk_drew BK435.out); have n6_ := am (below_drew1 HB.out); clear HO_3 HO_6 HO429 HO433 BK0 BK435 HB; revert n0_ n1_ n2_ n3_ n4_ n5_ n6_; intro HO_3 HO_6 HO429 HO433 BK0 BK435 HB; refine start_ (n := 27) (S := fun w' => w'.cell? ⟨gb435, 0, none⟩ = some (.int .i64 t426) ∧ w'.cell? ⟨gb435, 1, none⟩ = some (.slice Ao102 t427.length co102) ∧ w'.cell? ⟨gb435, 2, none⟩ = some (.int .i64 t430) ∧ w'.cell? ⟨gb435, 3, none⟩ = some (.slice Ao103 t431.length co103) ∧ w'.cell? ⟨gb435, 4, none⟩ = some (.string t434) ∧ w'.cell? ⟨g0, 0, none⟩ = some (.int .i64 a0_0) ∧ w'.cell? ⟨g0, 1, none⟩ = some (.slice A0_1 l0_1.length c0_1) ∧ w'.cell? ⟨g0, 2, none⟩ = some (.int .i64 a0_2) ∧ w'.cell? ⟨g0, 3, none⟩ = some (.slice A0_3 l0_3.length c0_3) ∧ w'.cell? ⟨g0, 4, none⟩ = some (.string a0_4)) (ds := []) (bA 27 0) (by kernel_rfl) rfl rfl ⟨cz BK435 0, cz BK435 1, cz BK435 2, cz BK435 3, cz BK435 4, cz BK0 0, cz BK0 1, cz BK0 2, cz BK0 3, cz BK0 4⟩ (fun hHeld => ?_); refine with_tabW impl_Trie_nodes.tab19 impl_Trie_nodes.bits19 (fun HT_ HW_ => ?_); generalize w104.drew = w105 at HO_3 HO_6 HO429 HO433 BK0 BK435 HB hHeld ⊢; refine pZ 0 (some 128) (bA 27 1) HT_.out ?_; refine pZ 2 (some 130) (bA 27 5) HT_.out ?_; refine pZ 3 (some 131) (bA 27 13) HT_.out ?_; refine pZ 4 (some 132) (bA 27 29) HT_.out ?_; refine take_ (i := 1) (N := some 129) (v := ?_) (a' := ?_) (bA 27 31) rfl rfl (take_ofW HT_.out HW_.out (by kernel_rfl)) (fun _ _ _ h => h) (Or.inl ⟨by rfl, ?_⟩) hHeld ?_ ?_
           rotate_left
           ·rintro w' ⟨s0, s1, s2, s3, s4, s5, s6, s7, s8, s9⟩
            go_simp
            with_reducible rfl
           rotate_left
           ·simp only [aP, i64_w, i32_w]
            rfl
           refine take_ (i := 5) (N := some 133) (v := ?_) (a' := ?_) (bA 27 63) rfl rfl (take_ofW HT_.out HW_.out (by kernel_rfl)) (fun _ _ _ h => h) (Or.inl ⟨by rfl, ?_⟩) hHeld ?_ ?_
           rotate_left
           ·rintro w' ⟨s0, s1, s2, s3, s4, s5, s6, s7, s8, s9⟩
            go_simp
            with_reducible rfl
           rotate_left
           ·simp only [aP, i64_w, i32_w]
            rfl
           refine oZ 6 (some 134) (bA 27 127) HT_.out (fun K hK => ?_); refine gZ Tryz.func26 #[.agg #[.int .i64 t426, .slice Ao102 t427.length co102], .agg #[.int .i64 a0_0, .slice A0_1 l0_1.length c0_1]] ?_
           with_reducible refine (impl_sameBits.calls kj47 t426 _ _ t427 a0_0 _ _ l0_1 false _ ?side1 ?side2 ?side3 ?side4 A58.out).mono ?_
           (case side1 => exact Cz ((Kd.R_reads' HO429.out).2.2))
           (case side2 => exact (Kd.R_reads' HO429.out).2.1)
           (case side3 => exact Cz (Kd.C_below HR0_1.out HB.out))
           (case side4 => exact HC0_1.out)
           rintro e w106 ⟨rfl, hb⟩; refine ⟨_, rfl, ?_⟩; have n0_ := Rb HO_3 hb; have n1_ := Rb HO_6 hb; have n2_ := Rb HO429 hb; have n3_ := Rb HO433 hb; have n4_ := Kb BK0 hb; have n5_ := Kb BK435 hb; have n6_ := Bc HB hb; clear HO_3 HO_6 HO429 HO433 BK0 BK435 HB; revert n0_ n1_ n2_ n3_ n4_ n5_ n6_; intro HO_3 HO_6 HO429 HO433 BK0 BK435 HB
           (try clear hb)
           (try clear hb2)
           (try clear hk)
           (try clear hi)
           refine hK.out _ _ ⟨cz BK435 0, cz BK435 1, cz BK435 2, cz BK435 3, cz BK435 4, cz BK0 0, cz BK0 1, cz BK0 2, cz BK0 3, cz BK0 4⟩ (fun hHeld => ?_); clear hK K; refine norm_ (a' := ?_) ?_ ?_; rotate_left; show Act.put _ (some 134) _ = _; simp only [aP, i64_w, i32_w]; rfl; refine pZ 7 (some 135) (bA 27 255) HT_.out ?_; refine pZ 8 (some 136) (bA 27 511) HT_.out ?_; refine sZ 9 (some 137) (bA 27 1023) HT_.out ?_; refine sZ 10 (some 138) (bA 27 2047) HT_.out ?_; refine sZ 11 (some 139) (bA 27 4095) HT_.out ?_; refine sZ 12 (some 140) (bA 27 8191) HT_.out ?_; refine sZ 13 (some 141) (bA 27 16383) HT_.out ?_; refine sZ 14 (some 142) (bA 27 32767) HT_.out ?_; refine sZ 15 (some 143) (bA 27 65535) HT_.out ?_; refine sZ 16 (some 144) (bA 27 131071) HT_.out ?_; refine pZ 17 (some 145) (bA 27 262143) HT_.out ?_; refine pZ 18 (some 146) (bA 27 524287) HT_.out ?_; refine sZ 19 (some 147) (bA 27 1048575) HT_.out ?_; refine sZ 20 (some 148) (bA 27 2097151) HT_.out ?_; refine sZ 21 (some 149) (bA 27 4194303) HT_.out ?_; refine sZ 22 (some 150) (bA 27 8388607) HT_.out ?_; refine sZ 23 (some 151) (bA 27 16777215) HT_.out ?_; refine sZ 24 (some 152) (bA 27 33554431) HT_.out ?_; refine sZ 25 (some 153) (bA 27 67108863) HT_.out ?_; refine pZ 26 (some 154) (bA 27 134217727) HT_.out ?_; refine done_ (done_of HT_.out (by kernel_rfl)) ?_
           try go_wp2
           go_ret
           exact ⟨⟨_, eZ, nZ, Bq⟩, by first | exact rfl | exact fun _ => rfl | exact nzE (dT)⟩

end Go.Proofs.YtalfkfddpamnjaaGreat.PA
