import Derived.Test.YtpkpjikkfikejaaCR1
-- printed by a program of this session (wip/gp) out of the translation; Lean checks it
namespace Go.Proofs.Ytpkpjikkfikejaa.PC
open Go.RowKit Go.Proofs.YtpkpjikkfikejaaW.PrintWords Go.Proofs.YtpkpjikkfikejaaW.PrintLast Go.Proofs.YtpkpjikkfikejaaW.PrintMore Go.Proofs.YtpkpjikkfikejaaSq
attribute [local go_sem] max2_int min2_int max_two min_two max_three min_three max_four min_four   -- for this text's walks alone
attribute [local go_sem] Go.Proofs.YtpkpjikkfikejaaGp.str_geq Go.Proofs.YtpkpjikkfikejaaGp.str_gtr Go.Proofs.YtpkpjikkfikejaaGp.str_leq
set_option linter.unusedVariables false
set_option linter.unusedSimpArgs false

set_option maxHeartbeats 8000000
set_option maxRecDepth 100000
def impl_Bits_at.f (a0_0 : Int) (l0_1 : List Int) (a1 : Int) : Option (Bool) := if 0 ≤ (wrap64 (Int.tdiv a1 16)) then (if (wrap64 (Int.tdiv a1 16)) < (l0_1.length : Int) then (if 0 ≤ (Int.tmod a1 16) then (some ((Go.bits .and .i64 (shr .i64 (rd l0_1 (wrap64 (Int.tdiv a1 16))) (Int.tmod a1 16)) 1) == 1)) else (none)) else (none)) else (none)
theorem impl_Bits_at.calls_v0_28_2 (g0 : Nat) (z0_0 : Int) (z0_1 : Int) (a0_0 : Int) (A0_1 : Option Addr) (c0_1 : Nat) (l0_1 : List Int) (a1 : Int) (r : Bool) (w : World) (hb0 : w.heap[g0]? = some (.cells #[.int .i64 z0_0, .int .i64 z0_1, .int .i64 a0_0, .slice A0_1 l0_1.length c0_1] 28 (0, 0))) (hr0_1 : Kd.C (Kd.int .i64) w A0_1 l0_1.length l0_1) (hc0_1 : l0_1.length ≤ c0_1) (h : impl_Bits_at.f a0_0 l0_1 a1 = some r) :
    Calls Try.prog 127 #[.pointer (some ⟨g0, 2, none⟩), .int .i64 a1] w fun e w' => e = .returned (.bool r) ∧ Drawn0 w w' := by
  have HR0_1 := am hr0_1; have HC0_1 := am hc0_1; clear hr0_1 hc0_1; have BK0 := am hb0; clear hb0; have H : (if 0 ≤ (wrap64 (Int.tdiv a1 16)) then (if (wrap64 (Int.tdiv a1 16)) < (l0_1.length : Int) then (if 0 ≤ (Int.tmod a1 16) then (some ((Go.bits .and .i64 (shr .i64 (rd l0_1 (wrap64 (Int.tdiv a1 16))) (Int.tmod a1 16)) 1) == 1)) else (none)) else (none)) else (none)) = some r := h; clear h; obtain ⟨ji3, hji3⟩ : ∃ j_ : Int, (wrap64 (Int.tdiv a1 16)) = j_ := ⟨_, rfl⟩
  replace H : (if 0 ≤ (ji3) then (if (ji3) < (l0_1.length : Int) then (if 0 ≤ (Int.tmod a1 16) then (some ((Go.bits .and .i64 (shr .i64 (rd l0_1 (ji3)) (Int.tmod a1 16)) 1) == 1)) else (none)) else (none)) else (none)) = some r := by first | (rw [hji3] at H; exact H) | (simp only [hji3] at H ⊢; exact H)
  have hji3w : (IntKind.i64.wrap (Int.tdiv a1 16)) = ji3 := (i64_w _).trans hji3
  by_cases c4 : 0 ≤ (ji3)
  · rw [if_pos c4] at H
    have c4b0 : decide (0 ≤ (ji3)) = true := decide_eq_true c4; clear c4
    by_cases c5 : (ji3) < (l0_1.length : Int)
    · rw [if_pos c5] at H
      have c5b0 : decide ((ji3) < (l0_1.length : Int)) = true := decide_eq_true c5; clear c5; obtain ⟨ji6, hji6⟩ : ∃ j_ : Int, (Int.tmod a1 16) = j_ := ⟨_, rfl⟩
      replace H : (if 0 ≤ (ji6) then (some ((Go.bits .and .i64 (shr .i64 (rd l0_1 (ji3)) (ji6)) 1) == 1)) else (none)) = some r := by first | (rw [hji6] at H; exact H) | (simp only [hji6] at H ⊢; exact H)
      by_cases c7 : 0 ≤ (ji6)
      · rw [if_pos c7] at H
        have c7b0 := eq_true c7; have c7b1 : decide (0 ≤ (ji6)) = true := decide_eq_true c7; clear c7; obtain ⟨ji8, hji8⟩ : ∃ j_ : Int, (shr .i64 (rd l0_1 (ji3)) (ji6)) = j_ := ⟨_, rfl⟩
        replace H : (some ((Go.bits .and .i64 (ji8) 1) == 1)) = some r := by first | (rw [hji8] at H; exact H) | (simp only [hji8] at H ⊢; exact H)
        have hji8_ : ((rd l0_1 (ji3)) / 2 ^ min (ji6).toNat 64) = ji8 := hji8; have hji8z : (ji6) ≤ 64 → ((rd l0_1 (ji3)) / 2 ^ (ji6).toNat) = ji8 := shr_small hji8; obtain rfl := Option.some.inj H; obtain ⟨hcz9_0, hcz9_1, hcz9_2, hcz9_3, hfz9_0, hfz9_1, hfz9_2, hfz9_3⟩ := cf4 (w := w) BK0; obtain ⟨ad212, e212, hx212_0⟩ := Kd.at_int HR0_1.out (ji3) dT dT; cases e212; have p212 := eT (0 ≤ ((ji3) : Int)); have q212 := eT ((ji3) < (l0_1.length : Int))
        go_enter Try.func127, Try.ntmps127
        go_wp2
        go_ret
        exact ⟨by first | rfl | (simp; done) | (simp only [← hji3, ← hji6, ← hji8] <;> (first | rfl | simp)) | (simp [*]; done), by repeat (first | exact Drawn0.refl _ | apply Drawn0.step)⟩
      · rw [if_neg c7] at H
        exact absurd H (by simp)
    · rw [if_neg c5] at H
      exact absurd H (by simp)
  · rw [if_neg c4] at H
    exact absurd H (by simp)

mutual
def impl_hash.l0 : Nat → ByteArray → Int → Int → Int → Option (Int)
  | 0, _, _, _, _ => none
  | k + 1, x2, x7, x18, x19 => if x19 < x18 then (if 0 ≤ x19 then (if x19 < (x2.size : Int) then (impl_hash.l0 k x2 (Int.tmod (wrap64 ((wrap64 (263 * x7)) + (wrap64 (bt x2 x19)))) 65521) x18 (wrap64 (x19 + 1))) else (none)) else (none)) else (impl_hash.l1 k x7 1 0)
def impl_hash.l1 : Nat → Int → Int → Int → Option (Int)
  | 0, _, _, _ => none
  | k + 1, x7, x9, x31 => if x31 < 11 then (impl_hash.l1 k x7 (Int.tmod (wrap64 (x9 * x7)) 65521) (wrap64 (x31 + 1))) else (some x9)
end
def impl_hash.f (k : Nat) (a0 : Int) (a1 : Int) (a2 : ByteArray) : Option (Int) := impl_hash.l0 k a2 (Int.tmod (wrap64 ((wrap64 ((wrap64 (31 * a0)) + (wrap64 (977 * a1)))) + 7)) 65521) (a2.size : Int) 0
theorem impl_hash.calls (k : Nat) (a0 : Int) (a1 : Int) (a2 : ByteArray) (r : Int) (w : World) (h : impl_hash.f k a0 a1 a2 = some r) :
    Calls Try.prog 179 #[.int .i64 a0, .int .i64 a1, .string a2] w fun e w' => e = .returned (.int .i64 r) ∧ Drawn0 w w' := by
  have H : (impl_hash.l0 k a2 (Int.tmod (wrap64 ((wrap64 ((wrap64 (31 * a0)) + (wrap64 (977 * a1)))) + 7)) 65521) (a2.size : Int) 0) = some r := h; clear h; have H' := am H; clear H
  go_enter Try.func179, Try.ntmps179
  go_wp2
  go_loopg [7, 19] k (fun kq v7 v19 w' => ∃ (x7_1 : Int) (x19_1 : Int), v7 = .int .i64 x7_1 ∧ v19 = .int .i64 x19_1 ∧ Aside0 (impl_hash.l0 kq a2 x7_1 (a2.size : Int) x19_1 = some r) ∧ Aside0 (kq ≤ k) ∧ Drawn0 w w')
  case atStart => exact ⟨(Int.tmod (wrap64 ((wrap64 ((wrap64 (31 * a0)) + (wrap64 (977 * a1)))) + 7)) 65521), (0), wZ, wZ, H', ⟨Nat.le_refl _⟩, by repeat (first | exact Drawn0.refl _ | apply Drawn0.step)⟩
  case round =>
    clear H'
    try clear c1
    try clear p2
    obtain ⟨x7_1, x19_1, rfl, rfl, HA, HK1, ⟨m1, rfl⟩⟩ := hrel; cases gk with
    | zero => exact absurd HA.out (by simp [impl_hash.l0])
    | succ k1 =>
      have H := HA.out; clear HA
      simp only [impl_hash.l0] at H
      by_cases c4 : x19_1 < (a2.size : Int)
      · rw [if_pos c4] at H
        have c4b0 : decide (x19_1 < (a2.size : Int)) = true := decide_eq_true c4; clear c4
        by_cases c5 : 0 ≤ x19_1
        · rw [if_pos c5] at H
          have c5b0 : decide (0 ≤ x19_1) = true := decide_eq_true c5; clear c5
          by_cases c6 : x19_1 < (a2.size : Int)
          · rw [if_pos c6] at H
            have c6b0 : decide (x19_1 < (a2.size : Int)) = true := decide_eq_true c6; clear c6; have H' := am H; clear H; have p7 : 0 ≤ (x19_1 : Int) := dT; have q7 : x19_1 < (a2.size : Int) := dT; have hx7 := bt_at a2 x19_1; replace p7 := eq_true p7; replace q7 := eq_true q7
            go_wp2
            go_roundg k1
            case measure => have := HK1.out; omega
            case rel => exact ⟨(Int.tmod (wrap64 ((wrap64 (263 * x7_1)) + (wrap64 (bt a2 x19_1)))) 65521), (wrap64 (x19_1 + 1)), wZ, wZ, H', ⟨by have := HK1.out; omega⟩, by repeat (first | exact Drawn0.refl _ | apply Drawn0.step)⟩
          · rw [if_neg c6] at H
            exact absurd H (by simp)
        · rw [if_neg c5] at H
          exact absurd H (by simp)
      · rw [if_neg c4] at H
        have c4b0 : decide (x19_1 < (a2.size : Int)) = false := decide_eq_false c4; clear c4; have H' := am H; clear H
        go_wp2
        go_loopg [9, 31] k1 (fun kq v9 v31 w' => ∃ (x9_2 : Int) (x31_2 : Int), v9 = .int .i64 x9_2 ∧ v31 = .int .i64 x31_2 ∧ Aside0 (impl_hash.l1 kq x7_1 x9_2 x31_2 = some r) ∧ Aside0 (kq ≤ k1) ∧ Drawn0 w w')
        case atStart => exact ⟨(1), (0), wZ, wZ, H', ⟨Nat.le_refl _⟩, by repeat (first | exact Drawn0.refl _ | apply Drawn0.step)⟩
        case round =>
          clear H'
          try clear c1
          try clear p2
          try clear c4
          try clear c4b0
          try clear c5
          try clear c5b0
          try clear c6
          try clear c6b0
          try clear p6
          try clear p7
          try clear q7
          try clear hx7
          try clear p2
          try clear p7
          try clear q7
          obtain ⟨x9_2, x31_2, rfl, rfl, HA, HK2, ⟨m2, rfl⟩⟩ := hrel; cases gk with
          | zero => exact absurd HA.out (by simp [impl_hash.l1])
          | succ k2 =>
            have H := HA.out; clear HA
            simp only [impl_hash.l1] at H
            by_cases c8 : x31_2 < 11
            · rw [if_pos c8] at H
              have c8b0 : decide (x31_2 < 11) = true := decide_eq_true c8; clear c8; have H' := am H; clear H
              go_wp2
              go_roundg k2
              case measure => have := HK1.out; have := HK2.out; omega
              case rel => exact ⟨(Int.tmod (wrap64 (x9_2 * x7_1)) 65521), (wrap64 (x31_2 + 1)), wZ, wZ, H', ⟨by have := HK1.out; have := HK2.out; omega⟩, by repeat (first | exact Drawn0.refl _ | apply Drawn0.step)⟩
            · rw [if_neg c8] at H
              have c8b0 : decide (x31_2 < 11) = false := decide_eq_false c8; clear c8; obtain rfl := Option.some.inj H
              go_wp2
              go_ret
              exact ⟨by first | rfl | (simp; done) | (simp [*]; done), by repeat (first | exact Drawn0.refl _ | apply Drawn0.step)⟩

def impl_place.f (k : Nat) (a0 : Int) (a1 : Int) (a2 : ByteArray) (a3 : Int) : Option (Int) := (impl_hash.f k a0 a1 a2).bind fun t210 => (some (wrap64 (Int.tdiv (wrap64 (t210 * a3)) 65521)))
theorem impl_place.calls (k : Nat) (a0 : Int) (a1 : Int) (a2 : ByteArray) (a3 : Int) (r : Int) (w : World) (h : impl_place.f k a0 a1 a2 a3 = some r) :
    Calls Try.prog 129 #[.int .i64 a0, .int .i64 a1, .string a2, .int .i64 a3] w fun e w' => e = .returned (.int .i64 r) ∧ Drawn0 w w' := by
  have H : ((impl_hash.f k a0 a1 a2).bind fun t210 => (some (wrap64 (Int.tdiv (wrap64 (t210 * a3)) 65521)))) = some r := h; clear h; replace H := Option.bind_eq_some_iff.mp H; obtain ⟨t210, A50, H⟩ := H; (try dsimp -simprocs only at H); have A5 := am A50; clear A50; obtain rfl := Option.some.inj H
  go_enter Try.func129, Try.ntmps129
  go_wp2_with (first | ((with_reducible refine gate_callee (f := 179) rfl ?_); refine gL (some 12) Try.func179 #[.int .i64 a0, .int .i64 a1, .string a2] ?_; (with_reducible refine (impl_hash.calls k a0 a1 a2 t210 _ A5.out).mono ?_); rintro e w' ⟨rfl, ⟨nd, rfl⟩⟩; refine ⟨_, rfl, ?_⟩))
  go_ret
  exact ⟨by first | rfl | (simp; done) | (simp [*]; done), by repeat (first | exact Drawn0.refl _ | apply Drawn0.step)⟩

def impl_Bloom_says.l0 : Nat → ByteArray → Int → Int → Int → Int → Int → List Int → Option (Bool)
  | 0, _, _, _, _, _, _, _ => none
  | k + 1, x1, x9, x10, x1000, x1001, x1002, x1003 => if x10 < x9 then ((impl_place.f k x1000 x10 x1 x1002).bind fun t213 => ((impl_Bits_at.f x1002 x1003 t213).bind fun t214 => (if t214 = true then (impl_Bloom_says.l0 k x1 x9 (wrap64 (x10 + 1)) x1000 x1001 x1002 x1003) else (some false)))) else (some true)
def impl_Bloom_says.f (k : Nat) (a0_0 : Int) (a0_1 : Int) (a0_2 : Int) (l0_3 : List Int) (a1 : ByteArray) : Option (Bool) := impl_Bloom_says.l0 k a1 a0_1 0 a0_0 a0_1 a0_2 l0_3
def impl_Bloom_says.T4 : Bool × List (List Nat × List Nat) := (true, [([], []), ([0], [0]), ([1], [1]), ([], []), ([3], [3]), ([4], [4]), ([5], [5]), ([], []), ([], []), ([], []), ([9], [9]), ([10], [10]), ([11], [11]), ([12], [12]), ([6, 7, 8, 13], [6, 7, 8, 13]), ([2, 14, 14], [2, 14]), ([15], [15])])
def impl_Bloom_says.B4 : List Nat := [0, 1, 3, 0, 8, 24, 56, 0, 0, 0, 512, 1536, 3584, 7680, 16376, 32767, 65535]
theorem impl_Bloom_says.tab4 : rtab .any (opsOf Try.f105 4) = impl_Bloom_says.T4 := by kernel_rfl
theorem impl_Bloom_says.bits4 : waitsOk impl_Bloom_says.T4.2 impl_Bloom_says.B4 = true := by kernel_rfl
theorem impl_Bloom_says.calls (k : Nat) (g0 : Nat) (a0_0 : Int) (a0_1 : Int) (a0_2 : Int) (A0_3 : Option Addr) (c0_3 : Nat) (l0_3 : List Int) (a1 : ByteArray) (r : Bool) (w : World) (hb0 : w.heap[g0]? = some (.cells #[.int .i64 a0_0, .int .i64 a0_1, .int .i64 a0_2, .slice A0_3 l0_3.length c0_3] 28 (0, 0))) (hr0_3 : Kd.C (Kd.int .i64) w A0_3 l0_3.length l0_3) (hc0_3 : l0_3.length ≤ c0_3) (h : impl_Bloom_says.f k a0_0 a0_1 a0_2 l0_3 a1 = some r) :
    Calls Try.prog 105 #[.pointer (some ⟨g0, 0, none⟩), .string a1] w fun e w' => e = .returned (.bool r) ∧ Below w.heap.size w w' := by
  have HR0_3 := am hr0_3; have HC0_3 := am hc0_3; clear hr0_3 hc0_3; have BK0 := am hb0; clear hb0; have HB := am (Below.refl w.heap.size w); have H : (impl_Bloom_says.l0 k a1 a0_1 0 a0_0 a0_1 a0_2 l0_3) = some r := h; clear h; have H' := am H; clear H; obtain ⟨hcz3_0, hcz3_1, hcz3_2, hcz3_3, hfz3_0, hfz3_1, hfz3_2, hfz3_3⟩ := cf4 (w := w) BK0
  go_enter Try.func105, Try.ntmps105
  go_wp2
  go_loopg [10] k (fun kq v10 w' => ∃ (x10_1 : Int), v10 = .int .i64 x10_1 ∧ Aside0 (impl_Bloom_says.l0 kq a1 a0_1 x10_1 a0_0 a0_1 a0_2 l0_3 = some r) ∧ Aside0 (kq ≤ k) ∧ Aside0 (w'.heap[g0]? = some (.cells #[.int .i64 a0_0, .int .i64 a0_1, .int .i64 a0_2, (.slice A0_3 l0_3.length c0_3)] 28 (0, 0))) ∧ Aside0 (Below w.heap.size w w'))
  case atStart => exact ⟨(0), wZ, H', ⟨Nat.le_refl _⟩, ⟨Kz BK0.out⟩, ⟨Bq⟩⟩
  case round =>
    clear H'
    try clear c1
    try clear p2
    try clear hcz3_0
    try clear hcz3_1
    try clear hcz3_2
    try clear hcz3_3
    try clear hfz3_0
    try clear hfz3_1
    try clear hfz3_2
    try clear hfz3_3
    obtain ⟨x10_1, rfl, HA, HK1, BK0, HB⟩ := hrel; cases gk with
    | zero => exact absurd HA.out (by simp [impl_Bloom_says.l0])
    | succ k1 =>
      have H := HA.out; clear HA
      simp only [impl_Bloom_says.l0] at H
      by_cases c4 : x10_1 < a0_1
      · rw [if_pos c4] at H
        have c4b0 : decide (x10_1 < a0_1) = true := decide_eq_true c4; clear c4; replace H := Option.bind_eq_some_iff.mp H; obtain ⟨t213, A50, H⟩ := H; (try dsimp -simprocs only at H); have A5 := am A50; clear A50; replace H := Option.bind_eq_some_iff.mp H; obtain ⟨t214, A60, H⟩ := H; (try dsimp -simprocs only at H); have A6 := am A60; clear A60
        by_cases c7 : t214 = true
        · subst c7
          rw [if_pos rfl] at H; have H' := am H; clear H
          try go_wp2
          have n0_ := am (blk_drew BK0.out); have n1_ := am (below_drew1 HB.out); clear BK0 HB; revert n0_ n1_; intro BK0 HB; refine start_ (n := 17) (S := fun w' => w'.cell? ⟨g0, 0, none⟩ = some (.int .i64 a0_0) ∧ w'.cell? ⟨g0, 1, none⟩ = some (.int .i64 a0_1) ∧ w'.cell? ⟨g0, 2, none⟩ = some (.int .i64 a0_2) ∧ w'.cell? ⟨g0, 3, none⟩ = some (.slice A0_3 l0_3.length c0_3)) (ds := []) (bA 17 0) (by kernel_rfl) rfl rfl ⟨cz BK0 0, cz BK0 1, cz BK0 2, cz BK0 3⟩ (fun hHeld => ?_); refine with_tabW impl_Bloom_says.tab4 impl_Bloom_says.bits4 (fun HT_ HW_ => ?_); generalize wr.drew = w8 at BK0 HB hHeld ⊢; refine pure_ (i := 0) (N := some 13) (v := ?_) (a' := ?_) (bA 17 1) rfl rfl (any_of HT_.out (by kernel_rfl)) (fun _ _ _ h => h) (Or.inl ⟨by rfl, ?_⟩) ?_ ?_
          rotate_left
          · intro w'
            go_simp
            with_reducible rfl
          rotate_left
          · simp only [aP, i64_w, i32_w]
            rfl
          refine pure_ (i := 1) (N := some 14) (v := ?_) (a' := ?_) (bA 17 3) rfl rfl (any_of HT_.out (by kernel_rfl)) (fun _ _ _ h => h) (Or.inl ⟨by rfl, ?_⟩) ?_ ?_
          rotate_left
          · intro w'
            go_simp
            with_reducible rfl
          rotate_left
          · simp only [aP, i64_w, i32_w]
            rfl
          refine pure_ (i := 2) (N := some 15) (v := ?_) (a' := ?_) (bA 17 7) rfl rfl (any_of HT_.out (by kernel_rfl)) (fun _ _ _ h => h) (Or.inl ⟨by rfl, ?_⟩) ?_ ?_
          rotate_left
          · intro w'
            go_simp
            with_reducible rfl
          rotate_left
          · simp only [aP, i64_w, i32_w]
            rfl
          refine pure_ (i := 3) (N := some 16) (v := ?_) (a' := ?_) (bA 17 15) rfl rfl (any_of HT_.out (by kernel_rfl)) (fun _ _ _ h => h) (Or.inl ⟨by rfl, ?_⟩) ?_ ?_
          rotate_left
          · intro w'
            go_simp
            with_reducible rfl
          rotate_left
          · simp only [aP, i64_w, i32_w]
            rfl
          refine pure_ (i := 4) (N := some 17) (v := ?_) (a' := ?_) (bA 17 31) rfl rfl (any_of HT_.out (by kernel_rfl)) (fun _ _ _ h => h) (Or.inl ⟨by rfl, ?_⟩) ?_ ?_
          rotate_left
          · intro w'
            go_simp
            with_reducible rfl
          rotate_left
          · simp only [aP, i64_w, i32_w]
            rfl
          refine pure_ (i := 5) (N := some 18) (v := ?_) (a' := ?_) (bA 17 63) rfl rfl (any_of HT_.out (by kernel_rfl)) (fun _ _ _ h => h) (Or.inl ⟨by rfl, ?_⟩) ?_ ?_
          rotate_left
          · intro w'
            go_simp
            with_reducible rfl
          rotate_left
          · simp only [aP, i64_w, i32_w]
            rfl
          refine pure_ (i := 7) (N := some 20) (v := ?_) (a' := ?_) (bA 17 191) rfl rfl (any_of HT_.out (by kernel_rfl)) (fun _ _ _ h => h) (Or.inl ⟨by rfl, ?_⟩) ?_ ?_
          rotate_left
          · intro w'
            go_simp
            with_reducible rfl
          rotate_left
          · simp only [aP, i64_w, i32_w]
            rfl
          refine pure_ (i := 8) (N := some 21) (v := ?_) (a' := ?_) (bA 17 447) rfl rfl (any_of HT_.out (by kernel_rfl)) (fun _ _ _ h => h) (Or.inl ⟨by rfl, ?_⟩) ?_ ?_
          rotate_left
          · intro w'
            go_simp
            with_reducible rfl
          rotate_left
          · simp only [aP, i64_w, i32_w]
            rfl
          refine pure_ (i := 9) (N := some 22) (v := ?_) (a' := ?_) (bA 17 959) rfl rfl (any_of HT_.out (by kernel_rfl)) (fun _ _ _ h => h) (Or.inl ⟨by rfl, ?_⟩) ?_ ?_
          rotate_left
          · intro w'
            go_simp
            with_reducible rfl
          rotate_left
          · simp only [aP, i64_w, i32_w]
            rfl
          refine pure_ (i := 10) (N := some 23) (v := ?_) (a' := ?_) (bA 17 1983) rfl rfl (any_of HT_.out (by kernel_rfl)) (fun _ _ _ h => h) (Or.inl ⟨by rfl, ?_⟩) ?_ ?_
          rotate_left
          · intro w'
            go_simp
            with_reducible rfl
          rotate_left
          · simp only [aP, i64_w, i32_w]
            rfl
          refine pure_ (i := 11) (N := some 24) (v := ?_) (a' := ?_) (bA 17 4031) rfl rfl (any_of HT_.out (by kernel_rfl)) (fun _ _ _ h => h) (Or.inl ⟨by rfl, ?_⟩) ?_ ?_
          rotate_left
          · intro w'
            go_simp
            with_reducible rfl
          rotate_left
          · simp only [aP, i64_w, i32_w]
            rfl
          refine pure_ (i := 12) (N := some 25) (v := ?_) (a' := ?_) (bA 17 8127) rfl rfl (any_of HT_.out (by kernel_rfl)) (fun _ _ _ h => h) (Or.inl ⟨by rfl, ?_⟩) ?_ ?_
          rotate_left
          · intro w'
            go_simp
            with_reducible rfl
          rotate_left
          · simp only [aP, i64_w, i32_w]
            rfl
          refine take_ (i := 6) (N := some 19) (v := ?_) (a' := ?_) (bA 17 8191) rfl rfl (take_ofW HT_.out HW_.out (by kernel_rfl)) (fun _ _ _ h => h) (Or.inl ⟨by rfl, ?_⟩) hHeld ?_ ?_
          rotate_left
          · rintro w' ⟨s0, s1, s2, s3⟩
            go_simp
            with_reducible rfl
          rotate_left
          · simp only [aP, i64_w, i32_w]
            rfl
          refine take_ (i := 13) (N := some 26) (v := ?_) (a' := ?_) (bA 17 16383) rfl rfl (take_ofW HT_.out HW_.out (by kernel_rfl)) (fun _ _ _ h => h) (Or.inl ⟨by rfl, ?_⟩) hHeld ?_ ?_
          rotate_left
          · rintro w' ⟨s0, s1, s2, s3⟩
            go_simp
            with_reducible rfl
          rotate_left
          · simp only [aP, i64_w, i32_w]
            rfl
          refine oZ 14 (some 27) (bA 17 32767) HT_.out (fun K hK => ?_); refine gZ Try.func129 #[.int .i64 a0_0, .int .i64 x10_1, .string a1, .int .i64 a0_2] ?_
          with_reducible refine (impl_place.calls k1 a0_0 x10_1 a1 a0_2 t213 _ A5.out).mono ?_
          rintro e w' ⟨rfl, ⟨nd, rfl⟩⟩; refine ⟨_, rfl, ?_⟩; refine hK.out _ _ ⟨cz BK0 0, cz BK0 1, cz BK0 2, cz BK0 3⟩ (fun hHeld => ?_); clear hK K; refine norm_ (a' := ?_) ?_ ?_
          rotate_left
          · show Act.put _ (some 27) _ = _
            simp only [aP, i64_w, i32_w]
            rfl
          refine oZ 15 (some 28) (bA 17 65535) HT_.out (fun K hK => ?_); refine gZ Try.func127 #[.pointer (some ⟨g0, 2, none⟩), .int .i64 t213] ?_
          with_reducible refine (impl_Bits_at.calls_v0_28_2 g0 a0_0 a0_1 a0_2 A0_3 c0_3 l0_3 t213 true _ ?side1 ?side2 ?side3 A6.out).mono ?_
          (case side1 => exact Kz BK0.out)
          (case side2 => exact Cz (Kd.C_below HR0_3.out (Bq)))
          (case side3 => exact HC0_3.out)
          rintro e w' ⟨rfl, ⟨nd, rfl⟩⟩; refine ⟨_, rfl, ?_⟩; refine hK.out _ _ ⟨cz BK0 0, cz BK0 1, cz BK0 2, cz BK0 3⟩ (fun hHeld => ?_); clear hK K; refine norm_ (a' := ?_) ?_ ?_
          rotate_left
          · show Act.put _ (some 28) _ = _
            simp only [aP, i64_w, i32_w]
            rfl
          refine pure_ (i := 16) (N := some 29) (v := ?_) (a' := ?_) (bA 17 131071) rfl rfl (any_of HT_.out (by kernel_rfl)) (fun _ _ _ h => h) (Or.inl ⟨by rfl, ?_⟩) ?_ ?_
          rotate_left
          · intro w'
            go_simp
            with_reducible rfl
          rotate_left
          · simp only [aP, i64_w, i32_w]
            rfl
          refine done_ (done_of HT_.out (by kernel_rfl)) ?_
          try go_wp2
          go_roundg k1
          case measure => have := HK1.out; omega
          case rel => exact ⟨(wrap64 (x10_1 + 1)), wZ, H', ⟨by have := HK1.out; omega⟩, ⟨Kz BK0.out⟩, ⟨Bq⟩⟩
        · replace c7 := Bool.eq_false_iff.mpr c7
          subst c7
          rw [if_neg (show ¬ (false = true) by decide)] at H; obtain rfl := Option.some.inj H
          try go_wp2
          have n0_ := am (blk_drew BK0.out); have n1_ := am (below_drew1 HB.out); clear BK0 HB; revert n0_ n1_; intro BK0 HB; refine start_ (n := 17) (S := fun w' => w'.cell? ⟨g0, 0, none⟩ = some (.int .i64 a0_0) ∧ w'.cell? ⟨g0, 1, none⟩ = some (.int .i64 a0_1) ∧ w'.cell? ⟨g0, 2, none⟩ = some (.int .i64 a0_2) ∧ w'.cell? ⟨g0, 3, none⟩ = some (.slice A0_3 l0_3.length c0_3)) (ds := []) (bA 17 0) (by kernel_rfl) rfl rfl ⟨cz BK0 0, cz BK0 1, cz BK0 2, cz BK0 3⟩ (fun hHeld => ?_); refine with_tabW impl_Bloom_says.tab4 impl_Bloom_says.bits4 (fun HT_ HW_ => ?_); generalize wr.drew = w9 at BK0 HB hHeld ⊢; refine pure_ (i := 0) (N := some 13) (v := ?_) (a' := ?_) (bA 17 1) rfl rfl (any_of HT_.out (by kernel_rfl)) (fun _ _ _ h => h) (Or.inl ⟨by rfl, ?_⟩) ?_ ?_
          rotate_left
          · intro w'
            go_simp
            with_reducible rfl
          rotate_left
          · simp only [aP, i64_w, i32_w]
            rfl
          refine pure_ (i := 1) (N := some 14) (v := ?_) (a' := ?_) (bA 17 3) rfl rfl (any_of HT_.out (by kernel_rfl)) (fun _ _ _ h => h) (Or.inl ⟨by rfl, ?_⟩) ?_ ?_
          rotate_left
          · intro w'
            go_simp
            with_reducible rfl
          rotate_left
          · simp only [aP, i64_w, i32_w]
            rfl
          refine pure_ (i := 2) (N := some 15) (v := ?_) (a' := ?_) (bA 17 7) rfl rfl (any_of HT_.out (by kernel_rfl)) (fun _ _ _ h => h) (Or.inl ⟨by rfl, ?_⟩) ?_ ?_
          rotate_left
          · intro w'
            go_simp
            with_reducible rfl
          rotate_left
          · simp only [aP, i64_w, i32_w]
            rfl
          refine pure_ (i := 3) (N := some 16) (v := ?_) (a' := ?_) (bA 17 15) rfl rfl (any_of HT_.out (by kernel_rfl)) (fun _ _ _ h => h) (Or.inl ⟨by rfl, ?_⟩) ?_ ?_
          rotate_left
          · intro w'
            go_simp
            with_reducible rfl
          rotate_left
          · simp only [aP, i64_w, i32_w]
            rfl
          refine pure_ (i := 4) (N := some 17) (v := ?_) (a' := ?_) (bA 17 31) rfl rfl (any_of HT_.out (by kernel_rfl)) (fun _ _ _ h => h) (Or.inl ⟨by rfl, ?_⟩) ?_ ?_
          rotate_left
          · intro w'
            go_simp
            with_reducible rfl
          rotate_left
          · simp only [aP, i64_w, i32_w]
            rfl
          refine pure_ (i := 5) (N := some 18) (v := ?_) (a' := ?_) (bA 17 63) rfl rfl (any_of HT_.out (by kernel_rfl)) (fun _ _ _ h => h) (Or.inl ⟨by rfl, ?_⟩) ?_ ?_
          rotate_left
          · intro w'
            go_simp
            with_reducible rfl
          rotate_left
          · simp only [aP, i64_w, i32_w]
            rfl
          refine pure_ (i := 7) (N := some 20) (v := ?_) (a' := ?_) (bA 17 191) rfl rfl (any_of HT_.out (by kernel_rfl)) (fun _ _ _ h => h) (Or.inl ⟨by rfl, ?_⟩) ?_ ?_
          rotate_left
          · intro w'
            go_simp
            with_reducible rfl
          rotate_left
          · simp only [aP, i64_w, i32_w]
            rfl
          refine pure_ (i := 8) (N := some 21) (v := ?_) (a' := ?_) (bA 17 447) rfl rfl (any_of HT_.out (by kernel_rfl)) (fun _ _ _ h => h) (Or.inl ⟨by rfl, ?_⟩) ?_ ?_
          rotate_left
          · intro w'
            go_simp
            with_reducible rfl
          rotate_left
          · simp only [aP, i64_w, i32_w]
            rfl
          refine pure_ (i := 9) (N := some 22) (v := ?_) (a' := ?_) (bA 17 959) rfl rfl (any_of HT_.out (by kernel_rfl)) (fun _ _ _ h => h) (Or.inl ⟨by rfl, ?_⟩) ?_ ?_
          rotate_left
          · intro w'
            go_simp
            with_reducible rfl
          rotate_left
          · simp only [aP, i64_w, i32_w]
            rfl
          refine pure_ (i := 10) (N := some 23) (v := ?_) (a' := ?_) (bA 17 1983) rfl rfl (any_of HT_.out (by kernel_rfl)) (fun _ _ _ h => h) (Or.inl ⟨by rfl, ?_⟩) ?_ ?_
          rotate_left
          · intro w'
            go_simp
            with_reducible rfl
          rotate_left
          · simp only [aP, i64_w, i32_w]
            rfl
          refine pure_ (i := 11) (N := some 24) (v := ?_) (a' := ?_) (bA 17 4031) rfl rfl (any_of HT_.out (by kernel_rfl)) (fun _ _ _ h => h) (Or.inl ⟨by rfl, ?_⟩) ?_ ?_
          rotate_left
          · intro w'
            go_simp
            with_reducible rfl
          rotate_left
          · simp only [aP, i64_w, i32_w]
            rfl
          refine pure_ (i := 12) (N := some 25) (v := ?_) (a' := ?_) (bA 17 8127) rfl rfl (any_of HT_.out (by kernel_rfl)) (fun _ _ _ h => h) (Or.inl ⟨by rfl, ?_⟩) ?_ ?_
          rotate_left
          · intro w'
            go_simp
            with_reducible rfl
          rotate_left
          · simp only [aP, i64_w, i32_w]
            rfl
          refine take_ (i := 6) (N := some 19) (v := ?_) (a' := ?_) (bA 17 8191) rfl rfl (take_ofW HT_.out HW_.out (by kernel_rfl)) (fun _ _ _ h => h) (Or.inl ⟨by rfl, ?_⟩) hHeld ?_ ?_
          rotate_left
          · rintro w' ⟨s0, s1, s2, s3⟩
            go_simp
            with_reducible rfl
          rotate_left
          · simp only [aP, i64_w, i32_w]
            rfl
          refine take_ (i := 13) (N := some 26) (v := ?_) (a' := ?_) (bA 17 16383) rfl rfl (take_ofW HT_.out HW_.out (by kernel_rfl)) (fun _ _ _ h => h) (Or.inl ⟨by rfl, ?_⟩) hHeld ?_ ?_
          rotate_left
          · rintro w' ⟨s0, s1, s2, s3⟩
            go_simp
            with_reducible rfl
          rotate_left
          · simp only [aP, i64_w, i32_w]
            rfl
          refine oZ 14 (some 27) (bA 17 32767) HT_.out (fun K hK => ?_); refine gZ Try.func129 #[.int .i64 a0_0, .int .i64 x10_1, .string a1, .int .i64 a0_2] ?_
          with_reducible refine (impl_place.calls k1 a0_0 x10_1 a1 a0_2 t213 _ A5.out).mono ?_
          rintro e w' ⟨rfl, ⟨nd, rfl⟩⟩; refine ⟨_, rfl, ?_⟩; refine hK.out _ _ ⟨cz BK0 0, cz BK0 1, cz BK0 2, cz BK0 3⟩ (fun hHeld => ?_); clear hK K; refine norm_ (a' := ?_) ?_ ?_
          rotate_left
          · show Act.put _ (some 27) _ = _
            simp only [aP, i64_w, i32_w]
            rfl
          refine oZ 15 (some 28) (bA 17 65535) HT_.out (fun K hK => ?_); refine gZ Try.func127 #[.pointer (some ⟨g0, 2, none⟩), .int .i64 t213] ?_
          with_reducible refine (impl_Bits_at.calls_v0_28_2 g0 a0_0 a0_1 a0_2 A0_3 c0_3 l0_3 t213 false _ ?side1 ?side2 ?side3 A6.out).mono ?_
          (case side1 => exact Kz BK0.out)
          (case side2 => exact Cz (Kd.C_below HR0_3.out (Bq)))
          (case side3 => exact HC0_3.out)
          rintro e w' ⟨rfl, ⟨nd, rfl⟩⟩; refine ⟨_, rfl, ?_⟩; refine hK.out _ _ ⟨cz BK0 0, cz BK0 1, cz BK0 2, cz BK0 3⟩ (fun hHeld => ?_); clear hK K; refine norm_ (a' := ?_) ?_ ?_
          rotate_left
          · show Act.put _ (some 28) _ = _
            simp only [aP, i64_w, i32_w]
            rfl
          refine pure_ (i := 16) (N := some 29) (v := ?_) (a' := ?_) (bA 17 131071) rfl rfl (any_of HT_.out (by kernel_rfl)) (fun _ _ _ h => h) (Or.inl ⟨by rfl, ?_⟩) ?_ ?_
          rotate_left
          · intro w'
            go_simp
            with_reducible rfl
          rotate_left
          · simp only [aP, i64_w, i32_w]
            rfl
          refine done_ (done_of HT_.out (by kernel_rfl)) ?_
          try go_wp2
          go_ret
          exact ⟨eZ, Bq⟩
      · rw [if_neg c4] at H
        have c4b0 : decide (x10_1 < a0_1) = false := decide_eq_false c4; clear c4; obtain rfl := Option.some.inj H
        go_wp2
        go_ret
        exact ⟨eZ, Bq⟩

def slices_Clone_int_int.f (l0 : List Int) : Option (List Int) := (some (([] : List Int) : List Int)).bind fun y215 => (if y215.length + l0.length < 17592186044416 then (some (y215 ++ l0)) else (none))
theorem slices_Clone_int_int.calls (A0 : Option Addr) (c0 : Nat) (l0 : List Int) (r : List Int) (w : World) (hr0 : Kd.C (Kd.int .i64) w A0 l0.length l0) (hc0 : l0.length ≤ c0) (h : slices_Clone_int_int.f l0 = some r) :
    Calls Try.prog 157 #[.slice A0 l0.length c0] w fun e w' => ∃ v0_ : Value, e = .returned (v0_) ∧ Kd.R (Kd.int .i64) 3 w' w.heap.size (fun _ => True) v0_ r ∧ Below w.heap.size w w' := by
  have HR0 := am hr0; have HC0 := am hc0; clear hr0 hc0; have HB := am (Below.refl w.heap.size w); have H : ((some (([] : List Int) : List Int)).bind fun y215 => (if y215.length + l0.length < 17592186044416 then (some (y215 ++ l0)) else (none))) = some r := h; clear h
  by_cases c2 : A0.isNone = true
  · have hlc2 : l0 = [] := Go.Proofs.YtpkpjikkfikejaaGp.C_isNone HR0.out c2
    rw [hlc2] at H
    have H1 : (some ([] : List Int)) = some r := by simpa using H
    clear H; have H := H1; clear H1 hlc2
    have qc2 : ∀ (w_ : World) (n_ c_ : Nat), (binOp .eql 24 (.slice A0 n_ c_) (.slice none 0 0)).run Try.prog w_ = .ok (.bool true) w_ := fun w_ _ _ => (Go.Proofs.YtpkpjikkfikejaaGp.run_eql_nil_ w_ 24 _ _ _ _ Try.underlying24).trans (by rw [c2])
    obtain rfl := Option.some.inj H
    go_enter Try.func157, Try.ntmps157
    go_wp2
    go_ret
    exact ⟨_, eZ, nZ, Bz HB.out⟩
  · replace c2 := Bool.eq_false_iff.mpr c2
    have qc2 : ∀ (w_ : World) (n_ c_ : Nat), (binOp .eql 24 (.slice A0 n_ c_) (.slice none 0 0)).run Try.prog w_ = .ok (.bool false) w_ := fun w_ _ _ => (Go.Proofs.YtpkpjikkfikejaaGp.run_eql_nil_ w_ 24 _ _ _ _ Try.underlying24).trans (by rw [c2])
    obtain ⟨y215, hy215⟩ : ∃ y_ : List Int, y_ = (([] : List Int)) := ⟨_, rfl⟩
    replace H : (if y215.length + l0.length < 17592186044416 then (some (y215 ++ l0)) else (none)) = some r := by first | (rw [hy215]; with_reducible exact H) | (have H2_ := (Option.bind_some _ _).symm.trans H; rw [hy215]; with_reducible exact H2_) | (have H2_ := (Option.bind_some _ _).symm.trans H; with_reducible exact H2_) | with_reducible exact H | (rw [hy215]; exact H) | exact H
    have Ny215 := am hy215; clear hy215
    by_cases c3 : y215.length + l0.length < 17592186044416
    · rw [if_pos c3] at H
      have LMc3 := am c3; clear c3; obtain ⟨y218, hy218⟩ : ∃ y_ : List Int, y_ = (y215 ++ l0) := ⟨_, rfl⟩
      replace H : (some y218) = some r := by first | (rw [hy218]; with_reducible exact H) | (have H2_ := (Option.bind_some _ _).symm.trans H; rw [hy218]; with_reducible exact H2_) | (have H2_ := (Option.bind_some _ _).symm.trans H; with_reducible exact H2_) | with_reducible exact H | (rw [hy218]; exact H) | exact H
      have Ny218 := am hy218; clear hy218; obtain rfl := Option.some.inj H
      go_enter Try.func157, Try.ntmps157
      go_wp2_with (first | ((with_reducible refine gate_dst (N := 5) rfl ?_); refine Kd.R_lit (Kd.int .i64) _ 3 ?hg (N := 5) ?hd (xs := ([] : List Int)) (inner := []) (ok := fun _ => True) (okp := fun _ => True) ?hr ?hp (fun _ hk => hk) trivial (Below.refl _ _) (Nat.le_refl _) (by simp) ?_; (case hd => rfl); (case hg => rfl); (case hr => first | (go_simp; done) | (go_simp; rfl)); (case hp => exact (Reps.none _ _)); intro v216 w4 ho5 hb hg_ hnew_; clear hg_ hnew_; (first | rw [← Ny215.out] at ho5 | (simp only [Int.reduceToNat] at ho5; rw [← Ny215.out] at ho5)); have n0_ := Rl ho5 HB; have n1_ := Bb HB hb; clear HB; revert n0_ n1_; intro HO217 HB; clear hb ho5) | ((with_reducible refine gate_builtin (b := .append) (xs := #[.tmp 5, .tmp 6]) rfl ?_); at_builtin; refine Kd.R_append_rows (Kd.int .i64) (w0 := w) w.heap.size rfl (.tmp 5) (.tmp 6) 24 3 (.int .i64 0) 8 rfl Try.underlying24 info3 rfl (by decide) (by omega) v216 y215 l0 _ _ _ (fun _ => True) (fun _ => False) rfl rfl ?aO ?aR (fun _ _ h => h) (fun _ h => h.elim) ?aF ?aB ?aS ?aL ?_; (case aR => repeat (first | exact (Kd.C_below HR0.out HB.out) | (with_reducible refine Kd.C_alloc ?_ _) | (with_reducible refine Kd.C_drewN ?_ _) | (with_reducible refine Kd.C_drew ?_))); (case aB => exact (Bz HB.out)); (case aF => exact (fun _ _ => trivial)); (case aO => exact (Rz HO217.out)); (case aS => exact (below_size (Bz HB.out))); (case aL => have := LMc3.out; omega); intro v219 w6 ho hb hg hat; rw [← Ny218.out] at ho; have n0_ := am (hb); have n1_ := am (ho); clear HB HO217; revert n0_ n1_; intro HB HO220; clear ho hb hg hat))
      go_ret
      exact ⟨_, eZ, Rz HO220.out, Bz HB.out⟩
    · rw [if_neg c3] at H
      exact absurd H (by simp)

def impl_cloneCounting.f (a0_0 : Int) (a0_1 : Int) (l0_2 : List Int) : Option (Int × Int × List Int) := (slices_Clone_int_int.f l0_2).bind fun t223 => (some (a0_0, a0_1, t223))
def impl_cloneCounting.T1 : Bool × List (List Nat × List Nat) := (true, [([], []), ([0], [0]), ([], []), ([2], [2]), ([], []), ([4], [4]), ([5], [5]), ([1, 3, 6], [1, 3, 6]), ([7, 6, 0, 1, 2, 3, 4, 5, 6, 7], [7])])
def impl_cloneCounting.B1 : List Nat := [0, 1, 0, 4, 0, 16, 48, 127, 255]
theorem impl_cloneCounting.tab1 : rtab .any (opsOf Try.f112 1) = impl_cloneCounting.T1 := by kernel_rfl
theorem impl_cloneCounting.bits1 : waitsOk impl_cloneCounting.T1.2 impl_cloneCounting.B1 = true := by kernel_rfl
theorem impl_cloneCounting.calls (a0_0 : Int) (a0_1 : Int) (A0_2 : Option Addr) (c0_2 : Nat) (l0_2 : List Int) (r1 : Int) (r2 : Int) (r3 : List Int) (w : World) (hr0_2 : Kd.C (Kd.int .i64) w A0_2 l0_2.length l0_2) (hc0_2 : l0_2.length ≤ c0_2) (h : impl_cloneCounting.f a0_0 a0_1 l0_2 = some (r1, r2, r3)) :
    Calls Try.prog 112 #[.agg #[.int .i64 a0_0, .int .i64 a0_1, .slice A0_2 l0_2.length c0_2]] w fun e w' => ∃ v2_ : Value, e = .returned (.agg #[.int .i64 r1, .int .i64 r2, v2_]) ∧ Kd.R (Kd.int .i64) 3 w' w.heap.size (fun _ => True) v2_ r3 ∧ Below w.heap.size w w' := by
  have hu49 := Try.underlying49; have HR0_2 := am hr0_2; have HC0_2 := am hc0_2; clear hr0_2 hc0_2; have HB := am (Below.refl w.heap.size w); have H : ((slices_Clone_int_int.f l0_2).bind fun t223 => (some (a0_0, a0_1, t223))) = some (r1, r2, r3) := h; clear h; replace H := Option.bind_eq_some_iff.mp H; obtain ⟨t223, A20, H⟩ := H; (try dsimp -simprocs only at H); have A2 := am A20; clear A20
  simp only [Option.some.injEq, Prod.mk.injEq] at H
  obtain ⟨rfl, rfl, rfl⟩ := H
  go_enter Try.func112, Try.ntmps112
  try go_wp2_with (first | ((with_reducible refine gate_dst (N := 1) rfl ?_); refine bE 1 #[.int .i64 a0_0, .int .i64 a0_1, .slice A0_2 l0_2.length c0_2] 49 ?_; intro gb221 hg w3 hbox hb; have n0_ := Bb HB hb; have n1_ := am (hbox); have n2_ := Gl HB hg; have n3_ := Gl HB hg; clear HB; revert n0_ n1_ n2_ n3_; intro HB BK221 GW221 GE221; clear hb hbox hg) | ((with_reducible refine gate_dst (N := 2) rfl ?_); refine bE 2 #[.int .i64 0, .int .i64 0, .slice none 0 0] 49 ?_; intro gb222 hg w4 hbox hb; have n0_ := Kb BK221 hb; have n1_ := Bc HB hb; have n2_ := am (hbox); have n3_ := Gm HB hg; have n4_ := Gm HB hg; have n5_ := Nl BK221 hg; have n6_ := Ng BK221 hg; clear BK221 HB; revert n0_ n1_ n2_ n3_ n4_ n5_ n6_; intro BK221 HB BK222 GW222 GE222 NB221_222 NB222_221; clear hb hbox hg))
  have n0_ := am (blk_drew BK221.out); have n1_ := am (blk_drew BK222.out); have n2_ := am (below_drew1 HB.out); clear BK221 BK222 HB; revert n0_ n1_ n2_; intro BK221 BK222 HB; refine start_ (n := 9) (S := fun w' => w'.cell? ⟨gb221, 0, none⟩ = some (.int .i64 a0_0) ∧ w'.cell? ⟨gb221, 1, none⟩ = some (.int .i64 a0_1) ∧ w'.cell? ⟨gb221, 2, none⟩ = some (.slice A0_2 l0_2.length c0_2)) (ds := []) (bA 9 0) (by kernel_rfl) rfl rfl ⟨cz BK221 0, cz BK221 1, cz BK221 2⟩ (fun hHeld => ?_); refine with_tabW impl_cloneCounting.tab1 impl_cloneCounting.bits1 (fun HT_ HW_ => ?_); generalize w4.drew = w5 at BK221 BK222 HB hHeld ⊢; refine pure_ (i := 0) (N := some 3) (v := ?_) (a' := ?_) (bA 9 1) rfl rfl (any_of HT_.out (by kernel_rfl)) (fun _ _ _ h => h) (Or.inl ⟨by rfl, ?_⟩) ?_ ?_
  rotate_left
  · intro w'
    go_simp
    with_reducible rfl
  rotate_left
  · simp only [aP, i64_w, i32_w]
    rfl
  refine pure_ (i := 2) (N := some 5) (v := ?_) (a' := ?_) (bA 9 5) rfl rfl (any_of HT_.out (by kernel_rfl)) (fun _ _ _ h => h) (Or.inl ⟨by rfl, ?_⟩) ?_ ?_
  rotate_left
  · intro w'
    go_simp
    with_reducible rfl
  rotate_left
  · simp only [aP, i64_w, i32_w]
    rfl
  refine pure_ (i := 4) (N := some 7) (v := ?_) (a' := ?_) (bA 9 21) rfl rfl (any_of HT_.out (by kernel_rfl)) (fun _ _ _ h => h) (Or.inl ⟨by rfl, ?_⟩) ?_ ?_
  rotate_left
  · intro w'
    go_simp
    with_reducible rfl
  rotate_left
  · simp only [aP, i64_w, i32_w]
    rfl
  refine take_ (i := 1) (N := some 4) (v := ?_) (a' := ?_) (bA 9 23) rfl rfl (take_ofW HT_.out HW_.out (by kernel_rfl)) (fun _ _ _ h => h) (Or.inl ⟨by rfl, ?_⟩) hHeld ?_ ?_
  rotate_left
  · rintro w' ⟨s0, s1, s2⟩
    go_simp
    with_reducible rfl
  rotate_left
  · simp only [aP, i64_w, i32_w]
    rfl
  refine take_ (i := 3) (N := some 6) (v := ?_) (a' := ?_) (bA 9 31) rfl rfl (take_ofW HT_.out HW_.out (by kernel_rfl)) (fun _ _ _ h => h) (Or.inl ⟨by rfl, ?_⟩) hHeld ?_ ?_
  rotate_left
  · rintro w' ⟨s0, s1, s2⟩
    go_simp
    with_reducible rfl
  rotate_left
  · simp only [aP, i64_w, i32_w]
    rfl
  refine take_ (i := 5) (N := some 8) (v := ?_) (a' := ?_) (bA 9 63) rfl rfl (take_ofW HT_.out HW_.out (by kernel_rfl)) (fun _ _ _ h => h) (Or.inl ⟨by rfl, ?_⟩) hHeld ?_ ?_
  rotate_left
  · rintro w' ⟨s0, s1, s2⟩
    go_simp
    with_reducible rfl
  rotate_left
  · simp only [aP, i64_w, i32_w]
    rfl
  refine oZ 6 (some 9) (bA 9 127) HT_.out (fun K hK => ?_); refine gZ Try.func157 #[.slice A0_2 l0_2.length c0_2] ?_
  with_reducible refine (slices_Clone_int_int.calls _ _ l0_2 t223 _ ?side1 ?side2 A2.out).mono ?_
  (case side1 => exact Cz (Kd.C_below HR0_2.out HB.out))
  (case side2 => exact HC0_2.out)
  rintro e w6 ⟨v224, rfl, ho0, hb⟩; refine ⟨_, rfl, ?_⟩; have n0_ := Rm ho0 HB; have n1_ := Kb BK221 hb; have n2_ := Kb BK222 hb; have n3_ := Bc HB hb; clear BK221 BK222 HB; revert n0_ n1_ n2_ n3_; intro HO225 BK221 BK222 HB
  (try clear hb)
  (try clear hb2)
  (try clear hk)
  (try clear hi)
  (try clear ho0)
  obtain ⟨Ao7, co7, eo7⟩ := Kd.R_slice HO225.out
  (first | subst eo7 | (injection eo7 with f1_ f2_ f3_; have f4_ := f1_.symm; have f5_ := f3_.symm; clear f1_ f2_ f3_; subst f4_; subst f5_))
  refine hK.out _ _ ⟨cz BK221 0, cz BK221 1, cz BK221 2⟩ (fun hHeld => ?_); clear hK K; refine norm_ (a' := ?_) ?_ ?_
  rotate_left
  · show Act.put _ (some 9) _ = _
    simp only [aP, i64_w, i32_w]
    rfl
  refine pure_ (i := 7) (N := some 10) (v := ?_) (a' := ?_) (bA 9 255) rfl rfl (any_of HT_.out (by kernel_rfl)) (fun _ _ _ h => h) (Or.inl ⟨by rfl, ?_⟩) ?_ ?_
  rotate_left
  · intro w'
    go_simp
    with_reducible rfl
  rotate_left
  · simp only [aP, i64_w, i32_w]
    rfl
  refine oZ 8 none (bA 9 511) HT_.out (fun K hK => ?_); have hs8 : w6.cell? ⟨gb222, 0, none⟩ = some (.int .i64 0) := cz BK222 0; have hfs8 := blk_frozen BK222.out 0; have hns8_0 := NB221_222.out; have hms8_0 := NB222_221.out; have hs9 : w6.cell? ⟨gb222, 1, none⟩ = some (.int .i64 0) := cz BK222 1; have hfs9 := blk_frozen BK222.out 1; have hns9_0 := NB221_222.out; have hms9_0 := NB222_221.out; have hs10 : w6.cell? ⟨gb222, 2, none⟩ = some (.slice none 0 0) := cz BK222 2; have hfs10 := blk_frozen BK222.out 2; have hns10_0 := NB221_222.out; have hms10_0 := NB222_221.out; refine skip_ (w1 := ?_) (by rfl) rfl ?_ ?_
  rotate_left
  · go_simp
    rfl
  refine hK.out _ _ ⟨((cell_far (p := ⟨gb222, _, none⟩) NB221_222.out _).trans (((cell_far (p := ⟨gb222, _, none⟩) NB221_222.out _).trans (((cell_far (p := ⟨gb222, _, none⟩) NB221_222.out _).trans (hHeld.1)))))), ((cell_far (p := ⟨gb222, _, none⟩) NB221_222.out _).trans (((cell_far (p := ⟨gb222, _, none⟩) NB221_222.out _).trans (((cell_far (p := ⟨gb222, _, none⟩) NB221_222.out _).trans (hHeld.2.1)))))), ((cell_far (p := ⟨gb222, _, none⟩) NB221_222.out _).trans (((cell_far (p := ⟨gb222, _, none⟩) NB221_222.out _).trans (((cell_far (p := ⟨gb222, _, none⟩) NB221_222.out _).trans (hHeld.2.2))))))⟩ (fun hHeld => ?_); clear hK K; refine done_ (done_of HT_.out (by kernel_rfl)) ?_
  try go_wp2
  refine bodyPost_ret (results_cell_row rfl _ _ gb222 49 #[.int .i64 a0_0, .int .i64 a0_1, .slice Ao7 t223.length co7] (0, 0) _ rfl (by (with_reducible repeat (first | refine blk_drewN ?_ _ | refine blk_drew ?_ | refine blk_alloc ?_ _)); refine blk_put (cs := #[.int .i64 a0_0, .int .i64 a0_1, .slice none 0 0]) ?_ 2 _ rfl; (with_reducible repeat (first | refine blk_drewN ?_ _ | refine blk_drew ?_ | refine blk_alloc ?_ _)); refine blk_put (cs := #[.int .i64 a0_0, .int .i64 0, .slice none 0 0]) ?_ 1 _ rfl; (with_reducible repeat (first | refine blk_drewN ?_ _ | refine blk_drew ?_ | refine blk_alloc ?_ _)); refine blk_put (cs := #[.int .i64 0, .int .i64 0, .slice none 0 0]) ?_ 0 _ rfl; exact Kz BK222.out) Try.underlying49 rfl (by kernel_rfl)) rfl ?_; exact ⟨_, eZ, Rz (Kd.R_mono (Kd.R_far (p := ⟨gb222, 2, none⟩) (Kd.R_far (p := ⟨gb222, 1, none⟩) (Kd.R_far (p := ⟨gb222, 0, none⟩) (Kd.R_types HO225.out BK222.out (by decide)) (fun _ hk => hk.2) (.int .i64 a0_0)) (fun _ hk => hk.2) (.int .i64 a0_1)) (fun _ hk => hk.2) (.slice Ao7 t223.length co7)) (fun _ hk => trivial)), Bq⟩

def impl_words.f (a0 : Int) : Option (Int) := some (wrap64 (Int.tdiv (wrap64 ((wrap64 (a0 + 16)) - 1)) 16))
theorem impl_words.calls (a0 : Int) (r : Int) (w : World) (h : impl_words.f a0 = some r) :
    Calls Try.prog 178 #[.int .i64 a0] w fun e w' => e = .returned (.int .i64 r) ∧ Drawn0 w w' := by
  have H : (some (wrap64 (Int.tdiv (wrap64 ((wrap64 (a0 + 16)) - 1)) 16))) = some r := h; clear h; obtain rfl := Option.some.inj H
  go_enter Try.func178, Try.ntmps178
  go_wp2
  go_ret
  exact ⟨by first | rfl | (simp; done) | (simp [*]; done), by repeat (first | exact Drawn0.refl _ | apply Drawn0.step)⟩

def impl_blank.f (a0 : Int) : Option (Int × List Int) := (impl_words.f a0).bind fun t227 => (if 0 ≤ t227 then (if (t227 : Int).toNat ≤ 35184372088832 then (some (a0, (List.replicate (t227 : Int).toNat 0))) else (none)) else (none))
theorem impl_blank.calls (a0 : Int) (r1 : Int) (r2 : List Int) (w : World) (h : impl_blank.f a0 = some (r1, r2)) :
    Calls Try.prog 139 #[.int .i64 a0] w fun e w' => ∃ v1_ : Value, e = .returned (.agg #[.int .i64 r1, v1_]) ∧ Kd.R (Kd.int .i64) 3 w' w.heap.size (fun _ => True) v1_ r2 ∧ Below w.heap.size w w' := by
  have hu26 := Try.underlying26; have HB := am (Below.refl w.heap.size w); have H : ((impl_words.f a0).bind fun t227 => (if 0 ≤ t227 then (if (t227 : Int).toNat ≤ 35184372088832 then (some (a0, (List.replicate (t227 : Int).toNat 0))) else (none)) else (none))) = some (r1, r2) := h; clear h; replace H := Option.bind_eq_some_iff.mp H; obtain ⟨t227, A20, H⟩ := H; (try dsimp -simprocs only at H); have A2 := am A20; clear A20
  by_cases c3 : 0 ≤ t227
  · rw [if_pos c3] at H
    have c3b0 := eq_true c3; have c3b1 : decide (0 ≤ t227) = true := decide_eq_true c3; clear c3
    by_cases c4 : (t227 : Int).toNat ≤ 35184372088832
    · rw [if_pos c4] at H
      have c4b0 := eq_true c4; have c4b1 : decide ((t227 : Int).toNat ≤ 35184372088832) = true := decide_eq_true c4; clear c4; obtain ⟨y228, hy228⟩ : ∃ y_ : List Int, y_ = (List.replicate (t227 : Int).toNat 0) := ⟨_, rfl⟩
      replace H : (some (a0, y228)) = some (r1, r2) := by first | (rw [hy228]; with_reducible exact H) | (have H2_ := (Option.bind_some _ _).symm.trans H; rw [hy228]; with_reducible exact H2_) | (have H2_ := (Option.bind_some _ _).symm.trans H; with_reducible exact H2_) | with_reducible exact H | (rw [hy228]; exact H) | exact H
      have Ny228 := am hy228; clear hy228
      simp only [Option.some.injEq, Prod.mk.injEq] at H
      obtain ⟨rfl, rfl⟩ := H
      go_enter Try.func139, Try.ntmps139
      go_wp2_with (first | ((with_reducible refine gate_dst (N := 2) rfl ?_); refine bE 2 #[.int .i64 0, .slice none 0 0] 26 ?_; intro gb226 hg w5 hbox hb; have n0_ := Bb HB hb; have n1_ := am (hbox); have n2_ := Gl HB hg; have n3_ := Gl HB hg; clear HB; revert n0_ n1_ n2_ n3_; intro HB BK226 GW226 GE226; clear hb hbox hg) | ((with_reducible refine gate_callee (f := 178) rfl ?_); refine gL (some 5) Try.func178 #[.int .i64 a0] ?_; (with_reducible refine (impl_words.calls a0 t227 _ A2.out).mono ?_); rintro e w' ⟨rfl, ⟨nd, rfl⟩⟩; refine ⟨_, rfl, ?_⟩; (try (rw [drewN_self w5]; generalize hq_ : World.drewN w5 _ = w5; have n0_ : Aside0 (w5.heap[gb226]? = some (.cells #[.int .i64 0, .slice none 0 0] 26 (0, 0))) := ⟨by rw [← hq_]; exact (Kz BK226.out)⟩; have n1_ : Aside0 (Below w.heap.size w w5) := ⟨by rw [← hq_]; exact (Bq)⟩; clear BK226 HB hq_; revert n0_ n1_; intro BK226 HB))) | ((with_reducible refine gate_dst (N := 6) rfl ?_); refine Kd.R_make (Kd.int .i64) _ 3 rfl (N := 6) rfl 24 _ _ rfl t227 rfl rfl Try.underlying24 (.int .i64 0) 8 info3 rfl (by decide) (by omega) 0 (ok := fun _ => True) (okp := fun _ => True) rfl (fun _ hk => hk) trivial (dT) (Nat.le_trans (Nat.mul_le_mul_right _ (dT : t227.toNat ≤ 35184372088832)) (by omega)) (Below.refl _ _) (Nat.le_refl _) ?_; intro v229 w6 ho7 hb hg_ hnew_; clear hg_ hnew_; (first | rw [← Ny228.out] at ho7 | (simp only [Int.reduceToNat] at ho7; rw [← Ny228.out] at ho7)); have n0_ := Rm ho7 HB; have n1_ := Kb BK226 hb; have n2_ := Bc HB hb; clear BK226 HB; revert n0_ n1_ n2_; intro HO230 BK226 HB; clear hb ho7; obtain ⟨Ao8, co8, eo8⟩ := Kd.R_slice HO230.out; subst eo8; obtain ⟨hcz9_0, hcz9_1, hfz9_0, hfz9_1⟩ := cf2 (w := w6) BK226))
      refine bodyPost_ret (results_cell_row rfl _ _ gb226 26 #[.int .i64 a0, .slice Ao8 y228.length co8] (0, 0) _ rfl (by (with_reducible repeat (first | refine blk_drewN ?_ _ | refine blk_drew ?_ | refine blk_alloc ?_ _)); refine blk_put (cs := #[.int .i64 a0, .slice none 0 0]) ?_ 1 _ rfl; (with_reducible repeat (first | refine blk_drewN ?_ _ | refine blk_drew ?_ | refine blk_alloc ?_ _)); refine blk_put (cs := #[.int .i64 0, .slice none 0 0]) ?_ 0 _ rfl; exact Kz BK226.out) Try.underlying26 rfl (by kernel_rfl)) rfl ?_; exact ⟨_, eZ, Rz (Kd.R_mono (Kd.R_far (p := ⟨gb226, 1, none⟩) (Kd.R_far (p := ⟨gb226, 0, none⟩) (Kd.R_types HO230.out BK226.out (by decide)) (fun _ hk => hk.2) (.int .i64 a0)) (fun _ hk => hk.2) (.slice Ao8 y228.length co8)) (fun _ hk => trivial)), Bq⟩
    · rw [if_neg c4] at H
      exact absurd H (by simp)
  · rw [if_neg c3] at H
    exact absurd H (by simp)

def impl_Bits_set.f (a0_0 : Int) (l0_1 : List Int) (a1 : Int) (a2 : Bool) : Option (List Int) := if 0 ≤ (wrap64 (Int.tdiv a1 16)) then (if (wrap64 (Int.tdiv a1 16)) < (l0_1.length : Int) then (if 0 ≤ (Int.tmod a1 16) then ((some (l0_1.set ((wrap64 (Int.tdiv a1 16)) : Int).toNat (Go.bits .andNot .i64 (rd l0_1 (wrap64 (Int.tdiv a1 16))) (shl .i64 1 (Int.tmod a1 16))) : List Int)).bind fun y232 => (if a2 = true then (some (y232.set ((wrap64 (Int.tdiv a1 16)) : Int).toNat (Go.bits .or .i64 (rd y232 (wrap64 (Int.tdiv a1 16))) (shl .i64 1 (Int.tmod a1 16))))) else (some y232))) else (none)) else (none)) else (none)
def impl_Bits_set.T0 : Bool × List (List Nat × List Nat) := (true, [([], []), ([0], [0]), ([1], [1]), ([2], [2]), ([], []), ([4], [4]), ([3, 5], [3, 5]), ([6], [6]), ([], []), ([8], [8]), ([9], [9]), ([7, 10], [7, 10]), ([3, 5, 0, 1, 2, 3, 4, 5, 6, 7, 8, 9, 10, 11], [3, 5]), ([12, 11, 0, 1, 2, 3, 4, 5, 6, 7, 8, 9, 10, 11], [11, 12])])
def impl_Bits_set.B0 : List Nat := [0, 1, 3, 7, 0, 16, 63, 127, 0, 256, 768, 2047, 4095, 8191]
theorem impl_Bits_set.tab0 : rtab .any (opsOf Try.f155 0) = impl_Bits_set.T0 := by kernel_rfl
theorem impl_Bits_set.bits0 : waitsOk impl_Bits_set.T0.2 impl_Bits_set.B0 = true := by kernel_rfl
def impl_Bits_set.T2 : Bool × List (List Nat × List Nat) := (true, [([], []), ([0], [0]), ([1], [1]), ([2], [2]), ([], []), ([4], [4]), ([3, 5], [3, 5]), ([6], [6]), ([], []), ([8], [8]), ([9], [9]), ([7, 10], [7, 10]), ([3, 5, 0, 1, 2, 3, 4, 5, 6, 7, 8, 9, 10, 11], [3, 5]), ([12, 11, 0, 1, 2, 3, 4, 5, 6, 7, 8, 9, 10, 11], [11, 12])])
def impl_Bits_set.B2 : List Nat := [0, 1, 3, 7, 0, 16, 63, 127, 0, 256, 768, 2047, 4095, 8191]
theorem impl_Bits_set.tab2 : rtab .any (opsOf Try.f155 2) = impl_Bits_set.T2 := by kernel_rfl
theorem impl_Bits_set.bits2 : waitsOk impl_Bits_set.T2.2 impl_Bits_set.B2 = true := by kernel_rfl
theorem impl_Bits_set.calls (g0 : Nat) (a0_0 : Int) (P0_1_ : Nat → Prop) (u9000_ : Value) (l0_1 : List Int) (a1 : Int) (a2 : Bool) (r : List Int) (w0 w : World) (hB : Below w0.heap.size w0 w) (hb0 : w.heap[g0]? = some (.cells #[.int .i64 a0_0, u9000_] 26 (0, 0))) (ho0_1 : Kd.R (Kd.int .i64) 3 w w0.heap.size P0_1_ u9000_ l0_1) (h : impl_Bits_set.f a0_0 l0_1 a1 a2 = some r) :
    Calls Try.prog 155 #[.pointer (some ⟨g0, 0, none⟩), .int .i64 a1, .bool a2] w fun e w' => e = .returned (.tuple #[]) ∧ Kd.R (Kd.int .i64) 3 w' w0.heap.size (fun k_ => (P0_1_ k_ ∨ w.heap.size ≤ k_)) u9000_ r ∧ Below w0.heap.size w0 w' ∧ Kept w w' (fun k_ => P0_1_ k_) := by
  have HO0_1 := am (show Kd.R (Kd.int .i64) 3 w w0.heap.size (fun k_ => (P0_1_ k_ ∨ w.heap.size ≤ k_)) u9000_ l0_1 from Kd.R_mono ho0_1 (fun k_ hk => (.inl hk))); have HK := am (Kept.refl w (fun k_ => P0_1_ k_)); have BK0 := am hb0; clear hb0; have HW0 := am hB.size; have HB := am hB; clear hB; have H : (if 0 ≤ (wrap64 (Int.tdiv a1 16)) then (if (wrap64 (Int.tdiv a1 16)) < (l0_1.length : Int) then (if 0 ≤ (Int.tmod a1 16) then ((some (l0_1.set ((wrap64 (Int.tdiv a1 16)) : Int).toNat (Go.bits .andNot .i64 (rd l0_1 (wrap64 (Int.tdiv a1 16))) (shl .i64 1 (Int.tmod a1 16))) : List Int)).bind fun y232 => (if a2 = true then (some (y232.set ((wrap64 (Int.tdiv a1 16)) : Int).toNat (Go.bits .or .i64 (rd y232 (wrap64 (Int.tdiv a1 16))) (shl .i64 1 (Int.tmod a1 16))))) else (some y232))) else (none)) else (none)) else (none)) = some r := h; clear h; obtain ⟨ji4, hji4⟩ : ∃ j_ : Int, (wrap64 (Int.tdiv a1 16)) = j_ := ⟨_, rfl⟩
  replace H : (if 0 ≤ (ji4) then (if (ji4) < (l0_1.length : Int) then (if 0 ≤ (Int.tmod a1 16) then ((some (l0_1.set ((ji4) : Int).toNat (Go.bits .andNot .i64 (rd l0_1 (ji4)) (shl .i64 1 (Int.tmod a1 16))) : List Int)).bind fun y232 => (if a2 = true then (some (y232.set ((ji4) : Int).toNat (Go.bits .or .i64 (rd y232 (ji4)) (shl .i64 1 (Int.tmod a1 16))))) else (some y232))) else (none)) else (none)) else (none)) = some r := by first | (rw [hji4] at H; exact H) | (simp only [hji4] at H ⊢; exact H)
  have hji4w : (IntKind.i64.wrap (Int.tdiv a1 16)) = ji4 := (i64_w _).trans hji4
  by_cases c5 : 0 ≤ (ji4)
  · rw [if_pos c5] at H
    have c5b0 : decide (0 ≤ (ji4)) = true := decide_eq_true c5; clear c5
    by_cases c6 : (ji4) < (l0_1.length : Int)
    · rw [if_pos c6] at H
      have c6b0 : decide ((ji4) < (l0_1.length : Int)) = true := decide_eq_true c6; clear c6; obtain ⟨ji7, hji7⟩ : ∃ j_ : Int, (Int.tmod a1 16) = j_ := ⟨_, rfl⟩
      replace H : (if 0 ≤ (ji7) then ((some (l0_1.set ((ji4) : Int).toNat (Go.bits .andNot .i64 (rd l0_1 (ji4)) (shl .i64 1 (ji7))) : List Int)).bind fun y232 => (if a2 = true then (some (y232.set ((ji4) : Int).toNat (Go.bits .or .i64 (rd y232 (ji4)) (shl .i64 1 (ji7))))) else (some y232))) else (none)) = some r := by first | (rw [hji7] at H; exact H) | (simp only [hji7] at H ⊢; exact H)
      by_cases c8 : 0 ≤ (ji7)
      · rw [if_pos c8] at H
        have c8b0 := eq_true c8; have c8b1 : decide (0 ≤ (ji7)) = true := decide_eq_true c8; clear c8; obtain ⟨ji9, hji9⟩ : ∃ j_ : Int, (shl .i64 1 (ji7)) = j_ := ⟨_, rfl⟩
        replace H : ((some (l0_1.set ((ji4) : Int).toNat (Go.bits .andNot .i64 (rd l0_1 (ji4)) (ji9)) : List Int)).bind fun y232 => (if a2 = true then (some (y232.set ((ji4) : Int).toNat (Go.bits .or .i64 (rd y232 (ji4)) (ji9)))) else (some y232))) = some r := by first | (rw [hji9] at H; exact H) | (simp only [hji9] at H ⊢; exact H)
        have hji9_ : (IntKind.i64.wrap (1 * 2 ^ min (ji7).toNat 64)) = ji9 := hji9; have hji9z : (ji7) ≤ 64 → (IntKind.i64.wrap (1 * 2 ^ (ji7).toNat)) = ji9 := shl_small hji9
        have hji9u : (IntKind.i64.wrap (2 ^ min (ji7).toNat 64)) = ji9 := by have h_ := hji9_; rw [Int.one_mul] at h_; exact h_
        have hji9v : (ji7) ≤ 64 → (IntKind.i64.wrap (2 ^ (ji7).toNat)) = ji9 := fun hle_ => by have h_ := hji9z hle_; rw [Int.one_mul] at h_; exact h_
        have hji9y : (wrap64 (1 * 2 ^ min (ji7).toNat 64)) = ji9 := (i64_w _).symm.trans hji9_
        have hji9x : (ji7) ≤ 64 → (wrap64 (1 * 2 ^ (ji7).toNat)) = ji9 := fun h_ => (i64_w _).symm.trans (hji9z h_)
        obtain ⟨y232, hy232⟩ : ∃ y_ : List Int, y_ = (l0_1.set ((ji4) : Int).toNat (Go.bits .andNot .i64 (rd l0_1 (ji4)) (ji9))) := ⟨_, rfl⟩
        replace H : (if a2 = true then (some (y232.set ((ji4) : Int).toNat (Go.bits .or .i64 (rd y232 (ji4)) (ji9)))) else (some y232)) = some r := by first | (rw [hy232]; with_reducible exact H) | (have H2_ := (Option.bind_some _ _).symm.trans H; rw [hy232]; with_reducible exact H2_) | (have H2_ := (Option.bind_some _ _).symm.trans H; with_reducible exact H2_) | with_reducible exact H | (rw [hy232]; exact H) | exact H
        have Ny232 := am hy232; clear hy232
        by_cases c11 : a2 = true
        · subst c11
          rw [if_pos rfl] at H; have c12b0 := eq_true (dT : 0 ≤ (ji7)); obtain ⟨y234, hy234⟩ : ∃ y_ : List Int, y_ = (y232.set ((ji4) : Int).toNat (Go.bits .or .i64 (rd y232 (ji4)) (ji9))) := ⟨_, rfl⟩
          replace H : (some y234) = some r := by first | (rw [hy234]; with_reducible exact H) | (have H2_ := (Option.bind_some _ _).symm.trans H; rw [hy234]; with_reducible exact H2_) | (have H2_ := (Option.bind_some _ _).symm.trans H; with_reducible exact H2_) | with_reducible exact H | (rw [hy234]; exact H) | exact H
          have Ny234 := am hy234; clear hy234; obtain rfl := Option.some.inj H
          go_enter Try.func155, Try.ntmps155
          try go_wp2
          obtain ⟨Ao14, co14, eo14⟩ := Kd.R_slice HO0_1.out; subst eo14; have n0_ := am (Kd.R_drew HO0_1.out); have n1_ := am (blk_drew BK0.out); have n2_ := am (Kept.drew HK.out); have n3_ := am (below_drew1 HB.out); clear HO0_1 BK0 HK HB; revert n0_ n1_ n2_ n3_; intro HO0_1 BK0 HK HB; obtain ⟨ad231, e231, hx231_0⟩ := Kd.at_int (Kd.R_reads' HO0_1.out).2.2 (ji4) dT dT; cases e231; have p231 := eT (0 ≤ ((ji4) : Int)); have q231 := eT ((ji4) < (l0_1.length : Int)); have p10 : 0 ≤ ((ji4) : Int) := dT; have q10 : ((ji4) : Int) < ((l0_1.length : Int) : Int) := dT; obtain ⟨go10, co10, eo10, gb10, gl10, cl10, HG10⟩ := Kd.R_form HO0_1.out (by omega)
          (first | cases eo10 | (injection eo10 with ea_ en_ ec_; (first | subst ea_ | (injection ea_ with ea_; subst ea_)); subst ec_; clear en_))
          have GB10 := am gb10; have GG10 := am HG10; clear gb10 gl10 HG10; have HMgo10 := am (show (P0_1_ go10 ∨ w.heap.size ≤ go10) from (HO0_1.out.1 _ rfl))
          (first | simp only [add_plain] at hx231_0 | skip)
          obtain ⟨hx10_0, hf10_0⟩ := Kd.R_celln 0 HO0_1.out ((ji4) : Int) p10 q10; replace p10 := eq_true p10; replace q10 := eq_true q10; have HP16 := Kd.R_putn HO0_1.out ((ji4) : Int) (Go.bits .andNot .i64 (rd l0_1 (ji4)) (ji9)); rw [← Ny232.out] at HP16; have HQ16 := am HP16; clear HP16; refine start_ (n := 14) (S := fun w' => w'.cell? ⟨g0, 0, none⟩ = some (.int .i64 a0_0) ∧ w'.cell? ⟨g0, 1, none⟩ = some (.slice (some ⟨go10, 0, none⟩) l0_1.length co14) ∧ w'.cell? ⟨go10, ((ji4)).toNat, none⟩ = some (.int .i64 (rd l0_1 (ji4)))) (ds := [13]) (bA 14 0) (by kernel_rfl) rfl rfl ⟨cz BK0 0, cz BK0 1, hx231_0⟩ (fun hHeld => ?_); refine with_tabW impl_Bits_set.tab0 impl_Bits_set.bits0 (fun HT_ HW_ => ?_); generalize w.drew = w15 at HO0_1 BK0 HK HB GG10 HQ16 hf10_0 hx10_0 hx231_0 hHeld ⊢; refine pure_ (i := 0) (N := some 6) (v := ?_) (a' := ?_) (bA 14 1) rfl rfl (any_of HT_.out (by kernel_rfl)) (fun _ _ _ h => h) (Or.inl ⟨by rfl, ?_⟩) ?_ ?_
          rotate_left
          · intro w'
            go_simp
            with_reducible rfl
          rotate_left
          · simp only [aP, i64_w, i32_w]
            rfl
          refine pure_ (i := 1) (N := some 7) (v := ?_) (a' := ?_) (bA 14 3) rfl rfl (any_of HT_.out (by kernel_rfl)) (fun _ _ _ h => h) (Or.inl ⟨by rfl, ?_⟩) ?_ ?_
          rotate_left
          · intro w'
            go_simp
            with_reducible rfl
          rotate_left
          · simp only [aP, i64_w, i32_w]
            rfl
          refine pure_ (i := 2) (N := some 8) (v := ?_) (a' := ?_) (bA 14 7) rfl rfl (any_of HT_.out (by kernel_rfl)) (fun _ _ _ h => h) (Or.inl ⟨by rfl, ?_⟩) ?_ ?_
          rotate_left
          · intro w'
            go_simp
            with_reducible rfl
          rotate_left
          · simp only [aP, i64_w, i32_w]
            rfl
          refine pure_ (i := 4) (N := some 10) (v := ?_) (a' := ?_) (bA 14 23) rfl rfl (any_of HT_.out (by kernel_rfl)) (fun _ _ _ h => h) (Or.inl ⟨by rfl, ?_⟩) ?_ ?_
          rotate_left
          · intro w'
            go_simp
            with_reducible rfl
          rotate_left
          · simp only [aP, i64_w, i32_w]
            rfl
          refine pure_ (i := 5) (N := some 11) (v := ?_) (a' := ?_) (bA 14 55) rfl rfl (any_of HT_.out (by kernel_rfl)) (fun _ _ _ h => h) (Or.inl ⟨by rfl, ?_⟩) ?_ ?_
          rotate_left
          · intro w'
            go_simp
            with_reducible rfl
          rotate_left
          · simp only [aP, i64_w, i32_w]
            rfl
          refine pure_ (i := 8) (N := some 14) (v := ?_) (a' := ?_) (bA 14 311) rfl rfl (any_of HT_.out (by kernel_rfl)) (fun _ _ _ h => h) (Or.inl ⟨by rfl, ?_⟩) ?_ ?_
          rotate_left
          · intro w'
            go_simp
            with_reducible rfl
          rotate_left
          · simp only [aP, i64_w, i32_w]
            rfl
          refine pure_ (i := 9) (N := some 15) (v := ?_) (a' := ?_) (bA 14 823) rfl rfl (any_of HT_.out (by kernel_rfl)) (fun _ _ _ h => h) (Or.inl ⟨by rfl, ?_⟩) ?_ ?_
          rotate_left
          · intro w'
            go_simp
            with_reducible rfl
          rotate_left
          · simp only [aP, i64_w, i32_w]
            rfl
          refine pure_ (i := 10) (N := some 16) (v := ?_) (a' := ?_) (bA 14 1847) rfl rfl (any_of HT_.out (by kernel_rfl)) (fun _ _ _ h => h) (Or.inl ⟨by rfl, ?_⟩) ?_ ?_
          rotate_left
          · intro w'
            go_simp
            with_reducible rfl
          rotate_left
          · simp only [aP, i64_w, i32_w]
            rfl
          refine take_ (i := 3) (N := some 9) (v := ?_) (a' := ?_) (bA 14 1855) rfl rfl (take_ofW HT_.out HW_.out (by kernel_rfl)) (fun _ _ _ h => h) (Or.inl ⟨by rfl, ?_⟩) hHeld ?_ ?_
          rotate_left
          · rintro w' ⟨s0, s1, s2⟩
            go_simp
            with_reducible rfl
          rotate_left
          · simp only [aP, i64_w, i32_w]
            rfl
          refine pure_ (i := 6) (N := some 12) (v := ?_) (a' := ?_) (bA 14 1919) rfl rfl (any_of HT_.out (by kernel_rfl)) (fun _ _ _ h => h) (Or.inl ⟨by rfl, ?_⟩) ?_ ?_
          rotate_left
          · intro w'
            go_simp
            with_reducible rfl
          rotate_left
          · simp only [aP, i64_w, i32_w]
            rfl
          refine take_ (i := 7) (N := some 13) (v := ?_) (a' := ?_) (bA 14 2047) rfl rfl (take_ofW HT_.out HW_.out (by kernel_rfl)) (fun _ _ _ h => h) (Or.inl ⟨by rfl, ?_⟩) hHeld ?_ ?_
          rotate_left
          · rintro w' ⟨s0, s1, s2⟩
            go_simp
            with_reducible rfl
          rotate_left
          · simp only [aP, i64_w, i32_w]
            rfl
          refine pure_ (i := 11) (N := some 17) (v := ?_) (a' := ?_) (bA 14 4095) rfl rfl (any_of HT_.out (by kernel_rfl)) (fun _ _ _ h => h) (Or.inl ⟨by rfl, ?_⟩) ?_ ?_
          rotate_left
          · intro w'
            go_simp
            with_reducible rfl
          rotate_left
          · simp only [aP, i64_w, i32_w]
            rfl
          refine pure_ (i := 12) (N := some 18) (v := ?_) (a' := ?_) (bA 14 8191) rfl rfl (any_of HT_.out (by kernel_rfl)) (fun _ _ _ h => h) (Or.inl ⟨by rfl, ?_⟩) ?_ ?_
          rotate_left
          · intro w'
            go_simp
            with_reducible rfl
          rotate_left
          · simp only [aP, i64_w, i32_w]
            rfl
          refine lZ 13 none (bA 14 16383) HT_.out (fun K hK => ?_); refine skip_ (w1 := ?_) (by rfl) rfl ?_ ?_
          rotate_left
          · go_simp
            rfl
          refine hK.out _ _ ?_; clear hK K; refine done_ (done_of HT_.out (by kernel_rfl)) ?_
          try go_wp2
          have n0_ : Aside0 (Kd.R (Kd.int .i64) 3 (w15.setCell ⟨go10, ((ji4) : Int).toNat, none⟩ (.int .i64 (Go.bits .andNot .i64 (rd l0_1 (ji4)) (ji9)))) w0.heap.size (fun k_ => (P0_1_ k_ ∨ w.heap.size ≤ k_)) (.slice (some ⟨go10, 0, none⟩) l0_1.length co14) y232) := ⟨by first | exact HQ16.out | exact Rz HQ16.out⟩; have n1_ : Aside0 ((w15.setCell ⟨go10, ((ji4) : Int).toNat, none⟩ (.int .i64 (Go.bits .andNot .i64 (rd l0_1 (ji4)) (ji9)))).heap[g0]? = some (.cells #[.int .i64 a0_0, .slice (some ⟨go10, 0, none⟩) l0_1.length co14] 26 (0, 0))) := ⟨by (with_reducible repeat (first | refine blk_drewN ?_ _ | refine blk_drew ?_ | refine blk_alloc ?_ _)); refine blk_far ?_ (by have h_ := Kd.R_ne HO0_1.out BK0.out (by decide); intro e_; exact h_ (by rw [e_]; rfl)) _; (with_reducible repeat (first | refine blk_drewN ?_ _ | refine blk_drew ?_ | refine blk_alloc ?_ _)); exact BK0.out⟩; have n2_ : Aside0 (Kept w (w15.setCell ⟨go10, ((ji4) : Int).toNat, none⟩ (.int .i64 (Go.bits .andNot .i64 (rd l0_1 (ji4)) (ji9)))) (fun k_ => P0_1_ k_)) := ⟨by repeat (first | (with_reducible first | exact HK.out | apply Kept.alloc | apply Kept.drewN | apply Kept.drew | refine Kept.setCell ?_ HMgo10.out _ | refine Kept.setCell ?_ (.inr GW0.out) _) | exact HK.out)⟩; have n3_ : Aside0 (Below w0.heap.size w0 (w15.setCell ⟨go10, ((ji4) : Int).toNat, none⟩ (.int .i64 (Go.bits .andNot .i64 (rd l0_1 (ji4)) (ji9))))) := ⟨Bq⟩
          (try clear HO0_1)
          (try clear BK0)
          (try clear HK)
          (try clear HB)
          generalize (w15.setCell ⟨go10, ((ji4) : Int).toNat, none⟩ (.int .i64 (Go.bits .andNot .i64 (rd l0_1 (ji4)) (ji9)))) = w17 at n0_ n1_ n2_ n3_ ⊢; revert n0_ n1_ n2_ n3_; intro HO0_1 BK0 HK HB; have n0_ := am (Kd.R_drew HO0_1.out); have n1_ := am (blk_drew BK0.out); have n2_ := am (Kept.drew HK.out); have n3_ := am (below_drew1 HB.out); clear HO0_1 BK0 HK HB; revert n0_ n1_ n2_ n3_; intro HO0_1 BK0 HK HB; have p233 : 0 ≤ ((ji4) : Int) := dT; have q233 : (ji4) < (y232.length : Int) := (by have h_ : ((ji4) : Int) < ((l0_1.length : Int) : Int) := dT; first | (have e_ := (Kd.R_reads' HO0_1.out).1; omega) | simpa only [Ny232.out, List.length_set] using h_); have ql233 : (((ji4) : Int) < ((l0_1.length : Int) : Int)) = True := eq_true (dT); obtain ⟨ad233, e233, hx233_0⟩ := Kd.at_int (Kd.R_reads' HO0_1.out).2.2 (ji4) p233 q233; obtain rfl : (⟨go10, 0, none⟩ : Addr) = ad233 := (by injection e233)
          (first | simp only [add_plain] at hx233_0 | simp only [add_at] at hx233_0 | simp only [Addr.add, Nat.zero_add] at hx233_0 | skip)
          replace p233 := eq_true p233; replace q233 := eq_true q233; have p13 : 0 ≤ ((ji4) : Int) := dT; have q13 : ((ji4) : Int) < ((l0_1.length : Int) : Int) := dT; obtain ⟨hx13_0, hf13_0⟩ := Kd.R_celln 0 HO0_1.out ((ji4) : Int) p13 q13; replace p13 := eq_true p13; replace q13 := eq_true q13; have HP19 := Kd.R_putn HO0_1.out ((ji4) : Int) (Go.bits .or .i64 (rd y232 (ji4)) (ji9)); rw [← Ny234.out] at HP19; have HQ19 := am HP19; clear HP19; refine start_ (n := 14) (S := fun w' => w'.cell? ⟨g0, 0, none⟩ = some (.int .i64 a0_0) ∧ w'.cell? ⟨g0, 1, none⟩ = some (.slice (some ⟨go10, 0, none⟩) l0_1.length co14) ∧ w'.cell? ⟨go10, ((ji4)).toNat, none⟩ = some (.int .i64 (rd y232 (ji4)))) (ds := [13]) (bA 14 0) (by kernel_rfl) rfl rfl ⟨cz BK0 0, cz BK0 1, hx233_0⟩ (fun hHeld => ?_); refine with_tabW impl_Bits_set.tab2 impl_Bits_set.bits2 (fun HT_ HW_ => ?_); generalize w17.drew = w18 at HO0_1 BK0 HK HB HQ16 HQ19 hf13_0 hx13_0 hx233_0 hHeld ⊢; refine pure_ (i := 0) (N := some 20) (v := ?_) (a' := ?_) (bA 14 1) rfl rfl (any_of HT_.out (by kernel_rfl)) (fun _ _ _ h => h) (Or.inl ⟨by rfl, ?_⟩) ?_ ?_
          rotate_left
          · intro w'
            go_simp
            with_reducible rfl
          rotate_left
          · simp only [aP, i64_w, i32_w]
            rfl
          refine pure_ (i := 1) (N := some 21) (v := ?_) (a' := ?_) (bA 14 3) rfl rfl (any_of HT_.out (by kernel_rfl)) (fun _ _ _ h => h) (Or.inl ⟨by rfl, ?_⟩) ?_ ?_
          rotate_left
          · intro w'
            go_simp
            with_reducible rfl
          rotate_left
          · simp only [aP, i64_w, i32_w]
            rfl
          refine pure_ (i := 2) (N := some 22) (v := ?_) (a' := ?_) (bA 14 7) rfl rfl (any_of HT_.out (by kernel_rfl)) (fun _ _ _ h => h) (Or.inl ⟨by rfl, ?_⟩) ?_ ?_
          rotate_left
          · intro w'
            go_simp
            with_reducible rfl
          rotate_left
          · simp only [aP, i64_w, i32_w]
            rfl
          refine pure_ (i := 4) (N := some 24) (v := ?_) (a' := ?_) (bA 14 23) rfl rfl (any_of HT_.out (by kernel_rfl)) (fun _ _ _ h => h) (Or.inl ⟨by rfl, ?_⟩) ?_ ?_
          rotate_left
          · intro w'
            go_simp
            with_reducible rfl
          rotate_left
          · simp only [aP, i64_w, i32_w]
            rfl
          refine pure_ (i := 5) (N := some 25) (v := ?_) (a' := ?_) (bA 14 55) rfl rfl (any_of HT_.out (by kernel_rfl)) (fun _ _ _ h => h) (Or.inl ⟨by rfl, ?_⟩) ?_ ?_
          rotate_left
          · intro w'
            go_simp
            with_reducible rfl
          rotate_left
          · simp only [aP, i64_w, i32_w]
            rfl
          refine pure_ (i := 8) (N := some 28) (v := ?_) (a' := ?_) (bA 14 311) rfl rfl (any_of HT_.out (by kernel_rfl)) (fun _ _ _ h => h) (Or.inl ⟨by rfl, ?_⟩) ?_ ?_
          rotate_left
          · intro w'
            go_simp
            with_reducible rfl
          rotate_left
          · simp only [aP, i64_w, i32_w]
            rfl
          refine pure_ (i := 9) (N := some 29) (v := ?_) (a' := ?_) (bA 14 823) rfl rfl (any_of HT_.out (by kernel_rfl)) (fun _ _ _ h => h) (Or.inl ⟨by rfl, ?_⟩) ?_ ?_
          rotate_left
          · intro w'
            go_simp
            with_reducible rfl
          rotate_left
          · simp only [aP, i64_w, i32_w]
            rfl
          refine pure_ (i := 10) (N := some 30) (v := ?_) (a' := ?_) (bA 14 1847) rfl rfl (any_of HT_.out (by kernel_rfl)) (fun _ _ _ h => h) (Or.inl ⟨by rfl, ?_⟩) ?_ ?_
          rotate_left
          · intro w'
            go_simp
            with_reducible rfl
          rotate_left
          · simp only [aP, i64_w, i32_w]
            rfl
          refine take_ (i := 3) (N := some 23) (v := ?_) (a' := ?_) (bA 14 1855) rfl rfl (take_ofW HT_.out HW_.out (by kernel_rfl)) (fun _ _ _ h => h) (Or.inl ⟨by rfl, ?_⟩) hHeld ?_ ?_
          rotate_left
          · rintro w' ⟨s0, s1, s2⟩
            go_simp
            with_reducible rfl
          rotate_left
          · simp only [aP, i64_w, i32_w]
            rfl
          refine pure_ (i := 6) (N := some 26) (v := ?_) (a' := ?_) (bA 14 1919) rfl rfl (any_of HT_.out (by kernel_rfl)) (fun _ _ _ h => h) (Or.inl ⟨by rfl, ?_⟩) ?_ ?_
          rotate_left
          · intro w'
            go_simp
            with_reducible rfl
          rotate_left
          · simp only [aP, i64_w, i32_w]
            rfl
          refine take_ (i := 7) (N := some 27) (v := ?_) (a' := ?_) (bA 14 2047) rfl rfl (take_ofW HT_.out HW_.out (by kernel_rfl)) (fun _ _ _ h => h) (Or.inl ⟨by rfl, ?_⟩) hHeld ?_ ?_
          rotate_left
          · rintro w' ⟨s0, s1, s2⟩
            go_simp
            with_reducible rfl
          rotate_left
          · simp only [aP, i64_w, i32_w]
            rfl
          refine pure_ (i := 11) (N := some 31) (v := ?_) (a' := ?_) (bA 14 4095) rfl rfl (any_of HT_.out (by kernel_rfl)) (fun _ _ _ h => h) (Or.inl ⟨by rfl, ?_⟩) ?_ ?_
          rotate_left
          · intro w'
            go_simp
            with_reducible rfl
          rotate_left
          · simp only [aP, i64_w, i32_w]
            rfl
          refine pure_ (i := 12) (N := some 32) (v := ?_) (a' := ?_) (bA 14 8191) rfl rfl (any_of HT_.out (by kernel_rfl)) (fun _ _ _ h => h) (Or.inl ⟨by rfl, ?_⟩) ?_ ?_
          rotate_left
          · intro w'
            go_simp
            with_reducible rfl
          rotate_left
          · simp only [aP, i64_w, i32_w]
            rfl
          refine lZ 13 none (bA 14 16383) HT_.out (fun K hK => ?_); refine skip_ (w1 := ?_) (by rfl) rfl ?_ ?_
          rotate_left
          · go_simp
            rfl
          refine hK.out _ _ ?_; clear hK K; refine done_ (done_of HT_.out (by kernel_rfl)) ?_
          try go_wp2
          first | go_end0 | ((try simp only [Exit.inBlock, Exit.then]); refine bodyPost_ret (results_none rfl _ _ _) rfl ?_)
          exact ⟨by first | rfl | (simp [errW_none, errW_some] <;> rfl) | (simp only [← hji4, ← hji7, ← hji9]; first | rfl | (simp [errW_none, errW_some] <;> rfl)) | (simp [*, errW_none, errW_some] <;> rfl), Rz HQ19.out, Bq, by repeat (first | (with_reducible first | exact HK.out | apply Kept.alloc | apply Kept.drewN | apply Kept.drew | refine Kept.setCell ?_ HMgo10.out _ | refine Kept.setCell ?_ (.inr GW0.out) _) | exact HK.out)⟩
        · replace c11 := Bool.eq_false_iff.mpr c11
          subst c11
          rw [if_neg (show ¬ (false = true) by decide)] at H; obtain rfl := Option.some.inj H
          go_enter Try.func155, Try.ntmps155
          try go_wp2
          obtain ⟨Ao20, co20, eo20⟩ := Kd.R_slice HO0_1.out; subst eo20; have n0_ := am (Kd.R_drew HO0_1.out); have n1_ := am (blk_drew BK0.out); have n2_ := am (Kept.drew HK.out); have n3_ := am (below_drew1 HB.out); clear HO0_1 BK0 HK HB; revert n0_ n1_ n2_ n3_; intro HO0_1 BK0 HK HB; obtain ⟨ad231, e231, hx231_0⟩ := Kd.at_int (Kd.R_reads' HO0_1.out).2.2 (ji4) dT dT; cases e231; have p231 := eT (0 ≤ ((ji4) : Int)); have q231 := eT ((ji4) < (l0_1.length : Int)); have p10 : 0 ≤ ((ji4) : Int) := dT; have q10 : ((ji4) : Int) < ((l0_1.length : Int) : Int) := dT; obtain ⟨go10, co10, eo10, gb10, gl10, cl10, HG10⟩ := Kd.R_form HO0_1.out (by omega)
          (first | cases eo10 | (injection eo10 with ea_ en_ ec_; (first | subst ea_ | (injection ea_ with ea_; subst ea_)); subst ec_; clear en_))
          have GB10 := am gb10; have GG10 := am HG10; clear gb10 gl10 HG10; have HMgo10 := am (show (P0_1_ go10 ∨ w.heap.size ≤ go10) from (HO0_1.out.1 _ rfl))
          (first | simp only [add_plain] at hx231_0 | skip)
          obtain ⟨hx10_0, hf10_0⟩ := Kd.R_celln 0 HO0_1.out ((ji4) : Int) p10 q10; replace p10 := eq_true p10; replace q10 := eq_true q10; have HP22 := Kd.R_putn HO0_1.out ((ji4) : Int) (Go.bits .andNot .i64 (rd l0_1 (ji4)) (ji9)); rw [← Ny232.out] at HP22; have HQ22 := am HP22; clear HP22; refine start_ (n := 14) (S := fun w' => w'.cell? ⟨g0, 0, none⟩ = some (.int .i64 a0_0) ∧ w'.cell? ⟨g0, 1, none⟩ = some (.slice (some ⟨go10, 0, none⟩) l0_1.length co20) ∧ w'.cell? ⟨go10, ((ji4)).toNat, none⟩ = some (.int .i64 (rd l0_1 (ji4)))) (ds := [13]) (bA 14 0) (by kernel_rfl) rfl rfl ⟨cz BK0 0, cz BK0 1, hx231_0⟩ (fun hHeld => ?_); refine with_tabW impl_Bits_set.tab0 impl_Bits_set.bits0 (fun HT_ HW_ => ?_); generalize w.drew = w21 at HO0_1 BK0 HK HB GG10 HQ22 hf10_0 hx10_0 hx231_0 hHeld ⊢; refine pure_ (i := 0) (N := some 6) (v := ?_) (a' := ?_) (bA 14 1) rfl rfl (any_of HT_.out (by kernel_rfl)) (fun _ _ _ h => h) (Or.inl ⟨by rfl, ?_⟩) ?_ ?_
          rotate_left
          · intro w'
            go_simp
            with_reducible rfl
          rotate_left
          · simp only [aP, i64_w, i32_w]
            rfl
          refine pure_ (i := 1) (N := some 7) (v := ?_) (a' := ?_) (bA 14 3) rfl rfl (any_of HT_.out (by kernel_rfl)) (fun _ _ _ h => h) (Or.inl ⟨by rfl, ?_⟩) ?_ ?_
          rotate_left
          · intro w'
            go_simp
            with_reducible rfl
          rotate_left
          · simp only [aP, i64_w, i32_w]
            rfl
          refine pure_ (i := 2) (N := some 8) (v := ?_) (a' := ?_) (bA 14 7) rfl rfl (any_of HT_.out (by kernel_rfl)) (fun _ _ _ h => h) (Or.inl ⟨by rfl, ?_⟩) ?_ ?_
          rotate_left
          · intro w'
            go_simp
            with_reducible rfl
          rotate_left
          · simp only [aP, i64_w, i32_w]
            rfl
          refine pure_ (i := 4) (N := some 10) (v := ?_) (a' := ?_) (bA 14 23) rfl rfl (any_of HT_.out (by kernel_rfl)) (fun _ _ _ h => h) (Or.inl ⟨by rfl, ?_⟩) ?_ ?_
          rotate_left
          · intro w'
            go_simp
            with_reducible rfl
          rotate_left
          · simp only [aP, i64_w, i32_w]
            rfl
          refine pure_ (i := 5) (N := some 11) (v := ?_) (a' := ?_) (bA 14 55) rfl rfl (any_of HT_.out (by kernel_rfl)) (fun _ _ _ h => h) (Or.inl ⟨by rfl, ?_⟩) ?_ ?_
          rotate_left
          · intro w'
            go_simp
            with_reducible rfl
          rotate_left
          · simp only [aP, i64_w, i32_w]
            rfl
          refine pure_ (i := 8) (N := some 14) (v := ?_) (a' := ?_) (bA 14 311) rfl rfl (any_of HT_.out (by kernel_rfl)) (fun _ _ _ h => h) (Or.inl ⟨by rfl, ?_⟩) ?_ ?_
          rotate_left
          · intro w'
            go_simp
            with_reducible rfl
          rotate_left
          · simp only [aP, i64_w, i32_w]
            rfl
          refine pure_ (i := 9) (N := some 15) (v := ?_) (a' := ?_) (bA 14 823) rfl rfl (any_of HT_.out (by kernel_rfl)) (fun _ _ _ h => h) (Or.inl ⟨by rfl, ?_⟩) ?_ ?_
          rotate_left
          · intro w'
            go_simp
            with_reducible rfl
          rotate_left
          · simp only [aP, i64_w, i32_w]
            rfl
          refine pure_ (i := 10) (N := some 16) (v := ?_) (a' := ?_) (bA 14 1847) rfl rfl (any_of HT_.out (by kernel_rfl)) (fun _ _ _ h => h) (Or.inl ⟨by rfl, ?_⟩) ?_ ?_
          rotate_left
          · intro w'
            go_simp
            with_reducible rfl
          rotate_left
          · simp only [aP, i64_w, i32_w]
            rfl
          refine take_ (i := 3) (N := some 9) (v := ?_) (a' := ?_) (bA 14 1855) rfl rfl (take_ofW HT_.out HW_.out (by kernel_rfl)) (fun _ _ _ h => h) (Or.inl ⟨by rfl, ?_⟩) hHeld ?_ ?_
          rotate_left
          · rintro w' ⟨s0, s1, s2⟩
            go_simp
            with_reducible rfl
          rotate_left
          · simp only [aP, i64_w, i32_w]
            rfl
          refine pure_ (i := 6) (N := some 12) (v := ?_) (a' := ?_) (bA 14 1919) rfl rfl (any_of HT_.out (by kernel_rfl)) (fun _ _ _ h => h) (Or.inl ⟨by rfl, ?_⟩) ?_ ?_
          rotate_left
          · intro w'
            go_simp
            with_reducible rfl
          rotate_left
          · simp only [aP, i64_w, i32_w]
            rfl
          refine take_ (i := 7) (N := some 13) (v := ?_) (a' := ?_) (bA 14 2047) rfl rfl (take_ofW HT_.out HW_.out (by kernel_rfl)) (fun _ _ _ h => h) (Or.inl ⟨by rfl, ?_⟩) hHeld ?_ ?_
          rotate_left
          · rintro w' ⟨s0, s1, s2⟩
            go_simp
            with_reducible rfl
          rotate_left
          · simp only [aP, i64_w, i32_w]
            rfl
          refine pure_ (i := 11) (N := some 17) (v := ?_) (a' := ?_) (bA 14 4095) rfl rfl (any_of HT_.out (by kernel_rfl)) (fun _ _ _ h => h) (Or.inl ⟨by rfl, ?_⟩) ?_ ?_
          rotate_left
          · intro w'
            go_simp
            with_reducible rfl
          rotate_left
          · simp only [aP, i64_w, i32_w]
            rfl
          refine pure_ (i := 12) (N := some 18) (v := ?_) (a' := ?_) (bA 14 8191) rfl rfl (any_of HT_.out (by kernel_rfl)) (fun _ _ _ h => h) (Or.inl ⟨by rfl, ?_⟩) ?_ ?_
          rotate_left
          · intro w'
            go_simp
            with_reducible rfl
          rotate_left
          · simp only [aP, i64_w, i32_w]
            rfl
          refine lZ 13 none (bA 14 16383) HT_.out (fun K hK => ?_); refine skip_ (w1 := ?_) (by rfl) rfl ?_ ?_
          rotate_left
          · go_simp
            rfl
          refine hK.out _ _ ?_; clear hK K; refine done_ (done_of HT_.out (by kernel_rfl)) ?_
          try go_wp2
          first | go_end0 | ((try simp only [Exit.inBlock, Exit.then]); refine bodyPost_ret (results_none rfl _ _ _) rfl ?_)
          exact ⟨by first | rfl | (simp [errW_none, errW_some] <;> rfl) | (simp only [← hji4, ← hji7, ← hji9]; first | rfl | (simp [errW_none, errW_some] <;> rfl)) | (simp [*, errW_none, errW_some] <;> rfl), Rz HQ22.out, Bq, by repeat (first | (with_reducible first | exact HK.out | apply Kept.alloc | apply Kept.drewN | apply Kept.drew | refine Kept.setCell ?_ HMgo10.out _ | refine Kept.setCell ?_ (.inr GW0.out) _) | exact HK.out)⟩
      · rw [if_neg c8] at H
        exact absurd H (by simp)
    · rw [if_neg c6] at H
      exact absurd H (by simp)
  · rw [if_neg c5] at H
    exact absurd H (by simp)

-- NOT PRINTED: function 141 (impl_madeBits)

-- NOT PRINTED: function 163 (impl_Counting_bloom_1)

open Go Go.Maps Go.Proofs.YtpkpjikkfikejaaGp
def impl_Counting_bloom_1.f (a0 : Int) (_ : Int) (_ : Int) (l1_2 : List Int) : Option (Bool) := if 0 ≤ a0 then (if a0 < (l1_2.length : Int) then (some (rd l1_2 a0 != 0)) else none) else none
theorem impl_Counting_bloom_1.calls (a0 : Int) (g1 : Nat) (g2 : Nat) (a1_0 : Int) (a1_1 : Int) (A1_2 : Option Addr) (c1_2 : Nat) (l1_2 : List Int) (r : Bool) (w : World) (hb1 : w.heap[g1]? = some (.cells #[.pointer (some ⟨g2, 0, none⟩)] 152 (0, 0))) (hb2 : w.heap[g2]? = some (.cells #[.int .i64 a1_0, .int .i64 a1_1, .slice A1_2 l1_2.length c1_2] 49 (0, 0))) (hr1_2 : Kd.C (Kd.int .i64) w A1_2 l1_2.length l1_2) (hc1_2 : l1_2.length ≤ c1_2) (h : impl_Counting_bloom_1.f a0 a1_0 a1_1 l1_2 = some r) :
  Calls Try.prog 163 #[.int .i64 a0, .pointer (some ⟨g1, 0, none⟩)] w fun e w' => e = .returned (.bool r) ∧ Drawn0 w w' := by
 have HR1_2 := am hr1_2; have HC1_2 := am hc1_2; clear hr1_2 hc1_2; have BK1 := am hb1; clear hb1; have BK2 := am hb2; clear hb2; have H : (if 0 ≤ a0 then (if a0 < (l1_2.length : Int) then (some (rd l1_2 a0 != 0)) else none) else none) = some r := h; clear h
 by_cases c4 : 0 ≤ a0
 ·rw [if_pos c4] at H
  have c4b0 : decide (0 ≤ a0) = true := decide_eq_true c4; clear c4
  by_cases c5 : a0 < (l1_2.length : Int)
  ·rw [if_pos c5] at H
   have c5b0 : decide (a0 < (l1_2.length : Int)) = true := decide_eq_true c5; clear c5; obtain rfl := Option.some.inj H; obtain ⟨hcz1_0, hfz1_0⟩ := cf1 (w := w) BK1; obtain ⟨hcz2_0, hcz2_1, hcz2_2, hfz2_0, hfz2_1, hfz2_2⟩ := cf3 (w := w) BK2; obtain ⟨ad209, e209, hx209_0⟩ := Kd.at_int HR1_2.out a0 dT dT; cases e209; have p209 := eT (0 ≤ (a0 : Int)); have q209 := eT (a0 < (l1_2.length : Int))
   go_enter Try.func163, Try.ntmps163
   go_wp2
   go_ret
   exact ⟨by first | rfl | (simp; done) | (simp [*]; done), by repeat (first | exact Drawn0.refl _ | apply Drawn0.step)⟩
  ·rw [if_neg c5] at H
   exact absurd H (by simp)
 ·rw [if_neg c4] at H
  exact absurd H (by simp)
def impl_madeBits_at_impl_Counting_bloom_1.l0 : Nat → Int → Int → Int → Int → List Int → Int → List Int → Option (Int × List Int)
 | 0, _, _, _, _, _, _, _ => none
 | k + 1, x9, x10, x4000, x4001, x4002, x666000, x666001 => if x10 < x9 then ((impl_Counting_bloom_1.f x10 x4000 x4001 x4002).bind fun t666 => ((impl_Bits_set.f x666000 x666001 x10 t666).bind fun t667 => (impl_madeBits_at_impl_Counting_bloom_1.l0 k x9 (wrap64 (x10 + 1)) x4000 x4001 x4002 x666000 t667))) else (some (x666000, x666001))
def impl_madeBits_at_impl_Counting_bloom_1.f (k : Nat) (a0 : Int) (a3_0 : Int) (a3_1 : Int) (l3_3 : List Int) : Option (Int × List Int) := (impl_blank.f a0).bind fun bt661 => (impl_madeBits_at_impl_Counting_bloom_1.l0 k a0 0 a3_0 a3_1 l3_3 bt661.1 bt661.2)
theorem impl_madeBits_at_impl_Counting_bloom_1.calls (k : Nat) (a0 : Int)  (g2 : Nat) (g3 : Nat) (a3_0 : Int) (a3_1 : Int) (A3_3 : Option Addr) (c3_3 : Nat) (l3_3 : List Int) (r1 : Int) (r2 : List Int) (w : World) (hb2 : w.heap[g2]? = some (.cells #[.pointer (some ⟨g3, 0, none⟩)] 152 (0, 0))) (hb3 : w.heap[g3]? = some (.cells #[.int .i64 a3_0, .int .i64 a3_1, .slice A3_3 l3_3.length c3_3] 49 (0, 0))) (hr3_3 : Kd.C (Kd.int .i64) w A3_3 l3_3.length l3_3) (hc3_3 : l3_3.length ≤ c3_3) (h : impl_madeBits_at_impl_Counting_bloom_1.f k a0 a3_0 a3_1 l3_3 = some (r1, r2)) :
  Calls Try.prog 141 #[.int .i64 a0, .func (.func 163) #[] #[.pointer (some ⟨g2, 0, none⟩)]] w fun e w' => ∃ v1_ : Value, e = .returned (.agg #[.int .i64 r1, v1_]) ∧ Kd.R (Kd.int .i64) 3 w' w.heap.size (fun _ => True) v1_ r2 ∧ Below w.heap.size w w' := by
 have hu26 := Try.underlying26; have HR3_3 := am hr3_3; have HC3_3 := am hc3_3; clear hr3_3 hc3_3; have BK2 := am hb2; clear hb2; have BK3 := am hb3; clear hb3; have HB := am (Below.refl w.heap.size w); have H : ((impl_blank.f a0).bind fun bt661 => (impl_madeBits_at_impl_Counting_bloom_1.l0 k a0 0 a3_0 a3_1 l3_3 bt661.1 bt661.2)) = some (r1, r2) := h; clear h; replace H := Option.bind_eq_some_iff.mp H; obtain ⟨⟨t661, t662⟩, A50, H⟩ := H; (try dsimp -simprocs only at H); have A5 := am A50; clear A50; have H' := am H; clear H
 go_enter Try.func141, Try.ntmps141
 go_wp2_with (first | ((with_reducible refine gate_dst (N := 4) rfl ?_); refine bE 4 #[.int .i64 0, .slice none 0 0] 26 ?_; intro gb660 hg w6 hbox hb; have n0_ := Kb BK2 hb; have n1_ := Kb BK3 hb; have n2_ := Bc HB hb; have n3_ := am (hbox); have n4_ := Gm HB hg; have n5_ := Gm HB hg; have n6_ := Nl BK2 hg; have n7_ := Ng BK2 hg; have n8_ := Nl BK3 hg; have n9_ := Ng BK3 hg; clear BK2 BK3 HB; revert n0_ n1_ n2_ n3_ n4_ n5_ n6_ n7_ n8_ n9_; intro BK2 BK3 HB BK660 GW660 GE660 NB2_660 NB660_2 NB3_660 NB660_3; clear hb hbox hg) | ((with_reducible refine gate_callee (f := 139) rfl ?_); refine gL (some 8) Try.func139 #[.int .i64 a0] ?_; (with_reducible refine (impl_blank.calls a0 t661 t662 _ A5.out).mono ?_); rintro e w7 ⟨v663, rfl, ho0, hb⟩; refine ⟨_, rfl, ?_⟩; have n0_ := Rm ho0 HB; have n1_ := Kb BK2 hb; have n2_ := Kb BK3 hb; have n3_ := Kb BK660 hb; have n4_ := Bc HB hb; clear BK2 BK3 BK660 HB; revert n0_ n1_ n2_ n3_ n4_; intro HO664 BK2 BK3 BK660 HB; (try clear hb); (try clear hb2); (try clear hk); (try clear hi); (try clear ho0)) | ((with_reducible refine gate_dst (N := 5) rfl ?_); refine bE 5 #[.int .i64 0, .slice none 0 0] 26 ?_; intro gb665 hg w8 hbox hb; have n0_ := Rb HO664 hb; have n1_ := Kb BK2 hb; have n2_ := Kb BK3 hb; have n3_ := Kb BK660 hb; have n4_ := Bc HB hb; have n5_ := am (hbox); have n6_ := Gm HB hg; have n7_ := Gm HB hg; have n8_ := Nl BK2 hg; have n9_ := Ng BK2 hg; have n10_ := Nl BK3 hg; have n11_ := Ng BK3 hg; have n12_ := Nl BK660 hg; have n13_ := Ng BK660 hg; clear HO664 BK2 BK3 BK660 HB; revert n0_ n1_ n2_ n3_ n4_ n5_ n6_ n7_ n8_ n9_ n10_ n11_ n12_ n13_; intro HO664 BK2 BK3 BK660 HB BK665 GW665 GE665 NB2_665 NB665_2 NB3_665 NB665_3 NB660_665 NB665_660; clear hb hbox hg; have hnb9 := NB665_2.out; have hnc9 := NB2_665.out; have hnb10 := NB665_3.out; have hnc10 := NB3_665.out; have hnb11 := NB665_660.out; have hnc11 := NB660_665.out; obtain ⟨hcz12_0, hcz12_1, hfz12_0, hfz12_1⟩ := cf2 (w := w8) BK665; obtain ⟨Ao13, co13, eo13⟩ := Kd.R_slice HO664.out; subst eo13))
 (try simp only [aP])
 go_loopg [10] k (fun kq v10 w' => ∃ (x10_1 : Int) (x666001_1 : List Int) (u666001 : Value), v10 = .int .i64 x10_1 ∧ Aside0 (impl_madeBits_at_impl_Counting_bloom_1.l0 kq a0 x10_1 a3_0 a3_1 l3_3 t661 x666001_1 = some (r1, r2)) ∧ Aside0 (kq ≤ k) ∧ Aside0 (Kd.R (Kd.int .i64) 3 w' w.heap.size (fun _ => True) u666001 x666001_1) ∧ Aside0 (w'.heap[g2]? = some (.cells #[.pointer (some ⟨g3, 0, none⟩)] 152 (0, 0))) ∧ Aside0 (w'.heap[g3]? = some (.cells #[.int .i64 a3_0, .int .i64 a3_1, (.slice A3_3 l3_3.length c3_3)] 49 (0, 0))) ∧ Aside0 (w'.heap[gb660]? = some (.cells #[.int .i64 0, (.slice none 0 0)] 26 (0, 0))) ∧ Aside0 (w'.heap[gb665]? = some (.cells #[.int .i64 t661, u666001] 26 (0, 0))) ∧ Aside0 (Below w.heap.size w w'))
 case atStart => exact ⟨(0), (t662), (.slice Ao13 t662.length co13), wZ, H', ⟨Nat.le_refl _⟩, ⟨Rz (Kd.R_mono (Kd.R_far (p := ⟨gb665, 1, none⟩) (Kd.R_far (p := ⟨gb665, 0, none⟩) (Kd.R_types HO664.out BK665.out (by decide)) (fun _ hk => hk.2) (.int .i64 t661)) (fun _ hk => hk.2) (.slice Ao13 t662.length co13)) (fun _ hk => trivial))⟩, ⟨by (with_reducible repeat (first | refine blk_drewN ?_ _ | refine blk_drew ?_ | refine blk_alloc ?_ _)); refine blk_far ?_ NB2_665.out _; (with_reducible repeat (first | refine blk_drewN ?_ _ | refine blk_drew ?_ | refine blk_alloc ?_ _)); refine blk_far ?_ NB2_665.out _; (with_reducible repeat (first | refine blk_drewN ?_ _ | refine blk_drew ?_ | refine blk_alloc ?_ _)); exact BK2.out⟩, ⟨by (with_reducible repeat (first | refine blk_drewN ?_ _ | refine blk_drew ?_ | refine blk_alloc ?_ _)); refine blk_far ?_ NB3_665.out _; (with_reducible repeat (first | refine blk_drewN ?_ _ | refine blk_drew ?_ | refine blk_alloc ?_ _)); refine blk_far ?_ NB3_665.out _; (with_reducible repeat (first | refine blk_drewN ?_ _ | refine blk_drew ?_ | refine blk_alloc ?_ _)); exact BK3.out⟩, ⟨by (with_reducible repeat (first | refine blk_drewN ?_ _ | refine blk_drew ?_ | refine blk_alloc ?_ _)); refine blk_far ?_ NB660_665.out _; (with_reducible repeat (first | refine blk_drewN ?_ _ | refine blk_drew ?_ | refine blk_alloc ?_ _)); refine blk_far ?_ NB660_665.out _; (with_reducible repeat (first | refine blk_drewN ?_ _ | refine blk_drew ?_ | refine blk_alloc ?_ _)); exact BK660.out⟩, ⟨by (with_reducible repeat (first | refine blk_drewN ?_ _ | refine blk_drew ?_ | refine blk_alloc ?_ _)); refine blk_put (cs := #[.int .i64 t661, .slice none 0 0]) ?_ 1 _ rfl; (with_reducible repeat (first | refine blk_drewN ?_ _ | refine blk_drew ?_ | refine blk_alloc ?_ _)); refine blk_put (cs := #[.int .i64 0, .slice none 0 0]) ?_ 0 _ rfl; (with_reducible repeat (first | refine blk_drewN ?_ _ | refine blk_drew ?_ | refine blk_alloc ?_ _)); exact BK665.out⟩, ⟨Bq⟩⟩
 case round =>
  clear H'
  try clear c1
  try clear c2
  try clear p2
  try clear c3
  try clear c9
  try clear c10
  try clear c11
  try clear c13
  try clear hcz12_0
  try clear hcz12_1
  try clear hfz12_0
  try clear hfz12_1
  obtain ⟨x10_1, x666001_1, u666001, rfl, HA, HK1, HO_666001, BK2, BK3, BK660, BK665, HB⟩ := hrel; cases gk with
  | zero => exact absurd HA.out (by simp [impl_madeBits_at_impl_Counting_bloom_1.l0])
  | succ k1 =>
   have H := HA.out; clear HA
   simp only [impl_madeBits_at_impl_Counting_bloom_1.l0] at H
   by_cases c14 : x10_1 < a0
   ·rw [if_pos c14] at H
    have c14b0 : decide (x10_1 < a0) = true := decide_eq_true c14; clear c14; replace H := Option.bind_eq_some_iff.mp H; obtain ⟨t666, A150, H⟩ := H; (try dsimp -simprocs only at H); have A15 := am A150; clear A150; replace H := Option.bind_eq_some_iff.mp H; obtain ⟨t667, A160, H⟩ := H; (try dsimp -simprocs only at H); have A16 := am A160; clear A160; have H' := am H; clear H
    go_wp2_with (first | (go_at_call 163; (with_reducible refine (impl_Counting_bloom_1.calls x10_1 g2 g3 a3_0 a3_1 A3_3 c3_3 l3_3 t666 _ ?side1 ?side2 ?side3 ?side4 A15.out).mono ?_); (case side1 => exact Kz BK2.out); (case side2 => exact Kz BK3.out); (case side3 => exact Cz (Kd.C_below HR3_3.out HB.out)); (case side4 => exact HC3_3.out); rintro e w' ⟨rfl, ⟨nd, rfl⟩⟩; obtain ⟨Ao17, co17, eo17⟩ := Kd.R_slice HO_666001.out; subst eo17) | ((with_reducible refine gate_callee (f := 155) rfl ?_); refine gL (some 17) Try.func155 #[.pointer (some ⟨gb665, 0, none⟩), .int .i64 x10_1, .bool t666] ?_; (with_reducible refine (impl_Bits_set.calls gb665 t661 (fun k_ => some k_ = (.slice Ao17 x666001_1.length co17 : Value).ownBlock) (.slice Ao17 x666001_1.length co17) x666001_1 x10_1 t666 t667 w _ ?side1 ?side2 ?side3 A16.out).mono ?_); (case side1 => repeat (first | (with_reducible first | exact HB.out | apply below_alloc | apply pw_below_drewN | apply below_drew1 | refine below_set ?_ GE2.out | refine below_set ?_ GE3.out | refine below_set ?_ GE660.out | refine below_set ?_ GE665.out) | exact HB.out)); (case side2 => exact Kz BK665.out); (case side3 => exact Kd.R_tight rfl HO_666001.out); rintro e w18 ⟨rfl, hy0, hb, hkp⟩; refine ⟨_, rfl, ?_⟩; have n0_ := am (Kd.R_reok rfl hy0 (fun k_ e_ => HO_666001.out.1 k_ e_)); have n1_ := am (blk_kept (Kz BK2.out) hkp (fun hs_ => (fun e_ => (Kd.R_ne HO_666001.out BK2.out (by decide)) e_) hs_)); have n2_ := am (blk_kept (Kz BK3.out) hkp (fun hs_ => (fun e_ => (Kd.R_ne HO_666001.out BK3.out (by decide)) e_) hs_)); have n3_ := am (blk_kept (Kz BK660.out) hkp (fun hs_ => (fun e_ => (Kd.R_ne HO_666001.out BK660.out (by decide)) e_) hs_)); have n4_ := am (blk_kept (Kz BK665.out) hkp (fun hs_ => (fun e_ => (Kd.R_ne HO_666001.out BK665.out (by decide)) e_) hs_)); have n5_ := am (hb); clear HO_666001 BK2 BK3 BK660 BK665 HB; revert n0_ n1_ n2_ n3_ n4_ n5_; intro HO_666001 BK2 BK3 BK660 BK665 HB; (try clear hb); (try clear hkp); (try clear hy0)))
    go_roundg k1
    case measure => have := HK1.out; omega
    case rel => exact ⟨(wrap64 (x10_1 + 1)), (t667), (.slice Ao17 x666001_1.length co17), wZ, H', ⟨by have := HK1.out; omega⟩, ⟨Rz HO_666001.out⟩, ⟨Kz BK2.out⟩, ⟨Kz BK3.out⟩, ⟨Kz BK660.out⟩, ⟨Kz BK665.out⟩, ⟨Bq⟩⟩
   ·rw [if_neg c14] at H
    have c14b0 : decide (x10_1 < a0) = false := decide_eq_false c14; clear c14
    simp only [Option.some.injEq, Prod.mk.injEq] at H
    obtain ⟨rfl, rfl⟩ := H; have hnb19 := NB665_2.out; have hnc19 := NB2_665.out; have hnb20 := NB665_3.out; have hnc20 := NB3_665.out; have hnb21 := NB665_660.out; have hnc21 := NB660_665.out; obtain ⟨hcz22_0, hcz22_1, hfz22_0, hfz22_1⟩ := cf2 (w := wr) BK665; have hnb23 := NB660_2.out; have hnc23 := NB2_660.out; have hnb24 := NB660_3.out; have hnc24 := NB3_660.out; obtain ⟨hcz25_0, hcz25_1, hfz25_0, hfz25_1⟩ := cf2 (w := wr) BK660; obtain ⟨Ao26, co26, eo26⟩ := Kd.R_slice HO_666001.out; subst eo26
    go_wp2
    refine bodyPost_ret (results_cell_row rfl _ _ gb660 26 #[.int .i64 t661, .slice Ao26 x666001_1.length co26] (0, 0) _ rfl (by (with_reducible repeat (first | refine blk_drewN ?_ _ | refine blk_drew ?_ | refine blk_alloc ?_ _)); refine blk_put (cs := #[.int .i64 t661, .slice none 0 0]) ?_ 1 _ rfl; (with_reducible repeat (first | refine blk_drewN ?_ _ | refine blk_drew ?_ | refine blk_alloc ?_ _)); refine blk_put (cs := #[.int .i64 0, .slice none 0 0]) ?_ 0 _ rfl; exact Kz BK660.out) Try.underlying26 rfl (by kernel_rfl)) rfl ?_; exact ⟨_, eZ, Rz (Kd.R_mono (Kd.R_far (p := ⟨gb660, 1, none⟩) (Kd.R_far (p := ⟨gb660, 0, none⟩) (Kd.R_types HO_666001.out BK660.out (by decide)) (fun _ hk => hk.2) (.int .i64 t661)) (fun _ hk => hk.2) (.slice Ao26 x666001_1.length co26)) (fun _ hk => trivial)), Bq⟩
def impl_Counting_bloom.f (k : Nat) (a0_0 : Int) (a0_1 : Int) (l0_2 : List Int) : Option (Int × Int × Int × List Int) := (impl_madeBits_at_impl_Counting_bloom_1.f k (l0_2.length : Int) a0_0 a0_1 l0_2).bind fun bt672 => (some (a0_0, a0_1, bt672.1, bt672.2))
def impl_Counting_bloom.T1 : Bool × List (List Nat × List Nat) := (true, [([], []), ([0], [0]), ([1], [1]), ([2], [2]), ([], []), ([4], [4]), ([5], [5]), ([6], [6]), ([], []), ([8], [8]), ([9], [9]), ([10], [10]), ([11], [11]), ([], []), ([12, 13], [12, 13]), ([3, 7, 14], [3, 7, 14]), ([15, 14, 0, 1, 2, 3, 4, 5, 6, 7, 8, 9, 10, 11, 12, 13, 14, 15], [15])])
def impl_Counting_bloom.B1 : List Nat := [0, 1, 3, 7, 0, 16, 48, 112, 0, 256, 768, 1792, 3840, 0, 16128, 32767, 65535]
theorem impl_Counting_bloom.tab1 : rtab .any (opsOf Try.f113 1) = impl_Counting_bloom.T1 := by kernel_rfl
theorem impl_Counting_bloom.bits1 : waitsOk impl_Counting_bloom.T1.2 impl_Counting_bloom.B1 = true := by kernel_rfl
theorem impl_Counting_bloom.calls (k : Nat) (g0 : Nat) (a0_0 : Int) (a0_1 : Int) (A0_2 : Option Addr) (c0_2 : Nat) (l0_2 : List Int) (r1 : Int) (r2 : Int) (r3 : Int) (r4 : List Int) (w : World) (hb0 : w.heap[g0]? = some (.cells #[.int .i64 a0_0, .int .i64 a0_1, .slice A0_2 l0_2.length c0_2] 49 (0, 0))) (hr0_2 : Kd.C (Kd.int .i64) w A0_2 l0_2.length l0_2) (hc0_2 : l0_2.length ≤ c0_2) (h : impl_Counting_bloom.f k a0_0 a0_1 l0_2 = some (r1, r2, r3, r4)) :
  Calls Try.prog 113 #[.pointer (some ⟨g0, 0, none⟩)] w fun e w' => ∃ v3_ : Value, e = .returned (.agg #[.int .i64 r1, .int .i64 r2, .int .i64 r3, v3_]) ∧ Kd.R (Kd.int .i64) 3 w' w.heap.size (fun _ => True) v3_ r4 ∧ Below w.heap.size w w' := by
 have hu28 := Try.underlying28; have hu49 := Try.underlying49; have HR0_2 := am hr0_2; have HC0_2 := am hc0_2; clear hr0_2 hc0_2; have BK0 := am hb0; clear hb0; have HB := am (Below.refl w.heap.size w); have H : ((impl_madeBits_at_impl_Counting_bloom_1.f k (l0_2.length : Int) a0_0 a0_1 l0_2).bind fun bt672 => (some (a0_0, a0_1, bt672.1, bt672.2))) = some (r1, r2, r3, r4) := h; clear h; replace H := Option.bind_eq_some_iff.mp H; obtain ⟨⟨t672, t673⟩, A50, H⟩ := H; (try dsimp -simprocs only at H); have A5 := am A50; clear A50
 simp only [Option.some.injEq, Prod.mk.injEq] at H
 obtain ⟨rfl, rfl, rfl, rfl⟩ := H
 go_enter Try.func113, Try.ntmps113
 try go_wp2_with (first | ((with_reducible refine gate_dst (N := 1) rfl ?_); refine bE 1 #[.pointer (some ⟨g0, 0, none⟩)] 152 ?_; intro gb668 hg w6 hbox hb; have n0_ := Kb BK0 hb; have n1_ := Bb HB hb; have n2_ := am (hbox); have n3_ := Gl HB hg; have n4_ := Gl HB hg; have n5_ := Nl BK0 hg; have n6_ := Ng BK0 hg; clear BK0 HB; revert n0_ n1_ n2_ n3_ n4_ n5_ n6_; intro BK0 HB BK668 GW668 GE668 NB0_668 NB668_0; clear hb hbox hg) | ((with_reducible refine gate_dst (N := 2) rfl ?_); refine bE 2 #[.int .i64 0, .int .i64 0, .int .i64 0, .slice none 0 0] 28 ?_; intro gb670 hg w8 hbox hb; have n0_ := Kb BK0 hb; have n1_ := Kb BK668 hb; have n2_ := Bc HB hb; have n3_ := am (hbox); have n4_ := Gm HB hg; have n5_ := Gm HB hg; have n6_ := Nl BK0 hg; have n7_ := Ng BK0 hg; have n8_ := Nl BK668 hg; have n9_ := Ng BK668 hg; clear BK0 BK668 HB; revert n0_ n1_ n2_ n3_ n4_ n5_ n6_ n7_ n8_ n9_; intro BK0 BK668 HB BK670 GW670 GE670 NB0_670 NB670_0 NB668_670 NB670_668; clear hb hbox hg))
 have n0_ := am (blk_drew BK0.out); have n1_ := am (blk_drew BK668.out); have n2_ := am (blk_drew BK670.out); have n3_ := am (below_drew1 HB.out); clear BK0 BK668 BK670 HB; revert n0_ n1_ n2_ n3_; intro BK0 BK668 BK670 HB; refine start_ (n := 17) (S := fun w' => w'.cell? ⟨gb668, 0, none⟩ = some (.pointer (some ⟨g0, 0, none⟩)) ∧ w'.cell? ⟨g0, 0, none⟩ = some (.int .i64 a0_0) ∧ w'.cell? ⟨g0, 1, none⟩ = some (.int .i64 a0_1) ∧ w'.cell? ⟨g0, 2, none⟩ = some (.slice A0_2 l0_2.length c0_2)) (ds := []) (bA 17 0) (by kernel_rfl) rfl rfl ⟨cz BK668 0, cz BK0 0, cz BK0 1, cz BK0 2⟩ (fun hHeld => ?_); refine with_tabW impl_Counting_bloom.tab1 impl_Counting_bloom.bits1 (fun HT_ HW_ => ?_); generalize w8.drew = w15 at BK0 BK668 BK670 HB hHeld ⊢; refine pZ 13 (some 16) (bA 17 8192) HT_.out ?_; refine tZ4 0 (some 3) (bA 17 8193) HT_.out HW_.out hHeld ?_; refine pZ 1 (some 4) (bA 17 8195) HT_.out ?_; refine pZ 2 (some 5) (bA 17 8199) HT_.out ?_; refine tZ4 3 (some 6) (bA 17 8207) HT_.out HW_.out hHeld ?_; refine tZ4 4 (some 7) (bA 17 8223) HT_.out HW_.out hHeld ?_; refine pZ 5 (some 8) (bA 17 8255) HT_.out ?_; refine pZ 6 (some 9) (bA 17 8319) HT_.out ?_; refine tZ4 7 (some 10) (bA 17 8447) HT_.out HW_.out hHeld ?_; refine tZ4 8 (some 11) (bA 17 8703) HT_.out HW_.out hHeld ?_; refine pZ 9 (some 12) (bA 17 9215) HT_.out ?_; refine pZ 10 (some 13) (bA 17 10239) HT_.out ?_; refine tZ4 11 (some 14) (bA 17 12287) HT_.out HW_.out hHeld ?_; refine pZ 12 (some 15) (bA 17 16383) HT_.out ?_; refine oZ 14 (some 17) (bA 17 32767) HT_.out (fun K hK => ?_); refine gZ Try.func141 #[.int .i64 (l0_2.length : Int), .func (.func 163) #[] #[.pointer (some ⟨gb668, 0, none⟩)]] ?_
 with_reducible refine (impl_madeBits_at_impl_Counting_bloom_1.calls k (l0_2.length : Int) gb668 g0 a0_0 a0_1 A0_2 c0_2 l0_2 t672 t673 _ ?side1 ?side2 ?side3 ?side4 A5.out).mono ?_
 (case side1 => exact Kz BK668.out)
 (case side2 => exact Kz BK0.out)
 (case side3 => exact Cz (Kd.C_below HR0_2.out HB.out))
 (case side4 => exact HC0_2.out)
 rintro e w16 ⟨v674, rfl, ho0, hb⟩; refine ⟨_, rfl, ?_⟩; have n0_ := Rm ho0 HB; have n1_ := Kb BK0 hb; have n2_ := Kb BK668 hb; have n3_ := Kb BK670 hb; have n4_ := Bc HB hb; clear BK0 BK668 BK670 HB; revert n0_ n1_ n2_ n3_ n4_; intro HO675 BK0 BK668 BK670 HB
 (try clear hb)
 (try clear ho0)
 obtain ⟨Ao17, co17, eo17⟩ := Kd.R_slice HO675.out; subst eo17; refine hK.out _ _ ⟨cz BK668 0, cz BK0 0, cz BK0 1, cz BK0 2⟩ (fun hHeld => ?_); clear hK K; refine norm_ (a' := ?_) ?_ ?_; rotate_left; show Act.put _ (some 17) _ = _; simp only [aP, i64_w, i32_w]; rfl; refine pZ 15 (some 18) (bA 17 65535) HT_.out ?_; refine oZ 16 none (bA 17 131071) HT_.out (fun K hK => ?_); have hs18 : w16.cell? ⟨gb670, 0, none⟩ = some (.int .i64 0) := cz BK670 0; have hfs18 := blk_frozen BK670.out 0; have hs19 : w16.cell? ⟨gb670, 1, none⟩ = some (.int .i64 0) := cz BK670 1; have hfs19 := blk_frozen BK670.out 1; have hs20 : w16.cell? ⟨gb670, 2, none⟩ = some (.int .i64 0) := cz BK670 2; have hfs20 := blk_frozen BK670.out 2; have hs21 : w16.cell? ⟨gb670, 3, none⟩ = some (.slice none 0 0) := cz BK670 3; have hfs21 := blk_frozen BK670.out 3; have hns18_0 := NB668_670.out; have hns18_1 := NB0_670.out; have hms18_0 := NB670_668.out; have hms18_1 := NB670_0.out; refine skip_ (w1 := ?_) (by rfl) rfl ?_ ?_
 rotate_left
 ·go_simp
  rfl
 refine hK.out _ _ ⟨(cell_far (p := ⟨gb670, _, none⟩) NB668_670.out _).trans ((cell_far (p := ⟨gb670, _, none⟩) NB668_670.out _).trans ((cell_far (p := ⟨gb670, _, none⟩) NB668_670.out _).trans ((cell_far (p := ⟨gb670, _, none⟩) NB668_670.out _).trans (hHeld.1)))), (cell_far (p := ⟨gb670, _, none⟩) NB0_670.out _).trans ((cell_far (p := ⟨gb670, _, none⟩) NB0_670.out _).trans ((cell_far (p := ⟨gb670, _, none⟩) NB0_670.out _).trans ((cell_far (p := ⟨gb670, _, none⟩) NB0_670.out _).trans (hHeld.2.1)))), (cell_far (p := ⟨gb670, _, none⟩) NB0_670.out _).trans ((cell_far (p := ⟨gb670, _, none⟩) NB0_670.out _).trans ((cell_far (p := ⟨gb670, _, none⟩) NB0_670.out _).trans ((cell_far (p := ⟨gb670, _, none⟩) NB0_670.out _).trans (hHeld.2.2.1)))), (cell_far (p := ⟨gb670, _, none⟩) NB0_670.out _).trans ((cell_far (p := ⟨gb670, _, none⟩) NB0_670.out _).trans ((cell_far (p := ⟨gb670, _, none⟩) NB0_670.out _).trans ((cell_far (p := ⟨gb670, _, none⟩) NB0_670.out _).trans (hHeld.2.2.2))))⟩ (fun hHeld => ?_); clear hK K; refine done_ (done_of HT_.out (by kernel_rfl)) ?_
 try go_wp2
 refine bodyPost_ret (results_cell_row rfl _ _ gb670 28 #[.int .i64 a0_0, .int .i64 a0_1, .int .i64 t672, .slice Ao17 t673.length co17] (0, 0) _ rfl (by (with_reducible repeat (first | refine blk_drewN ?_ _ | refine blk_drew ?_ | refine blk_alloc ?_ _)); refine blk_put (cs := #[.int .i64 a0_0, .int .i64 a0_1, .int .i64 t672, .slice none 0 0]) ?_ 3 _ rfl; (with_reducible repeat (first | refine blk_drewN ?_ _ | refine blk_drew ?_ | refine blk_alloc ?_ _)); refine blk_put (cs := #[.int .i64 a0_0, .int .i64 a0_1, .int .i64 0, .slice none 0 0]) ?_ 2 _ rfl; (with_reducible repeat (first | refine blk_drewN ?_ _ | refine blk_drew ?_ | refine blk_alloc ?_ _)); refine blk_put (cs := #[.int .i64 a0_0, .int .i64 0, .int .i64 0, .slice none 0 0]) ?_ 1 _ rfl; (with_reducible repeat (first | refine blk_drewN ?_ _ | refine blk_drew ?_ | refine blk_alloc ?_ _)); refine blk_put (cs := #[.int .i64 0, .int .i64 0, .int .i64 0, .slice none 0 0]) ?_ 0 _ rfl; exact Kz BK670.out) Try.underlying28 rfl (by kernel_rfl)) rfl ?_; exact ⟨_, eZ, Rz (Kd.R_mono (Kd.R_far (p := ⟨gb670, 3, none⟩) (Kd.R_far (p := ⟨gb670, 2, none⟩) (Kd.R_far (p := ⟨gb670, 1, none⟩) (Kd.R_far (p := ⟨gb670, 0, none⟩) (Kd.R_types HO675.out BK670.out (by decide)) (fun _ hk => hk.2) (.int .i64 a0_0)) (fun _ hk => hk.2) (.int .i64 a0_1)) (fun _ hk => hk.2) (.int .i64 t672)) (fun _ hk => hk.2) (.slice Ao17 t673.length co17)) (fun _ hk => trivial)), Bq⟩

def impl_probesOf.l0 : Nat → Int → Int → ByteArray → List Int → Int → Int → Option (List Int)
  | 0, _, _, _, _, _, _ => none
  | k + 1, x0, x2, x3, x9, x12, x13 => if x13 < x12 then ((impl_place.f k x0 x13 x3 x2).bind fun t238 => (if x9.length < 17592186044416 then (impl_probesOf.l0 k x0 x2 x3 (x9 ++ [t238]) x12 (wrap64 (x13 + 1))) else (none))) else (some x9)
def impl_probesOf.f (k : Nat) (a0 : Int) (a1 : Int) (a2 : Int) (a3 : ByteArray) : Option (List Int) := impl_probesOf.l0 k a0 a2 a3 (([] : List Int)) a1 0
theorem impl_probesOf.calls (k : Nat) (a0 : Int) (a1 : Int) (a2 : Int) (a3 : ByteArray) (r : List Int) (w : World) (h : impl_probesOf.f k a0 a1 a2 a3 = some r) :
    Calls Try.prog 124 #[.int .i64 a0, .int .i64 a1, .int .i64 a2, .string a3] w fun e w' => ∃ v0_ : Value, e = .returned (v0_) ∧ Kd.R (Kd.int .i64) 3 w' w.heap.size (fun _ => True) v0_ r ∧ Below w.heap.size w w' := by
  have HB := am (Below.refl w.heap.size w); have H : (impl_probesOf.l0 k a0 a2 a3 (([] : List Int)) a1 0) = some r := h; clear h; obtain ⟨y235, hy235⟩ : ∃ y_ : List Int, y_ = (([] : List Int)) := ⟨_, rfl⟩
  replace H : (impl_probesOf.l0 k a0 a2 a3 y235 a1 0) = some r := by first | (rw [hy235]; with_reducible exact H) | (have H2_ := (Option.bind_some _ _).symm.trans H; rw [hy235]; with_reducible exact H2_) | (have H2_ := (Option.bind_some _ _).symm.trans H; with_reducible exact H2_) | with_reducible exact H | (rw [hy235]; exact H) | exact H
  have Ny235 := am hy235; clear hy235; have H' := am H; clear H
  go_enter Try.func124, Try.ntmps124
  go_wp2_with (first | ((with_reducible refine gate_dst (N := 11) rfl ?_); refine Kd.R_lit (Kd.int .i64) _ 3 ?hg (N := 11) ?hd (xs := ([] : List Int)) (inner := []) (ok := fun _ => True) (okp := fun _ => True) ?hr ?hp (fun _ hk => hk) trivial (Below.refl _ _) (Nat.le_refl _) (by simp) ?_; (case hd => rfl); (case hg => rfl); (case hr => first | (go_simp; done) | (go_simp; rfl)); (case hp => exact (Reps.none _ _)); intro v236 w5 ho6 hb hg_ hnew_; clear hg_ hnew_; (first | rw [← Ny235.out] at ho6 | (simp only [Int.reduceToNat] at ho6; rw [← Ny235.out] at ho6)); have n0_ := Rl ho6 HB; have n1_ := Bb HB hb; clear HB; revert n0_ n1_; intro HO237 HB; clear hb ho6))
  (try simp only [aP])
  go_loopg [9, 13] k (fun kq v9 v13 w' => ∃ (x9_1 : List Int) (x13_1 : Int), v13 = .int .i64 x13_1 ∧ Aside0 (impl_probesOf.l0 kq a0 a2 a3 x9_1 a1 x13_1 = some r) ∧ Aside0 (kq ≤ k) ∧ Aside0 (Kd.R (Kd.int .i64) 3 w' w.heap.size (fun _ => True) v9 x9_1) ∧ Aside0 (Below w.heap.size w w'))
  case atStart => exact ⟨(y235), (0), wZ, H', ⟨Nat.le_refl _⟩, ⟨Rz HO237.out⟩, ⟨Bz HB.out⟩⟩
  case round =>
    clear H'
    try clear c1
    try clear p2
    obtain ⟨x9_1, x13_1, rfl, HA, HK1, HO_9, HB⟩ := hrel; cases gk with
    | zero => exact absurd HA.out (by simp [impl_probesOf.l0])
    | succ k1 =>
      have H := HA.out; clear HA
      simp only [impl_probesOf.l0] at H
      by_cases c7 : x13_1 < a1
      · rw [if_pos c7] at H
        have c7b0 : decide (x13_1 < a1) = true := decide_eq_true c7; clear c7; replace H := Option.bind_eq_some_iff.mp H; obtain ⟨t238, A80, H⟩ := H; (try dsimp -simprocs only at H); have A8 := am A80; clear A80
        by_cases c9 : x9_1.length < 17592186044416
        · rw [if_pos c9] at H
          have LMc9 := am c9; clear c9; obtain ⟨y239, hy239⟩ : ∃ y_ : List Int, y_ = (x9_1 ++ [t238]) := ⟨_, rfl⟩
          replace H : (impl_probesOf.l0 k1 a0 a2 a3 y239 a1 (wrap64 (x13_1 + 1))) = some r := by first | (rw [hy239]; with_reducible exact H) | (have H2_ := (Option.bind_some _ _).symm.trans H; rw [hy239]; with_reducible exact H2_) | (have H2_ := (Option.bind_some _ _).symm.trans H; with_reducible exact H2_) | with_reducible exact H | (rw [hy239]; exact H) | exact H
          have Ny239 := am hy239; clear hy239; have H' := am H; clear H
          go_wp2_with (first | ((with_reducible refine gate_callee (f := 129) rfl ?_); refine gL (some 21) Try.func129 #[.int .i64 a0, .int .i64 x13_1, .string a3, .int .i64 a2] ?_; (with_reducible refine (impl_place.calls k1 a0 x13_1 a3 a2 t238 _ A8.out).mono ?_); rintro e w' ⟨rfl, ⟨nd, rfl⟩⟩; refine ⟨_, rfl, ?_⟩) | ((with_reducible refine gate_builtin (b := .append) (xs := #[.tmp 16, .tmp 22]) rfl ?_); at_builtin; refine Kd.R_append (Kd.int .i64) (w0 := w) w.heap.size rfl (.tmp 16) (.tmp 22) 24 3 (.int .i64 0) 8 rfl Try.underlying24 info3 rfl (by decide) (by omega) u9 x9_1 t238 [.int .i64 t238] (fun _ => True) (fun _ => False) rfl rfl ?aP (fun _ hk => hk.elim) ?aF ?aO ?aB ?aS ?aL ?_; (case aP => exact rfl); (case aB => exact (Bz HB.out)); (case aF => exact (fun _ _ => trivial)); (case aO => exact (Rz HO_9.out)); (case aS => exact (below_size (Bz HB.out))); (case aL => have := LMc9.out; omega); intro v240 w10 ho hb hg hat; rw [← Ny239.out] at ho; have n0_ := am (hb); have n1_ := am (ho); clear HB HO_9; revert n0_ n1_; intro HB HO241; clear ho hb hg hat))
          go_roundg k1
          case measure => have := HK1.out; omega
          case rel => exact ⟨(y239), (wrap64 (x13_1 + 1)), wZ, H', ⟨by have := HK1.out; omega⟩, ⟨Rz HO241.out⟩, ⟨Bz HB.out⟩⟩
        · rw [if_neg c9] at H
          exact absurd H (by simp)
      · rw [if_neg c7] at H
        have c7b0 : decide (x13_1 < a1) = false := decide_eq_false c7; clear c7; obtain rfl := Option.some.inj H
        go_wp2
        go_ret
        exact ⟨_, eZ, Rz HO_9.out, Bz HB.out⟩

end Go.Proofs.Ytpkpjikkfikejaa.PC
-- printed by a program of this session (wip/gp) out of the translation; Lean checks it
namespace Go.Proofs.Ytpkpjikkfikejaa.PC
open Go.RowKit Go.Proofs.YtpkpjikkfikejaaW.PrintWords Go.Proofs.YtpkpjikkfikejaaW.PrintLast Go.Proofs.YtpkpjikkfikejaaW.PrintMore Go.Proofs.YtpkpjikkfikejaaSq
attribute [local go_sem] max2_int min2_int max_two min_two max_three min_three max_four min_four   -- for this text's walks alone
attribute [local go_sem] Go.Proofs.YtpkpjikkfikejaaGp.str_geq Go.Proofs.YtpkpjikkfikejaaGp.str_gtr Go.Proofs.YtpkpjikkfikejaaGp.str_leq
set_option linter.unusedVariables false
set_option linter.unusedSimpArgs false

set_option maxHeartbeats 8000000
set_option maxRecDepth 100000
def impl_Counting_change.l0 : Nat → Int → List Int → Int → Int → Int → Int → List Int → Option (Bool × List Int)
 | 0, _, _, _, _, _, _, _ => none
 | k + 1, x2, x23, x24, x25, x1000, x1001, x1002 => if x25 < x24 then (if 0 ≤ x25 then (if x25 < (x23.length : Int) then (if 0 ≤ (rd x23 x25) then (if (rd x23 x25) < (x1002.length : Int) then (if (rd x1002 (rd x23 x25)) = 15 then (impl_Counting_change.l0 k x2 x23 x24 (wrap64 (x25 + 1)) x1000 x1001 x1002) else ((some (x1002.set ((rd x23 x25) : Int).toNat (wrap64 ((rd x1002 (rd x23 x25)) + x2)) : List Int)).bind fun y248 => (if (rd y248 (rd x23 x25)) < 0 then (some (false, y248)) else (impl_Counting_change.l0 k x2 x23 x24 (wrap64 (x25 + 1)) x1000 x1001 y248)))) else (none)) else (none)) else (none)) else (none)) else (some (true, x1002))
def impl_Counting_change.f (k : Nat) (a0_0 : Int) (a0_1 : Int) (l0_2 : List Int) (a1 : ByteArray) (a2 : Int) : Option (Bool × List Int) := (impl_probesOf.f k a0_0 a0_1 (l0_2.length : Int) a1).bind fun t242 => (impl_Counting_change.l0 k a2 t242 (t242.length : Int) 0 a0_0 a0_1 l0_2)
def impl_Counting_change.T1 : Bool × List (List Nat × List Nat) := (true, [([], []), ([0], [0]), ([1], [1]), ([2], [2]), ([], []), ([4], [4]), ([5], [5]), ([6], [6]), ([], []), ([8], [8]), ([9], [9]), ([10], [10]), ([11], [11]), ([], []), ([3, 7, 12, 13], [3, 7, 12, 13]), ([14], [14]), ([], [])])
def impl_Counting_change.B1 : List Nat := [0, 1, 3, 7, 0, 16, 48, 112, 0, 256, 768, 1792, 3840, 0, 16383, 32767, 0]
theorem impl_Counting_change.tab1 : rtab .any (opsOf Try.f114 1) = impl_Counting_change.T1 := by kernel_rfl
theorem impl_Counting_change.bits1 : waitsOk impl_Counting_change.T1.2 impl_Counting_change.B1 = true := by kernel_rfl
theorem impl_Counting_change.calls (k : Nat) (g0 : Nat) (a0_0 : Int) (a0_1 : Int) (P0_2_ : Nat → Prop) (u9000_ : Value) (l0_2 : List Int) (a1 : ByteArray) (a2 : Int) (r1 : Bool) (r2 : List Int) (w0 w : World) (hB : Below w0.heap.size w0 w) (hb0 : w.heap[g0]? = some (.cells #[.int .i64 a0_0, .int .i64 a0_1, u9000_] 49 (0, 0))) (ho0_2 : Kd.R (Kd.int .i64) 3 w w0.heap.size P0_2_ u9000_ l0_2) (h : impl_Counting_change.f k a0_0 a0_1 l0_2 a1 a2 = some (r1, r2)) :
  Calls Try.prog 114 #[.pointer (some ⟨g0, 0, none⟩), .string a1, .int .i64 a2] w fun e w' => e = .returned (.bool r1) ∧ Kd.R (Kd.int .i64) 3 w' w0.heap.size (fun k_ => (P0_2_ k_ ∨ w.heap.size ≤ k_)) u9000_ r2 ∧ Below w0.heap.size w0 w' ∧ Kept w w' (fun k_ => P0_2_ k_) := by
 have HO0_2 := am (show Kd.R (Kd.int .i64) 3 w w0.heap.size (fun k_ => (P0_2_ k_ ∨ w.heap.size ≤ k_)) u9000_ l0_2 from Kd.R_mono ho0_2 (fun k_ hk => (.inl hk))); have HK := am (Kept.refl w (fun k_ => P0_2_ k_)); have BK0 := am hb0; clear hb0; have HW0 := am hB.size; have HB := am hB; clear hB; have H : ((impl_probesOf.f k a0_0 a0_1 (l0_2.length : Int) a1).bind fun t242 => (impl_Counting_change.l0 k a2 t242 (t242.length : Int) 0 a0_0 a0_1 l0_2)) = some (r1, r2) := h; clear h; replace H := Option.bind_eq_some_iff.mp H; obtain ⟨t242, A40, H⟩ := H; (try dsimp -simprocs only at H); have A4 := am A40; clear A40; have H' := am H; clear H
 go_enter Try.func114, Try.ntmps114
 try go_wp2
 have n0_ := am (Kd.R_drew HO0_2.out); have n1_ := am (blk_drew BK0.out); have n2_ := am (Kept.drew HK.out); have n3_ := am (below_drew1 HB.out); clear HO0_2 BK0 HK HB; revert n0_ n1_ n2_ n3_; intro HO0_2 BK0 HK HB; obtain ⟨Ao6, co6, eo6⟩ := Kd.R_slice HO0_2.out
 (first | subst eo6 | (injection eo6 with f1_ f2_ f3_; have f4_ := f1_.symm; have f5_ := f3_.symm; clear f1_ f2_ f3_; subst f4_; subst f5_))
 refine start_ (n := 17) (S := fun w' => w'.cell? ⟨g0, 0, none⟩ = some (.int .i64 a0_0) ∧ w'.cell? ⟨g0, 1, none⟩ = some (.int .i64 a0_1) ∧ w'.cell? ⟨g0, 2, none⟩ = some (.slice Ao6 l0_2.length co6)) (ds := []) (bA 17 0) (by kernel_rfl) rfl rfl ⟨cz BK0 0, cz BK0 1, cz BK0 2⟩ (fun hHeld => ?_); refine with_tabW impl_Counting_change.tab1 impl_Counting_change.bits1 (fun HT_ HW_ => ?_); generalize w.drew = w5 at HO0_2 BK0 HK HB hHeld ⊢; refine pZ 0 (some 9) (bA 17 1) HT_.out ?_; refine pZ 1 (some 10) (bA 17 3) HT_.out ?_; refine pZ 2 (some 11) (bA 17 7) HT_.out ?_; refine pZ 4 (some 13) (bA 17 23) HT_.out ?_; refine pZ 5 (some 14) (bA 17 55) HT_.out ?_; refine pZ 6 (some 15) (bA 17 119) HT_.out ?_; refine pZ 8 (some 17) (bA 17 375) HT_.out ?_; refine pZ 9 (some 18) (bA 17 887) HT_.out ?_; refine pZ 10 (some 19) (bA 17 1911) HT_.out ?_; refine pZ 13 (some 22) (bA 17 10103) HT_.out ?_; refine pZ 16 (some 25) (bA 17 75639) HT_.out ?_; refine tZ3 3 (some 12) (bA 17 75647) HT_.out HW_.out hHeld ?_; refine tZ3 7 (some 16) (bA 17 75775) HT_.out HW_.out hHeld ?_; refine tZ3 11 (some 20) (bA 17 77823) HT_.out HW_.out hHeld ?_; refine pZ 12 (some 21) (bA 17 81919) HT_.out ?_; refine oZ 14 (some 23) (bA 17 98303) HT_.out (fun K hK => ?_); refine gZ Try.func124 #[.int .i64 a0_0, .int .i64 a0_1, .int .i64 (l0_2.length : Int), .string a1] ?_
 with_reducible refine (impl_probesOf.calls k a0_0 a0_1 (l0_2.length : Int) a1 t242 _ A4.out).mono ?_
 rintro e w7 ⟨v243, rfl, ho0, hb⟩; refine ⟨_, rfl, ?_⟩; have n0_ := Re HO0_2 (Kd.R_base ho0) hb; have n1_ := am (Kd.R_lower (Kd.R_new' (Kd.R_newM (M := fun k_ => (P0_2_ k_ ∨ w.heap.size ≤ k_)) ho0 (by first | exact HK.out.1 | exact (show Kept w _ (fun k_ => P0_2_ k_) from by repeat (first | (with_reducible first | exact HK.out | apply Kept.alloc | apply Kept.drewN | apply Kept.drew | refine Kept.setCell ?_ (.inr GW0.out) _) | exact HK.out)).1) (fun k_ h_ => .inr h_)) (Kd.R_lt (Rz HO0_2.out))) (by first | exact below_size (w := w0) (Bq) | exact below_size (w := w) (Bq))); have n2_ := Kb BK0 hb; have n3_ := am (Kept.below (S := (fun k_ => P0_2_ k_)) (by repeat (first | (with_reducible first | exact HK.out | apply Kept.alloc | apply Kept.drewN | apply Kept.drew | refine Kept.setCell ?_ (.inr GW0.out) _) | exact HK.out)) hb); have n4_ := Bc HB hb; clear HO0_2 BK0 HK HB; revert n0_ n1_ n2_ n3_ n4_; intro HO0_2 HO244 BK0 HK HB
 (try clear hb)
 (try clear hb2)
 (try clear hk)
 (try clear hi)
 (try clear ho0)
 obtain ⟨Ao8, co8, eo8⟩ := Kd.R_slice HO244.out
 (first | subst eo8 | (injection eo8 with f1_ f2_ f3_; have f4_ := f1_.symm; have f5_ := f3_.symm; clear f1_ f2_ f3_; subst f4_; subst f5_))
 refine hK.out _ _ ⟨cz BK0 0, cz BK0 1, cz BK0 2⟩ (fun hHeld => ?_); clear hK K; refine norm_ (a' := ?_) ?_ ?_; rotate_left; show Act.put _ (some 23) _ = _; simp only [aP, i64_w, i32_w]; rfl; refine pZ 15 (some 24) (bA 17 131071) HT_.out ?_; refine done_ (done_of HT_.out (by kernel_rfl)) ?_
 try go_wp2
 go_loopg [25] k (fun kq v25 w' => ∃ (x23_1 : List Int) (x25_1 : Int) (x1002_1 : List Int), v25 = .int .i64 x25_1 ∧ Aside0 (impl_Counting_change.l0 kq a2 x23_1 (t242.length : Int) x25_1 a0_0 a0_1 x1002_1 = some (r1, r2)) ∧ Aside0 (kq ≤ k) ∧ Aside0 (Kd.R (Kd.int .i64) 3 w' w0.heap.size (fun k_ => (P0_2_ k_ ∨ w.heap.size ≤ k_) ∧ some k_ ≠ ((.slice Ao6 l0_2.length co6) : Value).ownBlock) (.slice Ao8 t242.length co8) x23_1) ∧ Aside0 (Kd.R (Kd.int .i64) 3 w' w0.heap.size (fun k_ => (P0_2_ k_ ∨ w.heap.size ≤ k_) ∧ some k_ ≠ ((.slice Ao8 t242.length co8) : Value).ownBlock) (.slice Ao6 l0_2.length co6) x1002_1) ∧ Aside0 (w'.heap[g0]? = some (.cells #[.int .i64 a0_0, .int .i64 a0_1, (.slice Ao6 l0_2.length co6)] 49 (0, 0))) ∧ Aside0 (Kept w w' (fun k_ => P0_2_ k_)) ∧ Aside0 (Below w0.heap.size w0 w'))
 case atStart => exact ⟨(t242), (0), (l0_2), wZ, H', ⟨Nat.le_refl _⟩, ⟨Rz (Kd.R_mono HO244.out (fun _ hk => ⟨hk.1.1, hk.2⟩))⟩, ⟨Rz HO0_2.out⟩, ⟨Kz BK0.out⟩, ⟨by repeat (first | (with_reducible first | exact HK.out | apply Kept.alloc | apply Kept.drewN | apply Kept.drew | refine Kept.setCell ?_ (.inr GW0.out) _) | exact HK.out)⟩, ⟨Bq⟩⟩
 case round =>
  clear H'
  try clear c1
  try clear p2
  obtain ⟨x23_1, x25_1, x1002_1, rfl, HA, HK1, HO_23, HO_1002, BK0, HK, HB⟩ := hrel; have hl23_1 := (Kd.R_reads' HO_23.out).1; rw [hl23_1] at HO_23
  (try simp only [hl23_1])
  (try simp only [hl23_1] at BK0)
  (try simp only [hl23_1] at HO_1002)
  have hl1002_1 := (Kd.R_reads' HO_1002.out).1; rw [hl1002_1] at HO_1002
  (try simp only [hl1002_1])
  (try simp only [hl1002_1] at BK0)
  (try simp only [hl1002_1] at HO_23)
  cases gk with
  | zero => exact absurd HA.out (by simp [impl_Counting_change.l0])
  | succ k1 =>
   have H := HA.out; clear HA
   simp only [impl_Counting_change.l0] at H
   by_cases c9 : x25_1 < (t242.length : Int)
   ·rw [if_pos c9] at H
    have c9b0 : decide (x25_1 < (t242.length : Int)) = true := decide_eq_true c9; (try simp only [hl23_1, hl1002_1] at c9b0); clear c9
    by_cases c10 : 0 ≤ x25_1
    ·rw [if_pos c10] at H
     have c10b0 : decide (0 ≤ x25_1) = true := decide_eq_true c10; clear c10
     by_cases c11 : x25_1 < (x23_1.length : Int)
     ·rw [if_pos c11] at H
      have c11b0 : decide (x25_1 < (x23_1.length : Int)) = true := decide_eq_true c11; (try simp only [hl23_1, hl1002_1] at c11b0); clear c11
      by_cases c12 : 0 ≤ (rd x23_1 x25_1)
      ·rw [if_pos c12] at H
       have c12b0 : decide (0 ≤ (rd x23_1 x25_1)) = true := decide_eq_true c12; clear c12
       by_cases c13 : (rd x23_1 x25_1) < (x1002_1.length : Int)
       ·rw [if_pos c13] at H
        have c13b0 : decide ((rd x23_1 x25_1) < (x1002_1.length : Int)) = true := decide_eq_true c13; (try simp only [hl23_1, hl1002_1] at c13b0); clear c13
        by_cases c14 : (rd x1002_1 (rd x23_1 x25_1)) = 15
        ·rw [if_pos c14] at H
         have c14b0 : ((rd x1002_1 (rd x23_1 x25_1)) == 15) = true := beq_iff_eq.mpr c14; have c14b1 : ((rd x1002_1 (rd x23_1 x25_1)) != 15) = false := bne_eq_false_iff_eq.mpr c14; clear c14; have H' := am H; clear H; obtain ⟨ad245, e245, hx245_0⟩ := Kd.at_int (Kd.R_reads' HO_23.out).2.2 x25_1 dT dT; cases e245; have p245 := eT (0 ≤ (x25_1 : Int)); have q245 := eT (x25_1 < (x23_1.length : Int)); obtain ⟨hcz15_0, hcz15_1, hcz15_2, hfz15_0, hfz15_1, hfz15_2⟩ := cf3 (w := wr) BK0; obtain ⟨ad246, e246, hx246_0⟩ := Kd.at_int (Kd.R_reads' HO_1002.out).2.2 (rd x23_1 x25_1) dT dT; cases e246; have p246 := eT (0 ≤ ((rd x23_1 x25_1) : Int)); have q246 := eT ((rd x23_1 x25_1) < (x1002_1.length : Int))
         go_wp2
         (try simp only [← hl23_1, ← hl1002_1])
         go_roundg k1
         case measure => have := HK1.out; omega
         case rel => exact ⟨(x23_1), (wrap64 (x25_1 + 1)), (x1002_1), wZ, H', ⟨by have := HK1.out; omega⟩, ⟨by (try simp only [hl23_1]); (try simp only [hl1002_1]); (with_reducible repeat (first | apply Kd.R_alloc | apply Kd.R_drewN | apply Kd.R_drew)); exact HO_23.out⟩, ⟨by (try simp only [hl23_1]); (try simp only [hl1002_1]); (with_reducible repeat (first | apply Kd.R_alloc | apply Kd.R_drewN | apply Kd.R_drew)); exact HO_1002.out⟩, ⟨by (try simp only [hl23_1]); (try simp only [hl1002_1]); (with_reducible repeat (first | refine blk_drewN ?_ _ | refine blk_drew ?_ | refine blk_alloc ?_ _)); exact BK0.out⟩, ⟨by repeat (first | (with_reducible first | exact HK.out | apply Kept.alloc | apply Kept.drewN | apply Kept.drew | refine Kept.setCell ?_ (.inr GW0.out) _) | exact HK.out)⟩, ⟨Bq⟩⟩
        ·rw [if_neg c14] at H
         have c14b0 : ((rd x1002_1 (rd x23_1 x25_1)) == 15) = false := beq_eq_false_iff_ne.mpr c14; have c14b1 : ((rd x1002_1 (rd x23_1 x25_1)) != 15) = true := bne_iff_ne.mpr c14; obtain ⟨y248, hy248⟩ : ∃ y_ : List Int, y_ = (x1002_1.set ((rd x23_1 x25_1) : Int).toNat (wrap64 ((rd x1002_1 (rd x23_1 x25_1)) + a2))) := ⟨_, rfl⟩
         replace H : (if (rd y248 (rd x23_1 x25_1)) < 0 then (some (false, y248)) else (impl_Counting_change.l0 k1 a2 x23_1 (t242.length : Int) (wrap64 (x25_1 + 1)) a0_0 a0_1 y248)) = some (r1, r2) := by first | (rw [hy248]; with_reducible exact H) | (have H2_ := (Option.bind_some _ _).symm.trans H; rw [hy248]; with_reducible exact H2_) | (have H2_ := (Option.bind_some _ _).symm.trans H; with_reducible exact H2_) | with_reducible exact H | (rw [hy248]; exact H) | exact H
         have Ny248 := am hy248; clear hy248
         by_cases c17 : (rd y248 (rd x23_1 x25_1)) < 0
         ·rw [if_pos c17] at H
          have c17b0 : decide ((rd y248 (rd x23_1 x25_1)) < 0) = true := decide_eq_true c17; clear c17
          simp only [Option.some.injEq, Prod.mk.injEq] at H
          obtain ⟨rfl, rfl⟩ := H; obtain ⟨ad245, e245, hx245_0⟩ := Kd.at_int (Kd.R_reads' HO_23.out).2.2 x25_1 dT dT; cases e245; have p245 := eT (0 ≤ (x25_1 : Int)); have q245 := eT (x25_1 < (x23_1.length : Int)); obtain ⟨hcz18_0, hcz18_1, hcz18_2, hfz18_0, hfz18_1, hfz18_2⟩ := cf3 (w := wr) BK0; obtain ⟨ad246, e246, hx246_0⟩ := Kd.at_int (Kd.R_reads' HO_1002.out).2.2 (rd x23_1 x25_1) dT dT; cases e246; have p246 := eT (0 ≤ ((rd x23_1 x25_1) : Int)); have q246 := eT ((rd x23_1 x25_1) < (x1002_1.length : Int)); have p247 : 0 ≤ ((rd x23_1 x25_1) : Int) := dT; have q247 : (rd x23_1 x25_1) < (x1002_1.length : Int) := dT; obtain ⟨ad247, e247, hx247_0⟩ := Kd.at_int (Kd.R_reads' HO_1002.out).2.2 (rd x23_1 x25_1) p247 q247; obtain rfl : ad246 = ad247 := (by injection e247); replace p247 := eq_true p247; replace q247 := eq_true q247; have p16 : 0 ≤ ((rd x23_1 x25_1) : Int) := dT; have q16 : ((rd x23_1 x25_1) : Int) < ((x1002_1.length : Int) : Int) := dT; obtain ⟨go16, co16, eo16, gb16, gl16, cl16, HG16⟩ := Kd.R_form HO_1002.out (by omega)
          (first | cases eo16 | (injection eo16 with ea_ en_ ec_; (first | subst ea_ | (injection ea_ with ea_; subst ea_)); subst ec_; clear en_))
          have GB16 := am gb16; have GG16 := am HG16; clear gb16 gl16 HG16; have HMgo16 := am (show (P0_2_ go16 ∨ w.heap.size ≤ go16) from (HO_1002.out.1 _ rfl).1)
          (first | simp only [add_plain] at hx246_0 | skip)
          (first | simp only [add_plain] at hx247_0 | skip)
          obtain ⟨hx16_0, hf16_0⟩ := Kd.R_celln 0 HO_1002.out ((rd x23_1 x25_1) : Int) p16 q16; replace p16 := eq_true p16; replace q16 := eq_true q16; have HP19 := Kd.R_putg HO_1002.out ((rd x23_1 x25_1) : Int) (wrap64 ((rd x1002_1 (rd x23_1 x25_1)) + a2))
          go_wp2_with (first | ((with_reducible refine gate_store (t := 3) (p := 46) rfl ?_); refine store_event (t := 3) (p := 46) (v := ?vo_w20) (w1 := (wr.setCell ⟨go16, ((rd x23_1 x25_1) : Int).toNat, none⟩ (.int .i64 (wrap64 ((rd x1002_1 (rd x23_1 x25_1)) + a2))))) ?hg ?ho ?hn ?hr ?_; (case ho => rfl); (case hg => rfl); (case hn => rfl); (case hr => first | (go_simp; done) | (go_simp; rfl)); intro w20 hw; have hg : wr.grownBy w20 (some go16) := (by rw [hw]; exact HP19.2); have hp_ : Kd.R (Kd.int .i64) 3 w20 w0.heap.size (fun k_ => (P0_2_ k_ ∨ w.heap.size ≤ k_) ∧ some k_ ≠ (.slice (some ad245) x23_1.length co8 : Value).ownBlock) (.slice (some ⟨go16, 0, none⟩) x1002_1.length co6) y248 := (by rw [hw, Ny248.out]; exact HP19.1); clear HP19; have n0_ := am (Kd.R_after (v := (.slice (some ⟨go16, 0, none⟩) x1002_1.length co6)) (v1 := (.slice (some ⟨go16, 0, none⟩) x1002_1.length co6)) (ok := (fun k_ => (P0_2_ k_ ∨ w.heap.size ≤ k_))) (Rz HO_23.out) hg (.inl rfl)); have n1_ := am (hp_); have n2_ := am (blk_grown (g := g0) (o := .cells #[.int .i64 a0_0, .int .i64 a0_1, .slice (some ⟨go16, 0, none⟩) x1002_1.length co6] 49 (0, 0)) (Kz BK0.out) hg (Kd.R_ne HO_1002.out BK0.out (by decide))); have n3_ := am ((by rw [hw]; exact below_set (HB.out) GB16.out : Below w0.heap.size w0 w20)); have n4_ := am (Kept.of_grown (S := (fun k_ => P0_2_ k_)) hg (by repeat (first | (with_reducible first | exact HK.out | apply Kept.alloc | apply Kept.drewN | apply Kept.drew | refine Kept.setCell ?_ (.inr GW0.out) _) | exact HK.out)) (fun k_ e_ => (HO_1002.out.1 k_ e_).1)); clear HO_23 HO_1002 BK0 HB HK; revert n0_ n1_ n2_ n3_ n4_; intro HO_23 HO_1002 BK0 HB HK; clear hg hw hp_; obtain ⟨hcz21_0, hcz21_1, hcz21_2, hfz21_0, hfz21_1, hfz21_2⟩ := cf3 (w := w20) BK0; have p249 : 0 ≤ ((rd x23_1 x25_1) : Int) := dT; have q249 : (rd x23_1 x25_1) < (y248.length : Int) := (by have h_ : ((rd x23_1 x25_1) : Int) < ((x1002_1.length : Int) : Int) := dT; first | (have e_ := (Kd.R_reads' HO_1002.out).1; omega) | simpa only [Ny248.out, List.length_set] using h_); have ql249 : (((rd x23_1 x25_1) : Int) < ((x1002_1.length : Int) : Int)) = True := eq_true (dT); obtain ⟨ad249, e249, hx249_0⟩ := Kd.at_int (Kd.R_reads' HO_1002.out).2.2 (rd x23_1 x25_1) p249 q249; obtain rfl : (⟨go16, 0, none⟩ : Addr) = ad249 := (by injection e249); (first | simp only [add_plain] at hx249_0 | simp only [add_at] at hx249_0 | simp only [Addr.add, Nat.zero_add] at hx249_0 | skip); replace p249 := eq_true p249; replace q249 := eq_true q249))
          go_ret
          exact ⟨eZ, (by first | exact (Rz (Kd.R_mono HO_1002.out (fun _ hk => hk.1))) | (simp only [hl23_1, hl1002_1]; exact (Rz (Kd.R_mono HO_1002.out (fun _ hk => hk.1))))), Bq, by repeat (first | (with_reducible first | exact HK.out | apply Kept.alloc | apply Kept.drewN | apply Kept.drew | refine Kept.setCell ?_ (.inr GW0.out) _) | exact HK.out)⟩
         ·rw [if_neg c17] at H
          have c17b0 : decide ((rd y248 (rd x23_1 x25_1)) < 0) = false := decide_eq_false c17; clear c17; have H' := am H; clear H; obtain ⟨ad245, e245, hx245_0⟩ := Kd.at_int (Kd.R_reads' HO_23.out).2.2 x25_1 dT dT; cases e245; have p245 := eT (0 ≤ (x25_1 : Int)); have q245 := eT (x25_1 < (x23_1.length : Int)); obtain ⟨hcz22_0, hcz22_1, hcz22_2, hfz22_0, hfz22_1, hfz22_2⟩ := cf3 (w := wr) BK0; obtain ⟨ad246, e246, hx246_0⟩ := Kd.at_int (Kd.R_reads' HO_1002.out).2.2 (rd x23_1 x25_1) dT dT; cases e246; have p246 := eT (0 ≤ ((rd x23_1 x25_1) : Int)); have q246 := eT ((rd x23_1 x25_1) < (x1002_1.length : Int)); have p247 : 0 ≤ ((rd x23_1 x25_1) : Int) := dT; have q247 : (rd x23_1 x25_1) < (x1002_1.length : Int) := dT; obtain ⟨ad247, e247, hx247_0⟩ := Kd.at_int (Kd.R_reads' HO_1002.out).2.2 (rd x23_1 x25_1) p247 q247; obtain rfl : ad246 = ad247 := (by injection e247); replace p247 := eq_true p247; replace q247 := eq_true q247; have p16 : 0 ≤ ((rd x23_1 x25_1) : Int) := dT; have q16 : ((rd x23_1 x25_1) : Int) < ((x1002_1.length : Int) : Int) := dT; obtain ⟨go16, co16, eo16, gb16, gl16, cl16, HG16⟩ := Kd.R_form HO_1002.out (by omega)
          (first | cases eo16 | (injection eo16 with ea_ en_ ec_; (first | subst ea_ | (injection ea_ with ea_; subst ea_)); subst ec_; clear en_))
          have GB16 := am gb16; have GG16 := am HG16; clear gb16 gl16 HG16; have HMgo16 := am (show (P0_2_ go16 ∨ w.heap.size ≤ go16) from (HO_1002.out.1 _ rfl).1)
          (first | simp only [add_plain] at hx246_0 | skip)
          (first | simp only [add_plain] at hx247_0 | skip)
          obtain ⟨hx16_0, hf16_0⟩ := Kd.R_celln 0 HO_1002.out ((rd x23_1 x25_1) : Int) p16 q16; replace p16 := eq_true p16; replace q16 := eq_true q16; have HP23 := Kd.R_putg HO_1002.out ((rd x23_1 x25_1) : Int) (wrap64 ((rd x1002_1 (rd x23_1 x25_1)) + a2))
          go_wp2_with (first | ((with_reducible refine gate_store (t := 3) (p := 46) rfl ?_); refine store_event (t := 3) (p := 46) (v := ?vo_w24) (w1 := (wr.setCell ⟨go16, ((rd x23_1 x25_1) : Int).toNat, none⟩ (.int .i64 (wrap64 ((rd x1002_1 (rd x23_1 x25_1)) + a2))))) ?hg ?ho ?hn ?hr ?_; (case ho => rfl); (case hg => rfl); (case hn => rfl); (case hr => first | (go_simp; done) | (go_simp; rfl)); intro w24 hw; have hg : wr.grownBy w24 (some go16) := (by rw [hw]; exact HP23.2); have hp_ : Kd.R (Kd.int .i64) 3 w24 w0.heap.size (fun k_ => (P0_2_ k_ ∨ w.heap.size ≤ k_) ∧ some k_ ≠ (.slice (some ad245) x23_1.length co8 : Value).ownBlock) (.slice (some ⟨go16, 0, none⟩) x1002_1.length co6) y248 := (by rw [hw, Ny248.out]; exact HP23.1); clear HP23; have n0_ := am (Kd.R_after (v := (.slice (some ⟨go16, 0, none⟩) x1002_1.length co6)) (v1 := (.slice (some ⟨go16, 0, none⟩) x1002_1.length co6)) (ok := (fun k_ => (P0_2_ k_ ∨ w.heap.size ≤ k_))) (Rz HO_23.out) hg (.inl rfl)); have n1_ := am (hp_); have n2_ := am (blk_grown (g := g0) (o := .cells #[.int .i64 a0_0, .int .i64 a0_1, .slice (some ⟨go16, 0, none⟩) x1002_1.length co6] 49 (0, 0)) (Kz BK0.out) hg (Kd.R_ne HO_1002.out BK0.out (by decide))); have n3_ := am ((by rw [hw]; exact below_set (HB.out) GB16.out : Below w0.heap.size w0 w24)); have n4_ := am (Kept.of_grown (S := (fun k_ => P0_2_ k_)) hg (by repeat (first | (with_reducible first | exact HK.out | apply Kept.alloc | apply Kept.drewN | apply Kept.drew | refine Kept.setCell ?_ (.inr GW0.out) _) | exact HK.out)) (fun k_ e_ => (HO_1002.out.1 k_ e_).1)); clear HO_23 HO_1002 BK0 HB HK; revert n0_ n1_ n2_ n3_ n4_; intro HO_23 HO_1002 BK0 HB HK; clear hg hw hp_; obtain ⟨hcz25_0, hcz25_1, hcz25_2, hfz25_0, hfz25_1, hfz25_2⟩ := cf3 (w := w24) BK0; have p249 : 0 ≤ ((rd x23_1 x25_1) : Int) := dT; have q249 : (rd x23_1 x25_1) < (y248.length : Int) := (by have h_ : ((rd x23_1 x25_1) : Int) < ((x1002_1.length : Int) : Int) := dT; first | (have e_ := (Kd.R_reads' HO_1002.out).1; omega) | simpa only [Ny248.out, List.length_set] using h_); have ql249 : (((rd x23_1 x25_1) : Int) < ((x1002_1.length : Int) : Int)) = True := eq_true (dT); obtain ⟨ad249, e249, hx249_0⟩ := Kd.at_int (Kd.R_reads' HO_1002.out).2.2 (rd x23_1 x25_1) p249 q249; obtain rfl : (⟨go16, 0, none⟩ : Addr) = ad249 := (by injection e249); (first | simp only [add_plain] at hx249_0 | simp only [add_at] at hx249_0 | simp only [Addr.add, Nat.zero_add] at hx249_0 | skip); replace p249 := eq_true p249; replace q249 := eq_true q249))
          (try simp only [← hl23_1, ← hl1002_1])
          go_roundg k1
          case measure => have := HK1.out; omega
          case rel => exact ⟨(x23_1), (wrap64 (x25_1 + 1)), (y248), wZ, H', ⟨by have := HK1.out; omega⟩, ⟨by (try simp only [hl23_1]); (try simp only [hl1002_1]); (with_reducible repeat (first | apply Kd.R_alloc | apply Kd.R_drewN | apply Kd.R_drew)); exact HO_23.out⟩, ⟨by (try simp only [hl23_1]); (try simp only [hl1002_1]); (with_reducible repeat (first | apply Kd.R_alloc | apply Kd.R_drewN | apply Kd.R_drew)); exact HO_1002.out⟩, ⟨by (try simp only [hl23_1]); (try simp only [hl1002_1]); (with_reducible repeat (first | refine blk_drewN ?_ _ | refine blk_drew ?_ | refine blk_alloc ?_ _)); exact BK0.out⟩, ⟨by repeat (first | (with_reducible first | exact HK.out | apply Kept.alloc | apply Kept.drewN | apply Kept.drew | refine Kept.setCell ?_ (.inr GW0.out) _) | exact HK.out)⟩, ⟨Bq⟩⟩
       ·rw [if_neg c13] at H
        exact absurd H (by simp)
      ·rw [if_neg c12] at H
       exact absurd H (by simp)
     ·rw [if_neg c11] at H
      exact absurd H (by simp)
    ·rw [if_neg c10] at H
     exact absurd H (by simp)
   ·rw [if_neg c9] at H
    have c9b0 : decide (x25_1 < (t242.length : Int)) = false := decide_eq_false c9; (try simp only [hl23_1, hl1002_1] at c9b0); clear c9
    simp only [Option.some.injEq, Prod.mk.injEq] at H
    obtain ⟨rfl, rfl⟩ := H
    go_wp2
    go_ret
    exact ⟨eZ, (by first | exact (Rz (Kd.R_mono HO_1002.out (fun _ hk => hk.1))) | (simp only [hl23_1, hl1002_1]; exact (Rz (Kd.R_mono HO_1002.out (fun _ hk => hk.1))))), Bq, by repeat (first | (with_reducible first | exact HK.out | apply Kept.alloc | apply Kept.drewN | apply Kept.drew | refine Kept.setCell ?_ (.inr GW0.out) _) | exact HK.out)⟩

def impl_CountingRemove.j0 : Nat → ByteArray → Bool → Int → Int → List Int → Option (Int × Int × List Int × Bool)
 | 0, _, _, _, _, _ => none
 | k + 1, x1, x15, x251000, x251001, x251002 => if x15 = true then (some (0, 0, ([] : List Int), false)) else ((impl_cloneCounting.f x251000 x251001 x251002).bind fun bt254 => ((impl_Counting_bloom.f k x251000 x251001 x251002).bind fun bt259 => ((impl_Bloom_says.f k bt259.1 bt259.2.1 bt259.2.2.1 bt259.2.2.2 x1).bind fun t267 => (if t267 = true then ((impl_Counting_change.f k bt254.1 bt254.2.1 bt254.2.2 x1 (-1)).bind fun bt268 => (if bt268.1 = true then (some (bt254.1, bt254.2.1, bt268.2, true)) else (some (0, 0, ([] : List Int), false)))) else (some (0, 0, ([] : List Int), false))))))
def impl_CountingRemove.f (k : Nat) (a0_0 : Int) (a0_1 : Int) (l0_2 : List Int) (a1 : ByteArray) : Option (Int × Int × List Int × Bool) := (impl_IsCounting.f k a0_0 a0_1 l0_2).bind fun t252 => (if t252 = true then ((impl_IsKey.f k a1).bind fun t253 => (impl_CountingRemove.j0 k a1 (!t253) a0_0 a0_1 l0_2)) else (impl_CountingRemove.j0 k a1 true a0_0 a0_1 l0_2))
theorem impl_CountingRemove.calls (k : Nat) (a0_0 : Int) (a0_1 : Int) (A0_2 : Option Addr) (c0_2 : Nat) (l0_2 : List Int) (a1 : ByteArray) (r1 : Int) (r2 : Int) (r3 : List Int) (r4 : Bool) (w : World) (hr0_2 : Kd.C (Kd.int .i64) w A0_2 l0_2.length l0_2) (hc0_2 : l0_2.length ≤ c0_2) (h : impl_CountingRemove.f k a0_0 a0_1 l0_2 a1 = some (r1, r2, r3, r4)) :
  Calls Try.prog 32 #[.agg #[.int .i64 a0_0, .int .i64 a0_1, .slice A0_2 l0_2.length c0_2], .string a1] w fun e w' => ∃ v2_ : Value, e = .returned (.tuple #[.agg #[.int .i64 r1, .int .i64 r2, v2_], .bool r4]) ∧ Kd.R (Kd.int .i64) 3 w' w.heap.size (fun _ => True) v2_ r3 ∧ Below w.heap.size w w' := by
 have hu49 := Try.underlying49; have hu28 := Try.underlying28; have HR0_2 := am hr0_2; have HC0_2 := am hc0_2; clear hr0_2 hc0_2; have HB := am (Below.refl w.heap.size w); have H : ((impl_IsCounting.f k a0_0 a0_1 l0_2).bind fun t252 => (if t252 = true then ((impl_IsKey.f k a1).bind fun t253 => (impl_CountingRemove.j0 k a1 (!t253) a0_0 a0_1 l0_2)) else (impl_CountingRemove.j0 k a1 true a0_0 a0_1 l0_2))) = some (r1, r2, r3, r4) := h; clear h; have HC3 := am H; clear H
 go_enter Try.func32, Try.ntmps32
 go_upto_region 1 with (first | ((with_reducible refine gate_dst (N := 2) rfl ?_); refine bE 2 #[.int .i64 a0_0, .int .i64 a0_1, .slice A0_2 l0_2.length c0_2] 49 ?_; intro gb250 hg w4 hbox hb; have n0_ := Bb HB hb; have n1_ := am (hbox); have n2_ := Gl HB hg; have n3_ := Gl HB hg; clear HB; revert n0_ n1_ n2_ n3_; intro HB BK250 GW250 GE250; clear hb hbox hg) | ((with_reducible refine gate_dst (N := 4) rfl ?_); refine bE 4 #[.int .i64 0, .int .i64 0, .slice none 0 0] 49 ?_; intro gb251 hg w5 hbox hb; have n0_ := Kb BK250 hb; have n1_ := Bc HB hb; have n2_ := am (hbox); have n3_ := Gm HB hg; have n4_ := Gm HB hg; have n5_ := Nl BK250 hg; have n6_ := Ng BK250 hg; clear BK250 HB; revert n0_ n1_ n2_ n3_ n4_ n5_ n6_; intro BK250 HB BK251 GW251 GE251 NB250_251 NB251_250; clear hb hbox hg))
 (try simp only [aP])
 go_cut [15] (fun v15 wc => ∃ (kq : Nat) (x15_2 : Bool), v15 = .bool x15_2 ∧ Aside0 (impl_CountingRemove.j0 kq a1 x15_2 a0_0 a0_1 l0_2 = some (r1, r2, r3, r4)) ∧ Aside0 (kq ≤ k) ∧ Aside0 (wc.heap[gb250]? = some (.cells #[.int .i64 a0_0, .int .i64 a0_1, (.slice A0_2 l0_2.length c0_2)] 49 (0, 0))) ∧ Aside0 (wc.heap[gb251]? = some (.cells #[.int .i64 0, .int .i64 0, (.slice none 0 0)] 49 (0, 0))) ∧ Aside0 (Below w.heap.size w wc))
 case first =>
  have H := HC3.out; clear HC3; replace H := Option.bind_eq_some_iff.mp H; obtain ⟨t252, A60, H⟩ := H; (try dsimp -simprocs only at H); have A6 := am A60; clear A60
  by_cases c7 : t252 = true
  ·subst c7
   rw [if_pos rfl] at H; replace H := Option.bind_eq_some_iff.mp H; obtain ⟨t253, A80, H⟩ := H; (try dsimp -simprocs only at H); have A8 := am A80; clear A80; have H' := am H; clear H; have hnb9 := NB250_251.out; have hnc9 := NB251_250.out; obtain ⟨hcz10_0, hcz10_1, hcz10_2, hfz10_0, hfz10_1, hfz10_2⟩ := cf3 (w := w5) BK250
   go_wp2_with (first | ((with_reducible refine gate_callee (f := 67) rfl ?_); refine gL (some 9) Try.func67 #[.agg #[.int .i64 a0_0, .int .i64 a0_1, .slice A0_2 l0_2.length c0_2]] ?_; (with_reducible refine (impl_IsCounting.calls k a0_0 a0_1 _ _ l0_2 true _ ?side1 ?side2 A6.out).mono ?_); (case side1 => exact Cz (Kd.C_below HR0_2.out HB.out)); (case side2 => exact HC0_2.out); rintro e w11 ⟨rfl, hb⟩; refine ⟨_, rfl, ?_⟩; have n0_ := Kb BK250 hb; have n1_ := Kb BK251 hb; have n2_ := Bc HB hb; clear BK250 BK251 HB; revert n0_ n1_ n2_; intro BK250 BK251 HB; (try clear hb); (try clear hb2); (try clear hk); (try clear hi)) | (go_at_call 98; (with_reducible refine (impl_IsKey.calls k a1 t253 _ A8.out).mono ?_); rintro e w' ⟨rfl, ⟨nd, rfl⟩⟩))
   go_meet
   case rel => exact ⟨_, (!t253), wZ, H', ⟨by first | omega | exact Nat.le_refl _⟩, ⟨Kz BK250.out⟩, ⟨Kz BK251.out⟩, ⟨Bq⟩⟩
  ·replace c7 := Bool.eq_false_iff.mpr c7
   subst c7
   rw [if_neg (show ¬ (false = true) by decide)] at H; have H' := am H; clear H; have hnb12 := NB250_251.out; have hnc12 := NB251_250.out; obtain ⟨hcz13_0, hcz13_1, hcz13_2, hfz13_0, hfz13_1, hfz13_2⟩ := cf3 (w := w5) BK250
   go_wp2_with (first | ((with_reducible refine gate_callee (f := 67) rfl ?_); refine gL (some 9) Try.func67 #[.agg #[.int .i64 a0_0, .int .i64 a0_1, .slice A0_2 l0_2.length c0_2]] ?_; (with_reducible refine (impl_IsCounting.calls k a0_0 a0_1 _ _ l0_2 false _ ?side1 ?side2 A6.out).mono ?_); (case side1 => exact Cz (Kd.C_below HR0_2.out HB.out)); (case side2 => exact HC0_2.out); rintro e w14 ⟨rfl, hb⟩; refine ⟨_, rfl, ?_⟩; have n0_ := Kb BK250 hb; have n1_ := Kb BK251 hb; have n2_ := Bc HB hb; clear BK250 BK251 HB; revert n0_ n1_ n2_; intro BK250 BK251 HB; (try clear hb); (try clear hb2); (try clear hk); (try clear hi)))
   go_meet
   case rel => exact ⟨_, (true), wZ, H', ⟨by first | omega | exact Nat.le_refl _⟩, ⟨Kz BK250.out⟩, ⟨Kz BK251.out⟩, ⟨Bq⟩⟩
 case rest =>
  clear HC3
  try clear c1
  try clear p2
  try clear c3
  try clear c6
  try clear c7
  try clear c9
  try clear c12
  try clear hcz10_0
  try clear hcz10_1
  try clear hcz10_2
  try clear hcz13_0
  try clear hcz13_1
  try clear hcz13_2
  try clear hfz10_0
  try clear hfz10_1
  try clear hfz10_2
  try clear hfz13_0
  try clear hfz13_1
  try clear hfz13_2
  obtain ⟨kq, x15_2, rfl, HA, HJ2, BK250, BK251, HB⟩ := hcut; cases kq with
  | zero => exact absurd HA.out (by simp [impl_CountingRemove.j0])
  | succ kj2 =>
   have H := HA.out; clear HA
   simp only [impl_CountingRemove.j0] at H
   by_cases c15 : x15_2 = true
   ·subst c15
    rw [if_pos rfl] at H
    simp only [Option.some.injEq, Prod.mk.injEq] at H
    obtain ⟨rfl, rfl, rfl, rfl⟩ := H; have hnb16 := NB251_250.out; have hnc16 := NB250_251.out; obtain ⟨hcz17_0, hcz17_1, hcz17_2, hfz17_0, hfz17_1, hfz17_2⟩ := cf3 (w := wc) BK251
    go_wp2
    refine bodyPost_ret (results_ct rfl _ _ gb251 49 #[.int .i64 0, .int .i64 0, .slice none 0 0] (0, 0) _ rfl (by (with_reducible repeat (first | refine blk_drewN ?_ _ | refine blk_drew ?_ | refine blk_alloc ?_ _)); refine blk_put (cs := #[.int .i64 0, .int .i64 0, .slice none 0 0]) ?_ 2 _ rfl; (with_reducible repeat (first | refine blk_drewN ?_ _ | refine blk_drew ?_ | refine blk_alloc ?_ _)); refine blk_put (cs := #[.int .i64 0, .int .i64 0, .slice none 0 0]) ?_ 1 _ rfl; (with_reducible repeat (first | refine blk_drewN ?_ _ | refine blk_drew ?_ | refine blk_alloc ?_ _)); refine blk_put (cs := #[.int .i64 0, .int .i64 0, .slice none 0 0]) ?_ 0 _ rfl; exact Kz BK251.out) Try.underlying49 rfl (by kernel_rfl)) rfl ?_; exact ⟨_, eZ, nZ, Bq⟩
   ·replace c15 := Bool.eq_false_iff.mpr c15
    subst c15
    rw [if_neg (show ¬ (false = true) by decide)] at H; replace H := Option.bind_eq_some_iff.mp H; obtain ⟨⟨t254, t255, t256⟩, A180, H⟩ := H; (try dsimp -simprocs only at H); have A18 := am A180; clear A180; replace H := Option.bind_eq_some_iff.mp H; obtain ⟨⟨t259, t260, t261, t262⟩, A190, H⟩ := H; (try dsimp -simprocs only at H); have A19 := am A190; clear A190; replace H := Option.bind_eq_some_iff.mp H; obtain ⟨t267, A200, H⟩ := H; (try dsimp -simprocs only at H); have A20 := am A200; clear A200
    by_cases c21 : t267 = true
    ·subst c21
     rw [if_pos rfl] at H; replace H := Option.bind_eq_some_iff.mp H; obtain ⟨⟨t268, t269⟩, A220, H⟩ := H; (try dsimp -simprocs only at H); have A22 := am A220; clear A220
     by_cases c23 : t268 = true
     ·subst c23
      rw [if_pos rfl] at H
      simp only [Option.some.injEq, Prod.mk.injEq] at H
      obtain ⟨rfl, rfl, rfl, rfl⟩ := H; have hnb24 := NB250_251.out; have hnc24 := NB251_250.out; obtain ⟨hcz25_0, hcz25_1, hcz25_2, hfz25_0, hfz25_1, hfz25_2⟩ := cf3 (w := wc) BK250
      go_wp2_with (first | ((with_reducible refine gate_callee (f := 112) rfl ?_); refine gL (some 18) Try.func112 #[.agg #[.int .i64 a0_0, .int .i64 a0_1, .slice A0_2 l0_2.length c0_2]] ?_; (with_reducible refine (impl_cloneCounting.calls a0_0 a0_1 _ _ l0_2 t254 t255 t256 _ ?side1 ?side2 A18.out).mono ?_); (case side1 => exact Cz (Kd.C_below HR0_2.out HB.out)); (case side2 => exact HC0_2.out); rintro e w26 ⟨v257, rfl, ho0, hb⟩; refine ⟨_, rfl, ?_⟩; have n0_ := Rm ho0 HB; have n1_ := Kb BK250 hb; have n2_ := Kb BK251 hb; have n3_ := Bc HB hb; clear BK250 BK251 HB; revert n0_ n1_ n2_ n3_; intro HO258 BK250 BK251 HB; (try clear hb); (try clear hb2); (try clear hk); (try clear hi); (try clear ho0)) | ((with_reducible refine gate_callee (f := 113) rfl ?_); refine gL (some 19) Try.func113 #[.pointer (some ⟨gb250, 0, none⟩)] ?_; (with_reducible refine (impl_Counting_bloom.calls kj2 gb250 a0_0 a0_1 A0_2 c0_2 l0_2 t259 t260 t261 t262 _ ?side1 ?side2 ?side3 A19.out).mono ?_); (case side1 => exact Kz BK250.out); (case side2 => exact Cz (Kd.C_below HR0_2.out HB.out)); (case side3 => exact HC0_2.out); rintro e w27 ⟨v263, rfl, ho0, hb⟩; refine ⟨_, rfl, ?_⟩; have n0_ := Re HO258 (Kd.R_base ho0) hb; have n1_ := Rm (Kd.R_new' ho0 (Kd.R_lt (Rz HO258.out))) HB; have n2_ := Kb BK250 hb; have n3_ := Kb BK251 hb; have n4_ := Bc HB hb; clear HO258 BK250 BK251 HB; revert n0_ n1_ n2_ n3_ n4_; intro HO258 HO264 BK250 BK251 HB; (try clear hb); (try clear hb2); (try clear hk); (try clear hi); (try clear ho0)) | ((with_reducible refine gate_dst (N := 6) rfl ?_); refine bE 6 #[.int .i64 0, .int .i64 0, .slice none 0 0] 49 ?_; intro gb265 hg w28 hbox hb; have n0_ := Rb HO258 hb; have n1_ := Rb HO264 hb; have n2_ := Kb BK250 hb; have n3_ := Kb BK251 hb; have n4_ := Bc HB hb; have n5_ := am (hbox); have n6_ := Gm HB hg; have n7_ := Gm HB hg; have n8_ := Nl BK250 hg; have n9_ := Ng BK250 hg; have n10_ := Nl BK251 hg; have n11_ := Ng BK251 hg; clear HO258 HO264 BK250 BK251 HB; revert n0_ n1_ n2_ n3_ n4_ n5_ n6_ n7_ n8_ n9_ n10_ n11_; intro HO258 HO264 BK250 BK251 HB BK265 GW265 GE265 NB250_265 NB265_250 NB251_265 NB265_251; clear hb hbox hg) | ((with_reducible refine gate_dst (N := 7) rfl ?_); refine bE 7 #[.int .i64 0, .int .i64 0, .int .i64 0, .slice none 0 0] 28 ?_; intro gb266 hg w29 hbox hb; have n0_ := Rb HO258 hb; have n1_ := Rb HO264 hb; have n2_ := Kb BK250 hb; have n3_ := Kb BK251 hb; have n4_ := Kb BK265 hb; have n5_ := Bc HB hb; have n6_ := am (hbox); have n7_ := Gm HB hg; have n8_ := Gm HB hg; have n9_ := Nl BK250 hg; have n10_ := Ng BK250 hg; have n11_ := Nl BK251 hg; have n12_ := Ng BK251 hg; have n13_ := Nl BK265 hg; have n14_ := Ng BK265 hg; clear HO258 HO264 BK250 BK251 BK265 HB; revert n0_ n1_ n2_ n3_ n4_ n5_ n6_ n7_ n8_ n9_ n10_ n11_ n12_ n13_ n14_; intro HO258 HO264 BK250 BK251 BK265 HB BK266 GW266 GE266 NB250_266 NB266_250 NB251_266 NB266_251 NB265_266 NB266_265; clear hb hbox hg; have hnb30 := NB265_250.out; have hnc30 := NB250_265.out; have hnb31 := NB265_251.out; have hnc31 := NB251_265.out; have hnb32 := NB265_266.out; have hnc32 := NB266_265.out; obtain ⟨hcz33_0, hcz33_1, hcz33_2, hfz33_0, hfz33_1, hfz33_2⟩ := cf3 (w := w29) BK265; obtain ⟨Ao34, co34, eo34⟩ := Kd.R_slice HO258.out; subst eo34; have hnb35 := NB266_250.out; have hnc35 := NB250_266.out; have hnb36 := NB266_251.out; have hnc36 := NB251_266.out; obtain ⟨hcz37_0, hcz37_1, hcz37_2, hcz37_3, hfz37_0, hfz37_1, hfz37_2, hfz37_3⟩ := cf4 (w := w29) BK266; obtain ⟨Ao38, co38, eo38⟩ := Kd.R_slice HO264.out; subst eo38) | ((with_reducible refine gate_callee (f := 105) rfl ?_); refine gL (some 21) Try.func105 #[.pointer (some ⟨gb266, 0, none⟩), .string a1] ?_; (with_reducible refine (impl_Bloom_says.calls kj2 gb266 t259 t260 t261 Ao38 co38 t262 a1 true _ ?side1 ?side2 ?side3 A20.out).mono ?_); (case side1 => (with_reducible repeat (first | refine blk_drewN ?_ _ | refine blk_drew ?_ | refine blk_alloc ?_ _)); refine blk_put (cs := #[.int .i64 t259, .int .i64 t260, .int .i64 t261, .slice none 0 0]) ?_ 3 _ rfl; (with_reducible repeat (first | refine blk_drewN ?_ _ | refine blk_drew ?_ | refine blk_alloc ?_ _)); refine blk_put (cs := #[.int .i64 t259, .int .i64 t260, .int .i64 0, .slice none 0 0]) ?_ 2 _ rfl; (with_reducible repeat (first | refine blk_drewN ?_ _ | refine blk_drew ?_ | refine blk_alloc ?_ _)); refine blk_put (cs := #[.int .i64 t259, .int .i64 0, .int .i64 0, .slice none 0 0]) ?_ 1 _ rfl; (with_reducible repeat (first | refine blk_drewN ?_ _ | refine blk_drew ?_ | refine blk_alloc ?_ _)); refine blk_put (cs := #[.int .i64 0, .int .i64 0, .int .i64 0, .slice none 0 0]) ?_ 0 _ rfl; (with_reducible repeat (first | refine blk_drewN ?_ _ | refine blk_drew ?_ | refine blk_alloc ?_ _)); refine blk_far ?_ NB266_265.out _; (with_reducible repeat (first | refine blk_drewN ?_ _ | refine blk_drew ?_ | refine blk_alloc ?_ _)); refine blk_far ?_ NB266_265.out _; (with_reducible repeat (first | refine blk_drewN ?_ _ | refine blk_drew ?_ | refine blk_alloc ?_ _)); refine blk_far ?_ NB266_265.out _; exact Kz BK266.out); (case side2 => refine (Kd.R_reads' (e := 3) (base := w.heap.size) (ok := fun k_ => (True ∧ some k_ ≠ (.slice Ao34 t256.length co34 : Value).ownBlock)) (n := t262.length) (c := co38) ?_).2.2; exact (Rz (Kd.R_mono (Kd.R_mono (Kd.R_far (p := ⟨gb266, 3, none⟩) (Kd.R_far (p := ⟨gb266, 2, none⟩) (Kd.R_far (p := ⟨gb266, 1, none⟩) (Kd.R_far (p := ⟨gb266, 0, none⟩) (Kd.R_far (p := ⟨gb265, 2, none⟩) (Kd.R_far (p := ⟨gb265, 1, none⟩) (Kd.R_far (p := ⟨gb265, 0, none⟩) (Kd.R_types (Kd.R_types HO264.out BK265.out (by decide)) BK266.out (by decide)) (fun _ hk => hk.1.2) (.int .i64 t254)) (fun _ hk => hk.1.2) (.int .i64 t255)) (fun _ hk => hk.1.2) (.slice Ao34 t256.length co34)) (fun _ hk => hk.2) (.int .i64 t259)) (fun _ hk => hk.2) (.int .i64 t260)) (fun _ hk => hk.2) (.int .i64 t261)) (fun _ hk => hk.2) (.slice Ao38 t262.length co38)) (fun _ h_ => h_.1)) (fun _ h_ => h_.1)))); (case side3 => exact (Kd.R_reads' HO264.out).2.1); rintro e w39 ⟨rfl, hb⟩; refine ⟨_, rfl, ?_⟩; have n0_ := am (Kd.R_below (Rz (Kd.R_mono (Kd.R_mono (Kd.R_far (p := ⟨gb266, 3, none⟩) (Kd.R_far (p := ⟨gb266, 2, none⟩) (Kd.R_far (p := ⟨gb266, 1, none⟩) (Kd.R_far (p := ⟨gb266, 0, none⟩) (Kd.R_far (p := ⟨gb265, 2, none⟩) (Kd.R_far (p := ⟨gb265, 1, none⟩) (Kd.R_far (p := ⟨gb265, 0, none⟩) (Kd.R_types (Kd.R_types HO258.out BK265.out (by decide)) BK266.out (by decide)) (fun _ hk => hk.1.2) (.int .i64 t254)) (fun _ hk => hk.1.2) (.int .i64 t255)) (fun _ hk => hk.1.2) (.slice Ao34 t256.length co34)) (fun _ hk => hk.2) (.int .i64 t259)) (fun _ hk => hk.2) (.int .i64 t260)) (fun _ hk => hk.2) (.int .i64 t261)) (fun _ hk => hk.2) (.slice Ao38 t262.length co38)) (fun _ h_ => h_.1)) (fun _ h_ => h_.1))) hb); have n1_ := am (Kd.R_below (Rz (Kd.R_mono (Kd.R_mono (Kd.R_far (p := ⟨gb266, 3, none⟩) (Kd.R_far (p := ⟨gb266, 2, none⟩) (Kd.R_far (p := ⟨gb266, 1, none⟩) (Kd.R_far (p := ⟨gb266, 0, none⟩) (Kd.R_far (p := ⟨gb265, 2, none⟩) (Kd.R_far (p := ⟨gb265, 1, none⟩) (Kd.R_far (p := ⟨gb265, 0, none⟩) (Kd.R_types (Kd.R_types HO264.out BK265.out (by decide)) BK266.out (by decide)) (fun _ hk => hk.1.2) (.int .i64 t254)) (fun _ hk => hk.1.2) (.int .i64 t255)) (fun _ hk => hk.1.2) (.slice Ao34 t256.length co34)) (fun _ hk => hk.2) (.int .i64 t259)) (fun _ hk => hk.2) (.int .i64 t260)) (fun _ hk => hk.2) (.int .i64 t261)) (fun _ hk => hk.2) (.slice Ao38 t262.length co38)) (fun _ h_ => h_.1)) (fun _ h_ => h_.1))) hb); have n2_ := am (blk_below (g := gb250) (o := .cells #[.int .i64 a0_0, .int .i64 a0_1, .slice A0_2 l0_2.length c0_2] 49 (0, 0)) (by (with_reducible repeat (first | refine blk_drewN ?_ _ | refine blk_drew ?_ | refine blk_alloc ?_ _)); refine blk_far ?_ NB250_266.out _; (with_reducible repeat (first | refine blk_drewN ?_ _ | refine blk_drew ?_ | refine blk_alloc ?_ _)); refine blk_far ?_ NB250_266.out _; (with_reducible repeat (first | refine blk_drewN ?_ _ | refine blk_drew ?_ | refine blk_alloc ?_ _)); refine blk_far ?_ NB250_266.out _; (with_reducible repeat (first | refine blk_drewN ?_ _ | refine blk_drew ?_ | refine blk_alloc ?_ _)); refine blk_far ?_ NB250_266.out _; (with_reducible repeat (first | refine blk_drewN ?_ _ | refine blk_drew ?_ | refine blk_alloc ?_ _)); refine blk_far ?_ NB250_265.out _; (with_reducible repeat (first | refine blk_drewN ?_ _ | refine blk_drew ?_ | refine blk_alloc ?_ _)); refine blk_far ?_ NB250_265.out _; (with_reducible repeat (first | refine blk_drewN ?_ _ | refine blk_drew ?_ | refine blk_alloc ?_ _)); refine blk_far ?_ NB250_265.out _; exact Kz BK250.out) hb); have n3_ := am (blk_below (g := gb251) (o := .cells #[.int .i64 0, .int .i64 0, .slice none 0 0] 49 (0, 0)) (by (with_reducible repeat (first | refine blk_drewN ?_ _ | refine blk_drew ?_ | refine blk_alloc ?_ _)); refine blk_far ?_ NB251_266.out _; (with_reducible repeat (first | refine blk_drewN ?_ _ | refine blk_drew ?_ | refine blk_alloc ?_ _)); refine blk_far ?_ NB251_266.out _; (with_reducible repeat (first | refine blk_drewN ?_ _ | refine blk_drew ?_ | refine blk_alloc ?_ _)); refine blk_far ?_ NB251_266.out _; (with_reducible repeat (first | refine blk_drewN ?_ _ | refine blk_drew ?_ | refine blk_alloc ?_ _)); refine blk_far ?_ NB251_266.out _; (with_reducible repeat (first | refine blk_drewN ?_ _ | refine blk_drew ?_ | refine blk_alloc ?_ _)); refine blk_far ?_ NB251_265.out _; (with_reducible repeat (first | refine blk_drewN ?_ _ | refine blk_drew ?_ | refine blk_alloc ?_ _)); refine blk_far ?_ NB251_265.out _; (with_reducible repeat (first | refine blk_drewN ?_ _ | refine blk_drew ?_ | refine blk_alloc ?_ _)); refine blk_far ?_ NB251_265.out _; exact Kz BK251.out) hb); have n4_ := am (blk_below (g := gb265) (o := .cells #[.int .i64 t254, .int .i64 t255, .slice Ao34 t256.length co34] 49 (0, 0)) (by (with_reducible repeat (first | refine blk_drewN ?_ _ | refine blk_drew ?_ | refine blk_alloc ?_ _)); refine blk_far ?_ NB265_266.out _; (with_reducible repeat (first | refine blk_drewN ?_ _ | refine blk_drew ?_ | refine blk_alloc ?_ _)); refine blk_far ?_ NB265_266.out _; (with_reducible repeat (first | refine blk_drewN ?_ _ | refine blk_drew ?_ | refine blk_alloc ?_ _)); refine blk_far ?_ NB265_266.out _; (with_reducible repeat (first | refine blk_drewN ?_ _ | refine blk_drew ?_ | refine blk_alloc ?_ _)); refine blk_far ?_ NB265_266.out _; (with_reducible repeat (first | refine blk_drewN ?_ _ | refine blk_drew ?_ | refine blk_alloc ?_ _)); refine blk_put (cs := #[.int .i64 t254, .int .i64 t255, .slice none 0 0]) ?_ 2 _ rfl; (with_reducible repeat (first | refine blk_drewN ?_ _ | refine blk_drew ?_ | refine blk_alloc ?_ _)); refine blk_put (cs := #[.int .i64 t254, .int .i64 0, .slice none 0 0]) ?_ 1 _ rfl; (with_reducible repeat (first | refine blk_drewN ?_ _ | refine blk_drew ?_ | refine blk_alloc ?_ _)); refine blk_put (cs := #[.int .i64 0, .int .i64 0, .slice none 0 0]) ?_ 0 _ rfl; exact Kz BK265.out) hb); have n5_ := am (blk_below (g := gb266) (o := .cells #[.int .i64 t259, .int .i64 t260, .int .i64 t261, .slice Ao38 t262.length co38] 28 (0, 0)) (by (with_reducible repeat (first | refine blk_drewN ?_ _ | refine blk_drew ?_ | refine blk_alloc ?_ _)); refine blk_put (cs := #[.int .i64 t259, .int .i64 t260, .int .i64 t261, .slice none 0 0]) ?_ 3 _ rfl; (with_reducible repeat (first | refine blk_drewN ?_ _ | refine blk_drew ?_ | refine blk_alloc ?_ _)); refine blk_put (cs := #[.int .i64 t259, .int .i64 t260, .int .i64 0, .slice none 0 0]) ?_ 2 _ rfl; (with_reducible repeat (first | refine blk_drewN ?_ _ | refine blk_drew ?_ | refine blk_alloc ?_ _)); refine blk_put (cs := #[.int .i64 t259, .int .i64 0, .int .i64 0, .slice none 0 0]) ?_ 1 _ rfl; (with_reducible repeat (first | refine blk_drewN ?_ _ | refine blk_drew ?_ | refine blk_alloc ?_ _)); refine blk_put (cs := #[.int .i64 0, .int .i64 0, .int .i64 0, .slice none 0 0]) ?_ 0 _ rfl; (with_reducible repeat (first | refine blk_drewN ?_ _ | refine blk_drew ?_ | refine blk_alloc ?_ _)); refine blk_far ?_ NB266_265.out _; (with_reducible repeat (first | refine blk_drewN ?_ _ | refine blk_drew ?_ | refine blk_alloc ?_ _)); refine blk_far ?_ NB266_265.out _; (with_reducible repeat (first | refine blk_drewN ?_ _ | refine blk_drew ?_ | refine blk_alloc ?_ _)); refine blk_far ?_ NB266_265.out _; exact Kz BK266.out) hb); have n6_ := Bc HB hb; clear HO258 HO264 BK250 BK251 BK265 BK266 HB; revert n0_ n1_ n2_ n3_ n4_ n5_ n6_; intro HO258 HO264 BK250 BK251 BK265 BK266 HB; (try clear hb); (try clear hb2); (try clear hk); (try clear hi)) | (go_at_call 114; (with_reducible refine (impl_Counting_change.calls kj2 gb265 t254 t255 (fun k_ => some k_ = (.slice Ao34 t256.length co34 : Value).ownBlock) (.slice Ao34 t256.length co34) t256 a1 (-1) true t269 w _ ?side1 ?side2 ?side3 A22.out).mono ?_); (case side1 => repeat (first | (with_reducible first | exact HB.out | apply below_alloc | apply pw_below_drewN | apply below_drew1 | refine below_set ?_ GE250.out | refine below_set ?_ GE251.out | refine below_set ?_ GE265.out | refine below_set ?_ GE266.out) | exact HB.out)); (case side2 => exact Kz BK265.out); (case side3 => exact Kd.R_tight rfl HO258.out); rintro e w40 ⟨rfl, hy0, hb, hkp⟩; have n0_ := am (blk_kept (Kz BK250.out) hkp (fun hs_ => (fun e_ => (Kd.R_ne HO258.out BK250.out (by decide)) e_) hs_)); have n1_ := am (blk_kept (Kz BK251.out) hkp (fun hs_ => (fun e_ => (Kd.R_ne HO258.out BK251.out (by decide)) e_) hs_)); have n2_ := am (Kd.R_reok rfl hy0 (fun k_ e_ => HO258.out.1 k_ e_)); have n3_ := am (Kd.R_mono (ok' := fun k_ => some k_ ≠ (.slice Ao34 t256.length co34 : Value).ownBlock) (Kd.R_keptB (HO264.out) hkp (fun k_ hk_ hs_ => (hk_.2) hs_)) (fun k_ hk_ => hk_.1.2)); have n4_ := am (blk_kept (Kz BK265.out) hkp (fun hs_ => (fun e_ => (Kd.R_ne HO258.out BK265.out (by decide)) e_) hs_)); have n5_ := am (blk_kept (Kz BK266.out) hkp (fun hs_ => (fun e_ => (Kd.R_ne HO258.out BK266.out (by decide)) e_) hs_)); have n6_ := am (hb); clear BK250 BK251 HO258 HO264 BK265 BK266 HB; revert n0_ n1_ n2_ n3_ n4_ n5_ n6_; intro BK250 BK251 HO258 HO264 BK265 BK266 HB; (try clear hb); (try clear hkp); (try clear hy0); obtain ⟨hcz41_0, hcz41_1, hcz41_2, hfz41_0, hfz41_1, hfz41_2⟩ := cf3 (w := w40) BK265; obtain ⟨hcz42_0, hcz42_1, hcz42_2, hfz42_0, hfz42_1, hfz42_2⟩ := cf3 (w := w40) BK251))
      refine bodyPost_ret (results_ct rfl _ _ gb251 49 #[.int .i64 t254, .int .i64 t255, .slice Ao34 t256.length co34] (0, 0) _ rfl (by (with_reducible repeat (first | refine blk_drewN ?_ _ | refine blk_drew ?_ | refine blk_alloc ?_ _)); refine blk_put (cs := #[.int .i64 t254, .int .i64 t255, .slice none 0 0]) ?_ 2 _ rfl; (with_reducible repeat (first | refine blk_drewN ?_ _ | refine blk_drew ?_ | refine blk_alloc ?_ _)); refine blk_put (cs := #[.int .i64 t254, .int .i64 0, .slice none 0 0]) ?_ 1 _ rfl; (with_reducible repeat (first | refine blk_drewN ?_ _ | refine blk_drew ?_ | refine blk_alloc ?_ _)); refine blk_put (cs := #[.int .i64 0, .int .i64 0, .slice none 0 0]) ?_ 0 _ rfl; exact Kz BK251.out) Try.underlying49 rfl (by kernel_rfl)) rfl ?_; exact ⟨_, eZ, Rz (Kd.R_mono (Kd.R_far (p := ⟨gb251, 2, none⟩) (Kd.R_far (p := ⟨gb251, 1, none⟩) (Kd.R_far (p := ⟨gb251, 0, none⟩) (Kd.R_types HO258.out BK251.out (by decide)) (fun _ hk => hk.2) (.int .i64 t254)) (fun _ hk => hk.2) (.int .i64 t255)) (fun _ hk => hk.2) (.slice Ao34 t256.length co34)) (fun _ hk => trivial)), Bq⟩
     ·replace c23 := Bool.eq_false_iff.mpr c23
      subst c23
      rw [if_neg (show ¬ (false = true) by decide)] at H
      simp only [Option.some.injEq, Prod.mk.injEq] at H
      obtain ⟨rfl, rfl, rfl, rfl⟩ := H; have hnb43 := NB250_251.out; have hnc43 := NB251_250.out; obtain ⟨hcz44_0, hcz44_1, hcz44_2, hfz44_0, hfz44_1, hfz44_2⟩ := cf3 (w := wc) BK250
      go_wp2_with (first | ((with_reducible refine gate_callee (f := 112) rfl ?_); refine gL (some 18) Try.func112 #[.agg #[.int .i64 a0_0, .int .i64 a0_1, .slice A0_2 l0_2.length c0_2]] ?_; (with_reducible refine (impl_cloneCounting.calls a0_0 a0_1 _ _ l0_2 t254 t255 t256 _ ?side1 ?side2 A18.out).mono ?_); (case side1 => exact Cz (Kd.C_below HR0_2.out HB.out)); (case side2 => exact HC0_2.out); rintro e w45 ⟨v257, rfl, ho0, hb⟩; refine ⟨_, rfl, ?_⟩; have n0_ := Rm ho0 HB; have n1_ := Kb BK250 hb; have n2_ := Kb BK251 hb; have n3_ := Bc HB hb; clear BK250 BK251 HB; revert n0_ n1_ n2_ n3_; intro HO258 BK250 BK251 HB; (try clear hb); (try clear hb2); (try clear hk); (try clear hi); (try clear ho0)) | ((with_reducible refine gate_callee (f := 113) rfl ?_); refine gL (some 19) Try.func113 #[.pointer (some ⟨gb250, 0, none⟩)] ?_; (with_reducible refine (impl_Counting_bloom.calls kj2 gb250 a0_0 a0_1 A0_2 c0_2 l0_2 t259 t260 t261 t262 _ ?side1 ?side2 ?side3 A19.out).mono ?_); (case side1 => exact Kz BK250.out); (case side2 => exact Cz (Kd.C_below HR0_2.out HB.out)); (case side3 => exact HC0_2.out); rintro e w46 ⟨v263, rfl, ho0, hb⟩; refine ⟨_, rfl, ?_⟩; have n0_ := Re HO258 (Kd.R_base ho0) hb; have n1_ := Rm (Kd.R_new' ho0 (Kd.R_lt (Rz HO258.out))) HB; have n2_ := Kb BK250 hb; have n3_ := Kb BK251 hb; have n4_ := Bc HB hb; clear HO258 BK250 BK251 HB; revert n0_ n1_ n2_ n3_ n4_; intro HO258 HO264 BK250 BK251 HB; (try clear hb); (try clear hb2); (try clear hk); (try clear hi); (try clear ho0)) | ((with_reducible refine gate_dst (N := 6) rfl ?_); refine bE 6 #[.int .i64 0, .int .i64 0, .slice none 0 0] 49 ?_; intro gb265 hg w47 hbox hb; have n0_ := Rb HO258 hb; have n1_ := Rb HO264 hb; have n2_ := Kb BK250 hb; have n3_ := Kb BK251 hb; have n4_ := Bc HB hb; have n5_ := am (hbox); have n6_ := Gm HB hg; have n7_ := Gm HB hg; have n8_ := Nl BK250 hg; have n9_ := Ng BK250 hg; have n10_ := Nl BK251 hg; have n11_ := Ng BK251 hg; clear HO258 HO264 BK250 BK251 HB; revert n0_ n1_ n2_ n3_ n4_ n5_ n6_ n7_ n8_ n9_ n10_ n11_; intro HO258 HO264 BK250 BK251 HB BK265 GW265 GE265 NB250_265 NB265_250 NB251_265 NB265_251; clear hb hbox hg) | ((with_reducible refine gate_dst (N := 7) rfl ?_); refine bE 7 #[.int .i64 0, .int .i64 0, .int .i64 0, .slice none 0 0] 28 ?_; intro gb266 hg w48 hbox hb; have n0_ := Rb HO258 hb; have n1_ := Rb HO264 hb; have n2_ := Kb BK250 hb; have n3_ := Kb BK251 hb; have n4_ := Kb BK265 hb; have n5_ := Bc HB hb; have n6_ := am (hbox); have n7_ := Gm HB hg; have n8_ := Gm HB hg; have n9_ := Nl BK250 hg; have n10_ := Ng BK250 hg; have n11_ := Nl BK251 hg; have n12_ := Ng BK251 hg; have n13_ := Nl BK265 hg; have n14_ := Ng BK265 hg; clear HO258 HO264 BK250 BK251 BK265 HB; revert n0_ n1_ n2_ n3_ n4_ n5_ n6_ n7_ n8_ n9_ n10_ n11_ n12_ n13_ n14_; intro HO258 HO264 BK250 BK251 BK265 HB BK266 GW266 GE266 NB250_266 NB266_250 NB251_266 NB266_251 NB265_266 NB266_265; clear hb hbox hg; have hnb49 := NB265_250.out; have hnc49 := NB250_265.out; have hnb50 := NB265_251.out; have hnc50 := NB251_265.out; have hnb51 := NB265_266.out; have hnc51 := NB266_265.out; obtain ⟨hcz52_0, hcz52_1, hcz52_2, hfz52_0, hfz52_1, hfz52_2⟩ := cf3 (w := w48) BK265; obtain ⟨Ao53, co53, eo53⟩ := Kd.R_slice HO258.out; subst eo53; have hnb54 := NB266_250.out; have hnc54 := NB250_266.out; have hnb55 := NB266_251.out; have hnc55 := NB251_266.out; obtain ⟨hcz56_0, hcz56_1, hcz56_2, hcz56_3, hfz56_0, hfz56_1, hfz56_2, hfz56_3⟩ := cf4 (w := w48) BK266; obtain ⟨Ao57, co57, eo57⟩ := Kd.R_slice HO264.out; subst eo57) | ((with_reducible refine gate_callee (f := 105) rfl ?_); refine gL (some 21) Try.func105 #[.pointer (some ⟨gb266, 0, none⟩), .string a1] ?_; (with_reducible refine (impl_Bloom_says.calls kj2 gb266 t259 t260 t261 Ao57 co57 t262 a1 true _ ?side1 ?side2 ?side3 A20.out).mono ?_); (case side1 => (with_reducible repeat (first | refine blk_drewN ?_ _ | refine blk_drew ?_ | refine blk_alloc ?_ _)); refine blk_put (cs := #[.int .i64 t259, .int .i64 t260, .int .i64 t261, .slice none 0 0]) ?_ 3 _ rfl; (with_reducible repeat (first | refine blk_drewN ?_ _ | refine blk_drew ?_ | refine blk_alloc ?_ _)); refine blk_put (cs := #[.int .i64 t259, .int .i64 t260, .int .i64 0, .slice none 0 0]) ?_ 2 _ rfl; (with_reducible repeat (first | refine blk_drewN ?_ _ | refine blk_drew ?_ | refine blk_alloc ?_ _)); refine blk_put (cs := #[.int .i64 t259, .int .i64 0, .int .i64 0, .slice none 0 0]) ?_ 1 _ rfl; (with_reducible repeat (first | refine blk_drewN ?_ _ | refine blk_drew ?_ | refine blk_alloc ?_ _)); refine blk_put (cs := #[.int .i64 0, .int .i64 0, .int .i64 0, .slice none 0 0]) ?_ 0 _ rfl; (with_reducible repeat (first | refine blk_drewN ?_ _ | refine blk_drew ?_ | refine blk_alloc ?_ _)); refine blk_far ?_ NB266_265.out _; (with_reducible repeat (first | refine blk_drewN ?_ _ | refine blk_drew ?_ | refine blk_alloc ?_ _)); refine blk_far ?_ NB266_265.out _; (with_reducible repeat (first | refine blk_drewN ?_ _ | refine blk_drew ?_ | refine blk_alloc ?_ _)); refine blk_far ?_ NB266_265.out _; exact Kz BK266.out); (case side2 => refine (Kd.R_reads' (e := 3) (base := w.heap.size) (ok := fun k_ => (True ∧ some k_ ≠ (.slice Ao53 t256.length co53 : Value).ownBlock)) (n := t262.length) (c := co57) ?_).2.2; exact (Rz (Kd.R_mono (Kd.R_mono (Kd.R_far (p := ⟨gb266, 3, none⟩) (Kd.R_far (p := ⟨gb266, 2, none⟩) (Kd.R_far (p := ⟨gb266, 1, none⟩) (Kd.R_far (p := ⟨gb266, 0, none⟩) (Kd.R_far (p := ⟨gb265, 2, none⟩) (Kd.R_far (p := ⟨gb265, 1, none⟩) (Kd.R_far (p := ⟨gb265, 0, none⟩) (Kd.R_types (Kd.R_types HO264.out BK265.out (by decide)) BK266.out (by decide)) (fun _ hk => hk.1.2) (.int .i64 t254)) (fun _ hk => hk.1.2) (.int .i64 t255)) (fun _ hk => hk.1.2) (.slice Ao53 t256.length co53)) (fun _ hk => hk.2) (.int .i64 t259)) (fun _ hk => hk.2) (.int .i64 t260)) (fun _ hk => hk.2) (.int .i64 t261)) (fun _ hk => hk.2) (.slice Ao57 t262.length co57)) (fun _ h_ => h_.1)) (fun _ h_ => h_.1)))); (case side3 => exact (Kd.R_reads' HO264.out).2.1); rintro e w58 ⟨rfl, hb⟩; refine ⟨_, rfl, ?_⟩; have n0_ := am (Kd.R_below (Rz (Kd.R_mono (Kd.R_mono (Kd.R_far (p := ⟨gb266, 3, none⟩) (Kd.R_far (p := ⟨gb266, 2, none⟩) (Kd.R_far (p := ⟨gb266, 1, none⟩) (Kd.R_far (p := ⟨gb266, 0, none⟩) (Kd.R_far (p := ⟨gb265, 2, none⟩) (Kd.R_far (p := ⟨gb265, 1, none⟩) (Kd.R_far (p := ⟨gb265, 0, none⟩) (Kd.R_types (Kd.R_types HO258.out BK265.out (by decide)) BK266.out (by decide)) (fun _ hk => hk.1.2) (.int .i64 t254)) (fun _ hk => hk.1.2) (.int .i64 t255)) (fun _ hk => hk.1.2) (.slice Ao53 t256.length co53)) (fun _ hk => hk.2) (.int .i64 t259)) (fun _ hk => hk.2) (.int .i64 t260)) (fun _ hk => hk.2) (.int .i64 t261)) (fun _ hk => hk.2) (.slice Ao57 t262.length co57)) (fun _ h_ => h_.1)) (fun _ h_ => h_.1))) hb); have n1_ := am (Kd.R_below (Rz (Kd.R_mono (Kd.R_mono (Kd.R_far (p := ⟨gb266, 3, none⟩) (Kd.R_far (p := ⟨gb266, 2, none⟩) (Kd.R_far (p := ⟨gb266, 1, none⟩) (Kd.R_far (p := ⟨gb266, 0, none⟩) (Kd.R_far (p := ⟨gb265, 2, none⟩) (Kd.R_far (p := ⟨gb265, 1, none⟩) (Kd.R_far (p := ⟨gb265, 0, none⟩) (Kd.R_types (Kd.R_types HO264.out BK265.out (by decide)) BK266.out (by decide)) (fun _ hk => hk.1.2) (.int .i64 t254)) (fun _ hk => hk.1.2) (.int .i64 t255)) (fun _ hk => hk.1.2) (.slice Ao53 t256.length co53)) (fun _ hk => hk.2) (.int .i64 t259)) (fun _ hk => hk.2) (.int .i64 t260)) (fun _ hk => hk.2) (.int .i64 t261)) (fun _ hk => hk.2) (.slice Ao57 t262.length co57)) (fun _ h_ => h_.1)) (fun _ h_ => h_.1))) hb); have n2_ := am (blk_below (g := gb250) (o := .cells #[.int .i64 a0_0, .int .i64 a0_1, .slice A0_2 l0_2.length c0_2] 49 (0, 0)) (by (with_reducible repeat (first | refine blk_drewN ?_ _ | refine blk_drew ?_ | refine blk_alloc ?_ _)); refine blk_far ?_ NB250_266.out _; (with_reducible repeat (first | refine blk_drewN ?_ _ | refine blk_drew ?_ | refine blk_alloc ?_ _)); refine blk_far ?_ NB250_266.out _; (with_reducible repeat (first | refine blk_drewN ?_ _ | refine blk_drew ?_ | refine blk_alloc ?_ _)); refine blk_far ?_ NB250_266.out _; (with_reducible repeat (first | refine blk_drewN ?_ _ | refine blk_drew ?_ | refine blk_alloc ?_ _)); refine blk_far ?_ NB250_266.out _; (with_reducible repeat (first | refine blk_drewN ?_ _ | refine blk_drew ?_ | refine blk_alloc ?_ _)); refine blk_far ?_ NB250_265.out _; (with_reducible repeat (first | refine blk_drewN ?_ _ | refine blk_drew ?_ | refine blk_alloc ?_ _)); refine blk_far ?_ NB250_265.out _; (with_reducible repeat (first | refine blk_drewN ?_ _ | refine blk_drew ?_ | refine blk_alloc ?_ _)); refine blk_far ?_ NB250_265.out _; exact Kz BK250.out) hb); have n3_ := am (blk_below (g := gb251) (o := .cells #[.int .i64 0, .int .i64 0, .slice none 0 0] 49 (0, 0)) (by (with_reducible repeat (first | refine blk_drewN ?_ _ | refine blk_drew ?_ | refine blk_alloc ?_ _)); refine blk_far ?_ NB251_266.out _; (with_reducible repeat (first | refine blk_drewN ?_ _ | refine blk_drew ?_ | refine blk_alloc ?_ _)); refine blk_far ?_ NB251_266.out _; (with_reducible repeat (first | refine blk_drewN ?_ _ | refine blk_drew ?_ | refine blk_alloc ?_ _)); refine blk_far ?_ NB251_266.out _; (with_reducible repeat (first | refine blk_drewN ?_ _ | refine blk_drew ?_ | refine blk_alloc ?_ _)); refine blk_far ?_ NB251_266.out _; (with_reducible repeat (first | refine blk_drewN ?_ _ | refine blk_drew ?_ | refine blk_alloc ?_ _)); refine blk_far ?_ NB251_265.out _; (with_reducible repeat (first | refine blk_drewN ?_ _ | refine blk_drew ?_ | refine blk_alloc ?_ _)); refine blk_far ?_ NB251_265.out _; (with_reducible repeat (first | refine blk_drewN ?_ _ | refine blk_drew ?_ | refine blk_alloc ?_ _)); refine blk_far ?_ NB251_265.out _; exact Kz BK251.out) hb); have n4_ := am (blk_below (g := gb265) (o := .cells #[.int .i64 t254, .int .i64 t255, .slice Ao53 t256.length co53] 49 (0, 0)) (by (with_reducible repeat (first | refine blk_drewN ?_ _ | refine blk_drew ?_ | refine blk_alloc ?_ _)); refine blk_far ?_ NB265_266.out _; (with_reducible repeat (first | refine blk_drewN ?_ _ | refine blk_drew ?_ | refine blk_alloc ?_ _)); refine blk_far ?_ NB265_266.out _; (with_reducible repeat (first | refine blk_drewN ?_ _ | refine blk_drew ?_ | refine blk_alloc ?_ _)); refine blk_far ?_ NB265_266.out _; (with_reducible repeat (first | refine blk_drewN ?_ _ | refine blk_drew ?_ | refine blk_alloc ?_ _)); refine blk_far ?_ NB265_266.out _; (with_reducible repeat (first | refine blk_drewN ?_ _ | refine blk_drew ?_ | refine blk_alloc ?_ _)); refine blk_put (cs := #[.int .i64 t254, .int .i64 t255, .slice none 0 0]) ?_ 2 _ rfl; (with_reducible repeat (first | refine blk_drewN ?_ _ | refine blk_drew ?_ | refine blk_alloc ?_ _)); refine blk_put (cs := #[.int .i64 t254, .int .i64 0, .slice none 0 0]) ?_ 1 _ rfl; (with_reducible repeat (first | refine blk_drewN ?_ _ | refine blk_drew ?_ | refine blk_alloc ?_ _)); refine blk_put (cs := #[.int .i64 0, .int .i64 0, .slice none 0 0]) ?_ 0 _ rfl; exact Kz BK265.out) hb); have n5_ := am (blk_below (g := gb266) (o := .cells #[.int .i64 t259, .int .i64 t260, .int .i64 t261, .slice Ao57 t262.length co57] 28 (0, 0)) (by (with_reducible repeat (first | refine blk_drewN ?_ _ | refine blk_drew ?_ | refine blk_alloc ?_ _)); refine blk_put (cs := #[.int .i64 t259, .int .i64 t260, .int .i64 t261, .slice none 0 0]) ?_ 3 _ rfl; (with_reducible repeat (first | refine blk_drewN ?_ _ | refine blk_drew ?_ | refine blk_alloc ?_ _)); refine blk_put (cs := #[.int .i64 t259, .int .i64 t260, .int .i64 0, .slice none 0 0]) ?_ 2 _ rfl; (with_reducible repeat (first | refine blk_drewN ?_ _ | refine blk_drew ?_ | refine blk_alloc ?_ _)); refine blk_put (cs := #[.int .i64 t259, .int .i64 0, .int .i64 0, .slice none 0 0]) ?_ 1 _ rfl; (with_reducible repeat (first | refine blk_drewN ?_ _ | refine blk_drew ?_ | refine blk_alloc ?_ _)); refine blk_put (cs := #[.int .i64 0, .int .i64 0, .int .i64 0, .slice none 0 0]) ?_ 0 _ rfl; (with_reducible repeat (first | refine blk_drewN ?_ _ | refine blk_drew ?_ | refine blk_alloc ?_ _)); refine blk_far ?_ NB266_265.out _; (with_reducible repeat (first | refine blk_drewN ?_ _ | refine blk_drew ?_ | refine blk_alloc ?_ _)); refine blk_far ?_ NB266_265.out _; (with_reducible repeat (first | refine blk_drewN ?_ _ | refine blk_drew ?_ | refine blk_alloc ?_ _)); refine blk_far ?_ NB266_265.out _; exact Kz BK266.out) hb); have n6_ := Bc HB hb; clear HO258 HO264 BK250 BK251 BK265 BK266 HB; revert n0_ n1_ n2_ n3_ n4_ n5_ n6_; intro HO258 HO264 BK250 BK251 BK265 BK266 HB; (try clear hb); (try clear hb2); (try clear hk); (try clear hi)) | (go_at_call 114; (with_reducible refine (impl_Counting_change.calls kj2 gb265 t254 t255 (fun k_ => some k_ = (.slice Ao53 t256.length co53 : Value).ownBlock) (.slice Ao53 t256.length co53) t256 a1 (-1) false t269 w _ ?side1 ?side2 ?side3 A22.out).mono ?_); (case side1 => repeat (first | (with_reducible first | exact HB.out | apply below_alloc | apply pw_below_drewN | apply below_drew1 | refine below_set ?_ GE250.out | refine below_set ?_ GE251.out | refine below_set ?_ GE265.out | refine below_set ?_ GE266.out) | exact HB.out)); (case side2 => exact Kz BK265.out); (case side3 => exact Kd.R_tight rfl HO258.out); rintro e w59 ⟨rfl, hy0, hb, hkp⟩; have n0_ := am (blk_kept (Kz BK250.out) hkp (fun hs_ => (fun e_ => (Kd.R_ne HO258.out BK250.out (by decide)) e_) hs_)); have n1_ := am (blk_kept (Kz BK251.out) hkp (fun hs_ => (fun e_ => (Kd.R_ne HO258.out BK251.out (by decide)) e_) hs_)); have n2_ := am (Kd.R_reok rfl hy0 (fun k_ e_ => HO258.out.1 k_ e_)); have n3_ := am (Kd.R_mono (ok' := fun k_ => some k_ ≠ (.slice Ao53 t256.length co53 : Value).ownBlock) (Kd.R_keptB (HO264.out) hkp (fun k_ hk_ hs_ => (hk_.2) hs_)) (fun k_ hk_ => hk_.1.2)); have n4_ := am (blk_kept (Kz BK265.out) hkp (fun hs_ => (fun e_ => (Kd.R_ne HO258.out BK265.out (by decide)) e_) hs_)); have n5_ := am (blk_kept (Kz BK266.out) hkp (fun hs_ => (fun e_ => (Kd.R_ne HO258.out BK266.out (by decide)) e_) hs_)); have n6_ := am (hb); clear BK250 BK251 HO258 HO264 BK265 BK266 HB; revert n0_ n1_ n2_ n3_ n4_ n5_ n6_; intro BK250 BK251 HO258 HO264 BK265 BK266 HB; (try clear hb); (try clear hkp); (try clear hy0); obtain ⟨hcz60_0, hcz60_1, hcz60_2, hfz60_0, hfz60_1, hfz60_2⟩ := cf3 (w := w59) BK251))
      refine bodyPost_ret (results_ct rfl _ _ gb251 49 #[.int .i64 0, .int .i64 0, .slice none 0 0] (0, 0) _ rfl (by (with_reducible repeat (first | refine blk_drewN ?_ _ | refine blk_drew ?_ | refine blk_alloc ?_ _)); refine blk_put (cs := #[.int .i64 0, .int .i64 0, .slice none 0 0]) ?_ 2 _ rfl; (with_reducible repeat (first | refine blk_drewN ?_ _ | refine blk_drew ?_ | refine blk_alloc ?_ _)); refine blk_put (cs := #[.int .i64 0, .int .i64 0, .slice none 0 0]) ?_ 1 _ rfl; (with_reducible repeat (first | refine blk_drewN ?_ _ | refine blk_drew ?_ | refine blk_alloc ?_ _)); refine blk_put (cs := #[.int .i64 0, .int .i64 0, .slice none 0 0]) ?_ 0 _ rfl; exact Kz BK251.out) Try.underlying49 rfl (by kernel_rfl)) rfl ?_; exact ⟨_, eZ, nZ, Bq⟩
    ·replace c21 := Bool.eq_false_iff.mpr c21
     subst c21
     rw [if_neg (show ¬ (false = true) by decide)] at H
     simp only [Option.some.injEq, Prod.mk.injEq] at H
     obtain ⟨rfl, rfl, rfl, rfl⟩ := H; have hnb61 := NB250_251.out; have hnc61 := NB251_250.out; obtain ⟨hcz62_0, hcz62_1, hcz62_2, hfz62_0, hfz62_1, hfz62_2⟩ := cf3 (w := wc) BK250
     go_wp2_with (first | ((with_reducible refine gate_callee (f := 112) rfl ?_); refine gL (some 18) Try.func112 #[.agg #[.int .i64 a0_0, .int .i64 a0_1, .slice A0_2 l0_2.length c0_2]] ?_; (with_reducible refine (impl_cloneCounting.calls a0_0 a0_1 _ _ l0_2 t254 t255 t256 _ ?side1 ?side2 A18.out).mono ?_); (case side1 => exact Cz (Kd.C_below HR0_2.out HB.out)); (case side2 => exact HC0_2.out); rintro e w63 ⟨v257, rfl, ho0, hb⟩; refine ⟨_, rfl, ?_⟩; have n0_ := Rm ho0 HB; have n1_ := Kb BK250 hb; have n2_ := Kb BK251 hb; have n3_ := Bc HB hb; clear BK250 BK251 HB; revert n0_ n1_ n2_ n3_; intro HO258 BK250 BK251 HB; (try clear hb); (try clear hb2); (try clear hk); (try clear hi); (try clear ho0)) | ((with_reducible refine gate_callee (f := 113) rfl ?_); refine gL (some 19) Try.func113 #[.pointer (some ⟨gb250, 0, none⟩)] ?_; (with_reducible refine (impl_Counting_bloom.calls kj2 gb250 a0_0 a0_1 A0_2 c0_2 l0_2 t259 t260 t261 t262 _ ?side1 ?side2 ?side3 A19.out).mono ?_); (case side1 => exact Kz BK250.out); (case side2 => exact Cz (Kd.C_below HR0_2.out HB.out)); (case side3 => exact HC0_2.out); rintro e w64 ⟨v263, rfl, ho0, hb⟩; refine ⟨_, rfl, ?_⟩; have n0_ := Re HO258 (Kd.R_base ho0) hb; have n1_ := Rm (Kd.R_new' ho0 (Kd.R_lt (Rz HO258.out))) HB; have n2_ := Kb BK250 hb; have n3_ := Kb BK251 hb; have n4_ := Bc HB hb; clear HO258 BK250 BK251 HB; revert n0_ n1_ n2_ n3_ n4_; intro HO258 HO264 BK250 BK251 HB; (try clear hb); (try clear hb2); (try clear hk); (try clear hi); (try clear ho0)) | ((with_reducible refine gate_dst (N := 6) rfl ?_); refine bE 6 #[.int .i64 0, .int .i64 0, .slice none 0 0] 49 ?_; intro gb265 hg w65 hbox hb; have n0_ := Rb HO258 hb; have n1_ := Rb HO264 hb; have n2_ := Kb BK250 hb; have n3_ := Kb BK251 hb; have n4_ := Bc HB hb; have n5_ := am (hbox); have n6_ := Gm HB hg; have n7_ := Gm HB hg; have n8_ := Nl BK250 hg; have n9_ := Ng BK250 hg; have n10_ := Nl BK251 hg; have n11_ := Ng BK251 hg; clear HO258 HO264 BK250 BK251 HB; revert n0_ n1_ n2_ n3_ n4_ n5_ n6_ n7_ n8_ n9_ n10_ n11_; intro HO258 HO264 BK250 BK251 HB BK265 GW265 GE265 NB250_265 NB265_250 NB251_265 NB265_251; clear hb hbox hg) | ((with_reducible refine gate_dst (N := 7) rfl ?_); refine bE 7 #[.int .i64 0, .int .i64 0, .int .i64 0, .slice none 0 0] 28 ?_; intro gb266 hg w66 hbox hb; have n0_ := Rb HO258 hb; have n1_ := Rb HO264 hb; have n2_ := Kb BK250 hb; have n3_ := Kb BK251 hb; have n4_ := Kb BK265 hb; have n5_ := Bc HB hb; have n6_ := am (hbox); have n7_ := Gm HB hg; have n8_ := Gm HB hg; have n9_ := Nl BK250 hg; have n10_ := Ng BK250 hg; have n11_ := Nl BK251 hg; have n12_ := Ng BK251 hg; have n13_ := Nl BK265 hg; have n14_ := Ng BK265 hg; clear HO258 HO264 BK250 BK251 BK265 HB; revert n0_ n1_ n2_ n3_ n4_ n5_ n6_ n7_ n8_ n9_ n10_ n11_ n12_ n13_ n14_; intro HO258 HO264 BK250 BK251 BK265 HB BK266 GW266 GE266 NB250_266 NB266_250 NB251_266 NB266_251 NB265_266 NB266_265; clear hb hbox hg; have hnb67 := NB265_250.out; have hnc67 := NB250_265.out; have hnb68 := NB265_251.out; have hnc68 := NB251_265.out; have hnb69 := NB265_266.out; have hnc69 := NB266_265.out; obtain ⟨hcz70_0, hcz70_1, hcz70_2, hfz70_0, hfz70_1, hfz70_2⟩ := cf3 (w := w66) BK265; obtain ⟨Ao71, co71, eo71⟩ := Kd.R_slice HO258.out; subst eo71; have hnb72 := NB266_250.out; have hnc72 := NB250_266.out; have hnb73 := NB266_251.out; have hnc73 := NB251_266.out; obtain ⟨hcz74_0, hcz74_1, hcz74_2, hcz74_3, hfz74_0, hfz74_1, hfz74_2, hfz74_3⟩ := cf4 (w := w66) BK266; obtain ⟨Ao75, co75, eo75⟩ := Kd.R_slice HO264.out; subst eo75) | ((with_reducible refine gate_callee (f := 105) rfl ?_); refine gL (some 21) Try.func105 #[.pointer (some ⟨gb266, 0, none⟩), .string a1] ?_; (with_reducible refine (impl_Bloom_says.calls kj2 gb266 t259 t260 t261 Ao75 co75 t262 a1 false _ ?side1 ?side2 ?side3 A20.out).mono ?_); (case side1 => (with_reducible repeat (first | refine blk_drewN ?_ _ | refine blk_drew ?_ | refine blk_alloc ?_ _)); refine blk_put (cs := #[.int .i64 t259, .int .i64 t260, .int .i64 t261, .slice none 0 0]) ?_ 3 _ rfl; (with_reducible repeat (first | refine blk_drewN ?_ _ | refine blk_drew ?_ | refine blk_alloc ?_ _)); refine blk_put (cs := #[.int .i64 t259, .int .i64 t260, .int .i64 0, .slice none 0 0]) ?_ 2 _ rfl; (with_reducible repeat (first | refine blk_drewN ?_ _ | refine blk_drew ?_ | refine blk_alloc ?_ _)); refine blk_put (cs := #[.int .i64 t259, .int .i64 0, .int .i64 0, .slice none 0 0]) ?_ 1 _ rfl; (with_reducible repeat (first | refine blk_drewN ?_ _ | refine blk_drew ?_ | refine blk_alloc ?_ _)); refine blk_put (cs := #[.int .i64 0, .int .i64 0, .int .i64 0, .slice none 0 0]) ?_ 0 _ rfl; (with_reducible repeat (first | refine blk_drewN ?_ _ | refine blk_drew ?_ | refine blk_alloc ?_ _)); refine blk_far ?_ NB266_265.out _; (with_reducible repeat (first | refine blk_drewN ?_ _ | refine blk_drew ?_ | refine blk_alloc ?_ _)); refine blk_far ?_ NB266_265.out _; (with_reducible repeat (first | refine blk_drewN ?_ _ | refine blk_drew ?_ | refine blk_alloc ?_ _)); refine blk_far ?_ NB266_265.out _; exact Kz BK266.out); (case side2 => refine (Kd.R_reads' (e := 3) (base := w.heap.size) (ok := fun k_ => (True ∧ some k_ ≠ (.slice Ao71 t256.length co71 : Value).ownBlock)) (n := t262.length) (c := co75) ?_).2.2; exact (Rz (Kd.R_mono (Kd.R_mono (Kd.R_far (p := ⟨gb266, 3, none⟩) (Kd.R_far (p := ⟨gb266, 2, none⟩) (Kd.R_far (p := ⟨gb266, 1, none⟩) (Kd.R_far (p := ⟨gb266, 0, none⟩) (Kd.R_far (p := ⟨gb265, 2, none⟩) (Kd.R_far (p := ⟨gb265, 1, none⟩) (Kd.R_far (p := ⟨gb265, 0, none⟩) (Kd.R_types (Kd.R_types HO264.out BK265.out (by decide)) BK266.out (by decide)) (fun _ hk => hk.1.2) (.int .i64 t254)) (fun _ hk => hk.1.2) (.int .i64 t255)) (fun _ hk => hk.1.2) (.slice Ao71 t256.length co71)) (fun _ hk => hk.2) (.int .i64 t259)) (fun _ hk => hk.2) (.int .i64 t260)) (fun _ hk => hk.2) (.int .i64 t261)) (fun _ hk => hk.2) (.slice Ao75 t262.length co75)) (fun _ h_ => h_.1)) (fun _ h_ => h_.1)))); (case side3 => exact (Kd.R_reads' HO264.out).2.1); rintro e w76 ⟨rfl, hb⟩; refine ⟨_, rfl, ?_⟩; have n0_ := am (Kd.R_below (Rz (Kd.R_mono (Kd.R_mono (Kd.R_far (p := ⟨gb266, 3, none⟩) (Kd.R_far (p := ⟨gb266, 2, none⟩) (Kd.R_far (p := ⟨gb266, 1, none⟩) (Kd.R_far (p := ⟨gb266, 0, none⟩) (Kd.R_far (p := ⟨gb265, 2, none⟩) (Kd.R_far (p := ⟨gb265, 1, none⟩) (Kd.R_far (p := ⟨gb265, 0, none⟩) (Kd.R_types (Kd.R_types HO258.out BK265.out (by decide)) BK266.out (by decide)) (fun _ hk => hk.1.2) (.int .i64 t254)) (fun _ hk => hk.1.2) (.int .i64 t255)) (fun _ hk => hk.1.2) (.slice Ao71 t256.length co71)) (fun _ hk => hk.2) (.int .i64 t259)) (fun _ hk => hk.2) (.int .i64 t260)) (fun _ hk => hk.2) (.int .i64 t261)) (fun _ hk => hk.2) (.slice Ao75 t262.length co75)) (fun _ h_ => h_.1)) (fun _ h_ => h_.1))) hb); have n1_ := am (Kd.R_below (Rz (Kd.R_mono (Kd.R_mono (Kd.R_far (p := ⟨gb266, 3, none⟩) (Kd.R_far (p := ⟨gb266, 2, none⟩) (Kd.R_far (p := ⟨gb266, 1, none⟩) (Kd.R_far (p := ⟨gb266, 0, none⟩) (Kd.R_far (p := ⟨gb265, 2, none⟩) (Kd.R_far (p := ⟨gb265, 1, none⟩) (Kd.R_far (p := ⟨gb265, 0, none⟩) (Kd.R_types (Kd.R_types HO264.out BK265.out (by decide)) BK266.out (by decide)) (fun _ hk => hk.1.2) (.int .i64 t254)) (fun _ hk => hk.1.2) (.int .i64 t255)) (fun _ hk => hk.1.2) (.slice Ao71 t256.length co71)) (fun _ hk => hk.2) (.int .i64 t259)) (fun _ hk => hk.2) (.int .i64 t260)) (fun _ hk => hk.2) (.int .i64 t261)) (fun _ hk => hk.2) (.slice Ao75 t262.length co75)) (fun _ h_ => h_.1)) (fun _ h_ => h_.1))) hb); have n2_ := am (blk_below (g := gb250) (o := .cells #[.int .i64 a0_0, .int .i64 a0_1, .slice A0_2 l0_2.length c0_2] 49 (0, 0)) (by (with_reducible repeat (first | refine blk_drewN ?_ _ | refine blk_drew ?_ | refine blk_alloc ?_ _)); refine blk_far ?_ NB250_266.out _; (with_reducible repeat (first | refine blk_drewN ?_ _ | refine blk_drew ?_ | refine blk_alloc ?_ _)); refine blk_far ?_ NB250_266.out _; (with_reducible repeat (first | refine blk_drewN ?_ _ | refine blk_drew ?_ | refine blk_alloc ?_ _)); refine blk_far ?_ NB250_266.out _; (with_reducible repeat (first | refine blk_drewN ?_ _ | refine blk_drew ?_ | refine blk_alloc ?_ _)); refine blk_far ?_ NB250_266.out _; (with_reducible repeat (first | refine blk_drewN ?_ _ | refine blk_drew ?_ | refine blk_alloc ?_ _)); refine blk_far ?_ NB250_265.out _; (with_reducible repeat (first | refine blk_drewN ?_ _ | refine blk_drew ?_ | refine blk_alloc ?_ _)); refine blk_far ?_ NB250_265.out _; (with_reducible repeat (first | refine blk_drewN ?_ _ | refine blk_drew ?_ | refine blk_alloc ?_ _)); refine blk_far ?_ NB250_265.out _; exact Kz BK250.out) hb); have n3_ := am (blk_below (g := gb251) (o := .cells #[.int .i64 0, .int .i64 0, .slice none 0 0] 49 (0, 0)) (by (with_reducible repeat (first | refine blk_drewN ?_ _ | refine blk_drew ?_ | refine blk_alloc ?_ _)); refine blk_far ?_ NB251_266.out _; (with_reducible repeat (first | refine blk_drewN ?_ _ | refine blk_drew ?_ | refine blk_alloc ?_ _)); refine blk_far ?_ NB251_266.out _; (with_reducible repeat (first | refine blk_drewN ?_ _ | refine blk_drew ?_ | refine blk_alloc ?_ _)); refine blk_far ?_ NB251_266.out _; (with_reducible repeat (first | refine blk_drewN ?_ _ | refine blk_drew ?_ | refine blk_alloc ?_ _)); refine blk_far ?_ NB251_266.out _; (with_reducible repeat (first | refine blk_drewN ?_ _ | refine blk_drew ?_ | refine blk_alloc ?_ _)); refine blk_far ?_ NB251_265.out _; (with_reducible repeat (first | refine blk_drewN ?_ _ | refine blk_drew ?_ | refine blk_alloc ?_ _)); refine blk_far ?_ NB251_265.out _; (with_reducible repeat (first | refine blk_drewN ?_ _ | refine blk_drew ?_ | refine blk_alloc ?_ _)); refine blk_far ?_ NB251_265.out _; exact Kz BK251.out) hb); have n4_ := am (blk_below (g := gb265) (o := .cells #[.int .i64 t254, .int .i64 t255, .slice Ao71 t256.length co71] 49 (0, 0)) (by (with_reducible repeat (first | refine blk_drewN ?_ _ | refine blk_drew ?_ | refine blk_alloc ?_ _)); refine blk_far ?_ NB265_266.out _; (with_reducible repeat (first | refine blk_drewN ?_ _ | refine blk_drew ?_ | refine blk_alloc ?_ _)); refine blk_far ?_ NB265_266.out _; (with_reducible repeat (first | refine blk_drewN ?_ _ | refine blk_drew ?_ | refine blk_alloc ?_ _)); refine blk_far ?_ NB265_266.out _; (with_reducible repeat (first | refine blk_drewN ?_ _ | refine blk_drew ?_ | refine blk_alloc ?_ _)); refine blk_far ?_ NB265_266.out _; (with_reducible repeat (first | refine blk_drewN ?_ _ | refine blk_drew ?_ | refine blk_alloc ?_ _)); refine blk_put (cs := #[.int .i64 t254, .int .i64 t255, .slice none 0 0]) ?_ 2 _ rfl; (with_reducible repeat (first | refine blk_drewN ?_ _ | refine blk_drew ?_ | refine blk_alloc ?_ _)); refine blk_put (cs := #[.int .i64 t254, .int .i64 0, .slice none 0 0]) ?_ 1 _ rfl; (with_reducible repeat (first | refine blk_drewN ?_ _ | refine blk_drew ?_ | refine blk_alloc ?_ _)); refine blk_put (cs := #[.int .i64 0, .int .i64 0, .slice none 0 0]) ?_ 0 _ rfl; exact Kz BK265.out) hb); have n5_ := am (blk_below (g := gb266) (o := .cells #[.int .i64 t259, .int .i64 t260, .int .i64 t261, .slice Ao75 t262.length co75] 28 (0, 0)) (by (with_reducible repeat (first | refine blk_drewN ?_ _ | refine blk_drew ?_ | refine blk_alloc ?_ _)); refine blk_put (cs := #[.int .i64 t259, .int .i64 t260, .int .i64 t261, .slice none 0 0]) ?_ 3 _ rfl; (with_reducible repeat (first | refine blk_drewN ?_ _ | refine blk_drew ?_ | refine blk_alloc ?_ _)); refine blk_put (cs := #[.int .i64 t259, .int .i64 t260, .int .i64 0, .slice none 0 0]) ?_ 2 _ rfl; (with_reducible repeat (first | refine blk_drewN ?_ _ | refine blk_drew ?_ | refine blk_alloc ?_ _)); refine blk_put (cs := #[.int .i64 t259, .int .i64 0, .int .i64 0, .slice none 0 0]) ?_ 1 _ rfl; (with_reducible repeat (first | refine blk_drewN ?_ _ | refine blk_drew ?_ | refine blk_alloc ?_ _)); refine blk_put (cs := #[.int .i64 0, .int .i64 0, .int .i64 0, .slice none 0 0]) ?_ 0 _ rfl; (with_reducible repeat (first | refine blk_drewN ?_ _ | refine blk_drew ?_ | refine blk_alloc ?_ _)); refine blk_far ?_ NB266_265.out _; (with_reducible repeat (first | refine blk_drewN ?_ _ | refine blk_drew ?_ | refine blk_alloc ?_ _)); refine blk_far ?_ NB266_265.out _; (with_reducible repeat (first | refine blk_drewN ?_ _ | refine blk_drew ?_ | refine blk_alloc ?_ _)); refine blk_far ?_ NB266_265.out _; exact Kz BK266.out) hb); have n6_ := Bc HB hb; clear HO258 HO264 BK250 BK251 BK265 BK266 HB; revert n0_ n1_ n2_ n3_ n4_ n5_ n6_; intro HO258 HO264 BK250 BK251 BK265 BK266 HB; (try clear hb); (try clear hb2); (try clear hk); (try clear hi); obtain ⟨hcz77_0, hcz77_1, hcz77_2, hfz77_0, hfz77_1, hfz77_2⟩ := cf3 (w := w76) BK251))
     refine bodyPost_ret (results_ct rfl _ _ gb251 49 #[.int .i64 0, .int .i64 0, .slice none 0 0] (0, 0) _ rfl (by (with_reducible repeat (first | refine blk_drewN ?_ _ | refine blk_drew ?_ | refine blk_alloc ?_ _)); refine blk_put (cs := #[.int .i64 0, .int .i64 0, .slice none 0 0]) ?_ 2 _ rfl; (with_reducible repeat (first | refine blk_drewN ?_ _ | refine blk_drew ?_ | refine blk_alloc ?_ _)); refine blk_put (cs := #[.int .i64 0, .int .i64 0, .slice none 0 0]) ?_ 1 _ rfl; (with_reducible repeat (first | refine blk_drewN ?_ _ | refine blk_drew ?_ | refine blk_alloc ?_ _)); refine blk_put (cs := #[.int .i64 0, .int .i64 0, .slice none 0 0]) ?_ 0 _ rfl; exact Kz BK251.out) Try.underlying49 rfl (by kernel_rfl)) rfl ?_; exact ⟨_, eZ, nZ, Bq⟩

end Go.Proofs.Ytpkpjikkfikejaa.PC
