/- The three places of a key. -/
import Derived.Test.YthkcgimnagpmaaaPAx3
import Derived.Test.YthkcgimnagpmaaaPAx10
import Derived.Test.YthkcgimnagpmaaaQB1
namespace Go.Proofs.YthkcgimnagpmaaaQ
open Go Go.RowKit Go.Proofs.YthkcgimnagpmaaaW.PrintWords Go.Proofs.YthkcgimnagpmaaaGp Go.Proofs.Ythkcgimnagpmaaa.PA

/-! ### three places -/
def tripL (a0 : Int) (s : ByteArray) (n : Int) : Nat → Nat → List Int
  | 0, _ => []
  | m + 1, i => wrap64 (placeV a0 (i : Int) s n + wrap64 ((i : Int) * n)) :: tripL a0 s n m (i + 1)
theorem tripL_range (a0 : Int) (s : ByteArray) {n : Int} (h0 : 1 ≤ n) (h1 : n ≤ 24) : ∀ p ∈ tripL a0 s n 3 0, 0 ≤ p ∧ p < 3 * n := by
  intro p h
  have r0 := placeV_range a0 ((0 : Nat) : Int) s h0 (by omega)
  have r1 := placeV_range a0 ((0 + 1 : Nat) : Int) s h0 (by omega)
  have r2 := placeV_range a0 ((0 + 1 + 1 : Nat) : Int) s h0 (by omega)
  simp only [tripL, List.mem_cons, List.not_mem_nil, or_false] at h
  rcases h with rfl | rfl | rfl
  · rw [w64 (x := ((0 : Nat) : Int) * n) (by omega) (by omega), w64 (by omega) (by omega)]; omega
  · rw [w64 (x := ((0 + 1 : Nat) : Int) * n) (by omega) (by omega), w64 (by omega) (by omega)]; omega
  · rw [w64 (x := ((0 + 1 + 1 : Nat) : Int) * n) (by omega) (by omega), w64 (by omega) (by omega)]; omega
theorem spec_peTriple_l0 (a0 : Int) (n : Int) (s : ByteArray) (hz : (s.size : Int) ≤ 9223372036854775806) (h0 : 0 ≤ a0) (h0' : a0 ≤ 1000000) : ∀ (m i : Nat) (acc : List Int), i + m = 3 → acc.length = i →
    Ev (fun k => spec_peTriple.l0 k a0 s n acc (i : Int)) (acc ++ tripL a0 s n m i) := by
  intro m
  induction m with
  | zero =>
    intro i acc e ha
    refine ev_succ ?_
    simp only [spec_peTriple.l0, tripL]
    exact ev_neg (by omega) (ev_some (by simp))
  | succ m ih =>
    intro i acc e ha
    refine ev_succ ?_
    simp only [spec_peTriple.l0, tripL]
    refine ev_pos (by omega) (ev_bind _ (spec_biPlace_f a0 (i : Int) s n hz h0 h0' (by omega) (by omega)) (ev_pos (by omega) ?_))
    rw [winc (by omega)]
    have := ih (i + 1) (acc ++ [wrap64 (placeV a0 (i : Int) s n + wrap64 ((i : Int) * n))]) (by omega) (by simp [ha])
    rw [List.append_assoc] at this
    exact this
theorem spec_peTriple_f (a0 n : Int) (s : ByteArray) (hz : (s.size : Int) ≤ 9223372036854775806) (h0 : 0 ≤ a0) (h0' : a0 ≤ 1000000) : Ev (fun k => spec_peTriple.f k a0 s n) (tripL a0 s n 3 0) := by
  unfold spec_peTriple.f
  have := spec_peTriple_l0 a0 n s hz h0 h0' 3 0 [] rfl rfl
  exact this
theorem impl_threePlaces_l0 (a0 : Int) (n : Int) (s : ByteArray) (hz : (s.size : Int) ≤ 9223372036854775806) (h0 : 0 ≤ a0) (h0' : a0 ≤ 1000000) : ∀ (m i : Nat) (acc : List Int), i + m = 3 → acc.length = i →
    Ev (fun k => impl_threePlaces.l0 k a0 s n acc (i : Int)) (acc ++ tripL a0 s n m i) := by
  intro m
  induction m with
  | zero =>
    intro i acc e ha
    refine ev_succ ?_
    simp only [impl_threePlaces.l0, tripL]
    exact ev_neg (by omega) (ev_some (by simp))
  | succ m ih =>
    intro i acc e ha
    refine ev_succ ?_
    simp only [impl_threePlaces.l0, tripL]
    refine ev_pos (by omega) (ev_bind _ (impl_place_f a0 (i : Int) s n hz h0 h0' (by omega) (by omega)) (ev_pos (by omega) ?_))
    rw [winc (by omega)]
    have := ih (i + 1) (acc ++ [wrap64 (placeV a0 (i : Int) s n + wrap64 ((i : Int) * n))]) (by omega) (by simp [ha])
    rw [List.append_assoc] at this
    exact this
theorem impl_threePlaces_f (a0 n : Int) (s : ByteArray) (hz : (s.size : Int) ≤ 9223372036854775806) (h0 : 0 ≤ a0) (h0' : a0 ≤ 1000000) : Ev (fun k => impl_threePlaces.f k a0 s n) (tripL a0 s n 3 0) := by
  unfold impl_threePlaces.f
  have := impl_threePlaces_l0 a0 n s hz h0 h0' 3 0 [] rfl rfl
  exact this
end Go.Proofs.YthkcgimnagpmaaaQ
