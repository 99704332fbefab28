/- First seeds with different places: what both sides compute. -/
import Derived.Test.YthkcgimnagpmaaaPAx2
import Derived.Test.YthkcgimnagpmaaaPAx7
import Derived.Test.YthkcgimnagpmaaaPAx18
import Derived.Test.YthkcgimnagpmaaaQB1
import Derived.Test.YthkcgimnagpmaaaQ2
import Derived.Test.YthkcgimnagpmaaaDR2
namespace Go.Proofs.YthkcgimnagpmaaaQ
open Go Go.RowKit Go.Proofs.YthkcgimnagpmaaaW.PrintWords Go.Proofs.YthkcgimnagpmaaaGp Go.Proofs.Ythkcgimnagpmaaa.PA

/-! ### lists of different numbers -/
theorem goesI_iff : ∀ (l S : List Int), goesI S l = true ↔ l.Nodup ∧ ∀ x ∈ l, x ∉ S
  | [], S => by simp [goesI]
  | x :: t, S => by
    rw [goesI, Bool.and_eq_true, goesI_iff t (x :: S)]
    simp only [Bool.not_eq_true', List.contains_eq_mem, decide_eq_false_iff_not, List.nodup_cons, List.mem_cons, not_or]
    constructor
    · rintro ⟨h1, h2, h3⟩
      refine ⟨⟨fun h => (h3 x h).1 rfl, h2⟩, fun y hy => ?_⟩
      rcases hy with rfl | hy
      · exact h1
      · exact (h3 y hy).2
    · rintro ⟨⟨h1, h2⟩, h3⟩
      exact ⟨h3 x (.inl rfl), h2, fun y hy => ⟨fun e => h1 (e ▸ hy), h3 y (.inr hy)⟩⟩
def nodB (l : List Int) : Bool := goesI [] l
theorem nodB_iff {l : List Int} : nodB l = true ↔ l.Nodup := by unfold nodB; rw [goesI_iff]; simp
theorem impl_distinct_f {l : List Int} (hl : l.length ≤ 1000000) (hr : ∀ x ∈ l, 0 ≤ x ∧ x ≤ 1000000) : impl_distinct.f l = some (nodB l) := by
  unfold impl_distinct.f
  refine if_pos ⟨hl, ?_⟩
  rw [List.all_eq_true]
  intro x hx
  have := hr x hx
  simp [okI]
  omega
theorem spec_l1Has_l0 (x0 : List Int) (a : Int) (hl : (x0.length : Int) ≤ 9223372036854775806) : ∀ (t pre : List Int), x0 = pre ++ t →
    Ev (fun k => spec_l1Has.l0 k a x0 (x0.length : Int) (pre.length : Int)) (t.contains a) := by
  intro t
  induction t with
  | nil =>
    intro pre h
    refine ev_succ ?_
    simp only [spec_l1Has.l0]
    exact ev_neg (by rw [h]; exact not_lt_end) (ev_some (by simp))
  | cons x t ih =>
    intro pre h
    have hm : ((pre.length : Nat) : Int) < (x0.length : Int) := by rw [h]; exact lt_mid
    have hg : rd x0 (pre.length : Int) = x := by rw [h]; exact rd_mid
    refine ev_succ ?_
    simp only [spec_l1Has.l0, hg]
    refine ev_pos hm (ev_pos (by omega) (ev_pos hm ?_))
    by_cases c : x = a
    · exact ev_pos c (ev_some (by simp [c]))
    · refine ev_neg c ?_
      rw [winc (by omega)]
      have := ih (pre ++ [x]) (by rw [h]; simp)
      rw [len_one] at this
      have e : (x :: t).contains a = t.contains a := by simp [Ne.symm c]
      rw [e]
      exact this
theorem spec_l1Has_f (l : List Int) (a : Int) (hl : (l.length : Int) ≤ 9223372036854775806) : Ev (fun k => spec_l1Has.f k l a) (l.contains a) := by
  unfold spec_l1Has.f
  exact spec_l1Has_l0 l a hl l [] rfl

/-! ### places of keys -/
def plcs (a0 : Int) (n : Int) (l : List ByteArray) : List Int := l.map fun s => placeV a0 0 s n
def plainB (a0 : Int) (l : List ByteArray) (n : Int) : Bool := nodB (plcs a0 n l)
theorem plcs_range (a0 : Int) {n : Int} (h0 : 1 ≤ n) (h1 : n ≤ 1000000) (l : List ByteArray) : ∀ x ∈ plcs a0 n l, 0 ≤ x ∧ x ≤ 1000000 := by
  intro x hx
  simp only [plcs, List.mem_map] at hx
  obtain ⟨s, _, rfl⟩ := hx
  have := placeV_range a0 0 s h0 h1
  omega
theorem plcs_len (a0 n : Int) (l : List ByteArray) : (plcs a0 n l).length = l.length := by simp [plcs]
theorem plcs_app (a0 n : Int) (l : List ByteArray) (s : ByteArray) : plcs a0 n (l ++ [s]) = plcs a0 n l ++ [placeV a0 0 s n] := by simp [plcs]
theorem impl_PlainSeed_1_l0 {a0 n : Int} (h0 : 0 ≤ a0) (h0' : a0 ≤ 1000000) (hn : 1 ≤ n) (hn' : n ≤ 1000000) {x0 : List ByteArray} (hx : x0.length ≤ 1000) (hz : ∀ s ∈ x0, s.size ≤ 1000) : ∀ (t pre : List ByteArray), x0 = pre ++ t →
    Ev (fun k => impl_PlainSeed_1.l0 k a0 (plcs a0 n pre) x0 (x0.length : Int) (pre.length : Int) n) (plainB a0 x0 n) := by
  intro t
  induction t with
  | nil =>
    intro pre h
    have hp : x0 = pre := by rw [h, List.append_nil]
    subst hp
    refine ev_succ ?_
    simp only [impl_PlainSeed_1.l0]
    rw [impl_distinct_f (by rw [plcs_len]; omega) (plcs_range a0 hn hn' x0)]
    exact ev_neg (by omega) (ev_bind _ (Ev.now _) (Ev.now _))
  | cons x t ih =>
    intro pre h
    have hm : ((pre.length : Nat) : Int) < (x0.length : Int) := by rw [h]; exact lt_mid
    have hg : rdOf ByteArray.empty x0 (pre.length : Int) = x := by rw [h]; exact rdOf_mid
    have hxs := hz x (by rw [h]; simp)
    refine ev_succ ?_
    simp only [impl_PlainSeed_1.l0, hg]
    refine ev_pos hm (ev_pos (by omega) (ev_pos hm (ev_bind _ (impl_place_f a0 0 x n (by omega) h0 h0' (by omega) (by omega)) (ev_pos (by rw [plcs_len]; omega) ?_))))
    rw [winc (by omega), ← plcs_app]
    have := ih (pre ++ [x]) (by rw [h]; simp)
    rw [len_one] at this
    exact this
theorem impl_PlainSeed_1_f {a0 n : Int} (h0 : 0 ≤ a0) (h0' : a0 ≤ 1000000) (hn : 1 ≤ n) (hn' : n ≤ 1000000) {x0 : List ByteArray} (hx : x0.length ≤ 1000) (hz : ∀ s ∈ x0, s.size ≤ 1000) : Ev (fun k => impl_PlainSeed_1.f k a0 x0 n) (plainB a0 x0 n) := by
  unfold impl_PlainSeed_1.f
  exact impl_PlainSeed_1_l0 h0 h0' hn hn' hx hz x0 [] rfl
theorem spec_biPlaces_l0 {a0 n : Int} (h0 : 0 ≤ a0) (h0' : a0 ≤ 1000000) {x0 : List ByteArray} (hx : x0.length ≤ 1000) (hz : ∀ s ∈ x0, s.size ≤ 1000) : ∀ (t pre : List ByteArray), x0 = pre ++ t →
    Ev (fun k => spec_biPlaces.l0 k a0 0 n (plcs a0 n pre) x0 (x0.length : Int) (pre.length : Int)) (plcs a0 n x0) := by
  intro t
  induction t with
  | nil =>
    intro pre h
    have hp : x0 = pre := by rw [h, List.append_nil]
    subst hp
    refine ev_succ ?_
    simp only [spec_biPlaces.l0]
    exact ev_neg (by omega) (Ev.now _)
  | cons x t ih =>
    intro pre h
    have hm : ((pre.length : Nat) : Int) < (x0.length : Int) := by rw [h]; exact lt_mid
    have hg : rdOf ByteArray.empty x0 (pre.length : Int) = x := by rw [h]; exact rdOf_mid
    have hxs := hz x (by rw [h]; simp)
    refine ev_succ ?_
    simp only [spec_biPlaces.l0, hg]
    refine ev_pos hm (ev_pos (by omega) (ev_pos hm (ev_bind _ (spec_biPlace_f a0 0 x n (by omega) h0 h0' (by omega) (by omega)) (ev_pos (by rw [plcs_len]; omega) ?_))))
    rw [winc (by omega), ← plcs_app]
    have := ih (pre ++ [x]) (by rw [h]; simp)
    rw [len_one] at this
    exact this
theorem goes_mem : ∀ (l S S' : List Int), (∀ x, x ∈ S ↔ x ∈ S') → goesI S l = goesI S' l
  | [], _, _, _ => rfl
  | x :: t, S, S', h => by
    rw [goesI, goesI, goes_mem t (x :: S) (x :: S') (fun y => by simp [h y])]
    congr 2
    rw [Bool.eq_iff_iff]
    simp [h x]
theorem spec_pfPlain_l0 (x0 : List Int) (hl : (x0.length : Int) ≤ 1000000) : ∀ (t pre : List Int), x0 = pre ++ t →
    Ev (fun k => spec_pfPlain.l0 k x0 x0 (x0.length : Int) (pre.length : Int)) (goesI pre t) := by
  intro t
  induction t with
  | nil =>
    intro pre h
    refine ev_succ ?_
    simp only [spec_pfPlain.l0]
    exact ev_neg (by rw [h]; exact not_lt_end) (ev_some (by simp [goesI]))
  | cons x t ih =>
    intro pre h
    have hm : ((pre.length : Nat) : Int) < (x0.length : Int) := by rw [h]; exact lt_mid
    have hg : rd x0 (pre.length : Int) = x := by rw [h]; exact rd_mid
    have ht : x0.take pre.length = pre := by rw [h]; simp
    refine ev_succ ?_
    simp only [spec_pfPlain.l0, hg, Int.toNat_natCast, ht]
    refine ev_pos hm (ev_pos (by omega) (ev_pos hm (ev_pos (by omega) (ev_bind _ (spec_l1Has_f pre x (by omega)) ?_))))
    rw [winc (by omega), goesI]
    by_cases c : pre.contains x = true
    · rw [c]; exact ev_pos rfl (Ev.now _)
    · refine ev_neg c ?_
      have := ih (pre ++ [x]) (by rw [h]; simp)
      rw [len_one, goes_mem t (pre ++ [x]) (x :: pre) (fun y => by simp [or_comm])] at this
      rw [Bool.eq_false_iff.2 c]
      exact this
theorem spec_pfPlain_f {a0 n : Int} (h0 : 0 ≤ a0) (h0' : a0 ≤ 1000000) {x0 : List ByteArray} (hx : x0.length ≤ 1000) (hz : ∀ s ∈ x0, s.size ≤ 1000) : Ev (fun k => spec_pfPlain.f k a0 x0 n) (plainB a0 x0 n) := by
  unfold spec_pfPlain.f spec_biPlaces.f
  refine ev_bind _ (spec_biPlaces_l0 h0 h0' hx hz x0 [] rfl) ?_
  exact spec_pfPlain_l0 (plcs a0 n x0) (by rw [plcs_len]; omega) (plcs a0 n x0) [] rfl

/-! ### the first seed -/
def firstF (f : Int → Bool) : Nat → Int → Int × Bool
  | 0, _ => (0, false)
  | d + 1, x => if f x = true then (x, true) else firstF f d (x + 1)
theorem firstF_yes (f : Int → Bool) : ∀ (d : Nat) (x r : Int), firstF f d x = (r, true) → x ≤ r ∧ r < x + (d : Int) ∧ f r = true ∧ ∀ y, x ≤ y → y < r → f y = false
  | 0, x, r, h => by simp [firstF] at h
  | d + 1, x, r, h => by
    unfold firstF at h
    by_cases c : f x = true
    · rw [if_pos c] at h
      simp only [Prod.mk.injEq, and_true] at h
      subst h
      exact ⟨by omega, by omega, c, fun y h1 h2 => by omega⟩
    · rw [if_neg c] at h
      obtain ⟨h1, h2, h3, h4⟩ := firstF_yes f d (x + 1) r h
      refine ⟨by omega, by omega, h3, fun y h5 h6 => ?_⟩
      by_cases e : y = x
      · rw [e]; simpa using c
      · exact h4 y (by omega) h6
def spanB (a b : Int) : Bool := decide (0 ≤ a ∧ a ≤ b ∧ b ≤ 10000 ∧ b ≤ a + 100)
def firstV (f : Int → Bool) (a b : Int) : Int × Bool := if spanB a b = true then firstF f (b - a).toNat a else (0, false)
theorem firstV_yes {f : Int → Bool} {a b r : Int} (h : firstV f a b = (r, true)) : 0 ≤ a ∧ a ≤ r ∧ r < b ∧ b ≤ 10000 ∧ f r = true ∧ ∀ y, a ≤ y → y < r → f y = false := by
  unfold firstV at h
  split at h
  · rename_i c
    simp only [spanB, decide_eq_true_eq] at c
    obtain ⟨h1, h2, h3, h4⟩ := firstF_yes f _ a r h
    exact ⟨by omega, h1, by omega, by omega, h3, h4⟩
  · cases h
theorem impl_firstSeed_P_l0 {n : Int} (hn : 1 ≤ n) (hn' : n ≤ 1000000) {x0 : List ByteArray} (hx : x0.length ≤ 1000) (hz : ∀ s ∈ x0, s.size ≤ 1000) : ∀ (d : Nat) (a : Int), 0 ≤ a → a + (d : Int) ≤ 10000 →
    Ev (fun k => impl_firstSeed_at_impl_PlainSeed_1.l0 k (a + (d : Int)) a x0 n) (firstF (fun y => plainB y x0 n) d a) := by
  intro d
  induction d with
  | zero =>
    intro a h0 h1
    refine ev_succ ?_
    simp only [impl_firstSeed_at_impl_PlainSeed_1.l0]
    exact ev_neg (by omega) (Ev.now _)
  | succ d ih =>
    intro a h0 h1
    refine ev_succ ?_
    simp only [impl_firstSeed_at_impl_PlainSeed_1.l0]
    refine ev_pos (by omega) (ev_bind _ (impl_PlainSeed_1_f h0 (by omega) hn hn' hx hz) ?_)
    unfold firstF
    by_cases c : plainB a x0 n = true
    · rw [if_pos c]; exact ev_pos c (Ev.now _)
    · rw [if_neg c]
      refine ev_neg c ?_
      rw [w64 (by omega) (by omega)]
      have := ih (a + 1) (by omega) (by omega)
      rw [show a + 1 + (d : Int) = a + ((d + 1 : Nat) : Int) from by omega] at this
      exact this
theorem impl_firstSeed_P_f {n : Int} (hn : 1 ≤ n) (hn' : n ≤ 1000000) {x0 : List ByteArray} (hx : x0.length ≤ 1000) (hz : ∀ s ∈ x0, s.size ≤ 1000) {a b : Int} (ha : -1000000 ≤ a) (ha' : a ≤ 1000000) :
    Ev (fun k => impl_firstSeed_at_impl_PlainSeed_1.f k a b x0 n) (firstV (fun y => plainB y x0 n) a b) := by
  have no : ∀ (c : spanB a b = false), Ev (fun k => impl_firstSeed_at_impl_PlainSeed_1.j0 k a b true x0 n) (firstV (fun y => plainB y x0 n) a b) := fun c => by
    refine ev_succ ?_
    simp only [impl_firstSeed_at_impl_PlainSeed_1.j0]
    refine ev_pos trivial (ev_some ?_)
    unfold firstV
    rw [c]; rfl
  unfold impl_firstSeed_at_impl_PlainSeed_1.f
  by_cases c1 : a < 0
  · exact ev_pos c1 (no (by simp [spanB]; omega))
  refine ev_neg c1 ?_
  by_cases c2 : a > b
  · exact ev_pos c2 (no (by simp [spanB]; omega))
  refine ev_neg c2 ?_
  by_cases c3 : b > 10000
  · exact ev_pos c3 (no (by simp [spanB]; omega))
  refine ev_neg c3 ?_
  rw [w64 (by omega) (by omega)]
  by_cases c4 : b > a + 100
  · rw [decide_eq_true c4]; exact no (by simp [spanB]; omega)
  rw [decide_eq_false c4]
  refine ev_succ ?_
  simp only [impl_firstSeed_at_impl_PlainSeed_1.j0]
  refine ev_neg (by simp) ?_
  unfold firstV
  rw [if_pos (by simp [spanB]; omega)]
  have := impl_firstSeed_P_l0 hn hn' hx hz (b - a).toNat a (by omega) (by omega)
  rw [show a + ((b - a).toNat : Int) = b from by omega] at this
  exact this
def plainV (l : List ByteArray) (n a b : Int) : Int × Bool := if areKeysB l = true ∧ 1 ≤ n ∧ n ≤ 4096 then firstV (fun y => plainB y l n) a b else (0, false)
theorem impl_PlainSeed_f {l : List ByteArray} (hx : l.length ≤ 1000) (hz : ∀ s ∈ l, s.size ≤ 1000) (n : Int) {a b : Int} (ha : -1000000 ≤ a) (ha' : a ≤ 1000000) :
    Ev (fun k => impl_PlainSeed.f k l n a b) (plainV l n a b) := by
  unfold impl_PlainSeed.f plainV
  rw [impl_in]
  refine ev_bind _ (impl_AreKeys_f l (by omega) (fun s hs => by have := hz s hs; omega)) ?_
  by_cases c : areKeysB l = true
  · refine ev_pos c (ev_bind _ (Ev.now _) ?_)
    by_cases d : 1 ≤ n ∧ n ≤ 4096
    · rw [decide_eq_true d, if_pos ⟨c, d.1, d.2⟩]
      exact ev_pos rfl (ev_bind _ (impl_firstSeed_P_f d.1 (by omega) hx hz ha ha') (Ev.now _))
    · rw [decide_eq_false d, if_neg (fun h => d h.2)]
      exact ev_neg (by simp) (Ev.now _)
  · rw [if_neg (fun h => c h.1)]
    exact ev_neg c (Ev.now _)
theorem spec_PlainSeed_l0 {n : Int} {x0 : List ByteArray} (hx : x0.length ≤ 1000) (hz : ∀ s ∈ x0, s.size ≤ 1000) : ∀ (d : Nat) (a : Int), 0 ≤ a → a + (d : Int) ≤ 10000 →
    Ev (fun k => spec_PlainSeed.l0 k x0 n (a + (d : Int)) a) (firstF (fun y => plainB y x0 n) d a) := by
  intro d
  induction d with
  | zero =>
    intro a h0 h1
    refine ev_succ ?_
    simp only [spec_PlainSeed.l0]
    exact ev_neg (by omega) (Ev.now _)
  | succ d ih =>
    intro a h0 h1
    refine ev_succ ?_
    simp only [spec_PlainSeed.l0]
    refine ev_pos (by omega) (ev_bind _ (spec_pfPlain_f h0 (by omega) hx hz) ?_)
    unfold firstF
    by_cases c : plainB a x0 n = true
    · rw [if_pos c]; exact ev_pos c (Ev.now _)
    · rw [if_neg c]
      refine ev_neg c ?_
      rw [w64 (by omega) (by omega)]
      have := ih (a + 1) (by omega) (by omega)
      rw [show a + 1 + (d : Int) = a + ((d + 1 : Nat) : Int) from by omega] at this
      exact this
theorem most_f (a b : Int) : spec_l1Most.f a b = some (if a > b then a else b) := by
  unfold spec_l1Most.f
  split <;> rfl
theorem spec_PlainSeed_f {l : List ByteArray} (hx : l.length ≤ 1000) (hz : ∀ s ∈ l, s.size ≤ 1000) (n : Int) {a b : Int} (hb : -1000000 ≤ b) (hb' : b ≤ 1000000) :
    Ev (fun k => spec_PlainSeed.f k l n a b) (plainV l n a b) := by
  have no : plainV l n a b = (0, false) → Ev (fun k => spec_PlainSeed.j0 k l n a b true) (plainV l n a b) := fun h => by
    refine ev_succ ?_
    simp only [spec_PlainSeed.j0]
    rw [h]
    exact ev_pos trivial (Ev.now _)
  unfold spec_PlainSeed.f
  rw [spec_in, spec_in, most_f, w64 (by omega) (by omega)]
  refine ev_bind _ (spec_biKeys_f l (by omega) (fun s hs => by have := hz s hs; omega)) ?_
  by_cases c : areKeysB l = true
  · refine ev_pos c (ev_bind _ (Ev.now _) ?_)
    by_cases d : 1 ≤ n ∧ n ≤ 4096
    · rw [decide_eq_true d]
      refine ev_pos rfl (ev_bind _ (Ev.now _) ?_)
      have hv : plainV l n a b = firstV (fun y => plainB y l n) a b := if_pos ⟨c, d.1, d.2⟩
      by_cases e : 0 ≤ b ∧ b ≤ 10000
      · rw [decide_eq_true e]
        refine ev_pos rfl (ev_bind _ (Ev.now _) ?_)
        rw [spec_in]
        refine ev_bind _ (Ev.now _) ?_
        by_cases g : (if 0 > b - 100 then 0 else b - 100) ≤ a ∧ a ≤ b
        · rw [decide_eq_true g, hv]
          have hs : spanB a b = true := by
            simp only [spanB, decide_eq_true_eq]
            split at g <;> omega
          have ha : 0 ≤ a ∧ a ≤ b := by split at g <;> omega
          refine ev_succ ?_
          simp only [spec_PlainSeed.j0]
          refine ev_neg (by simp) ?_
          unfold firstV
          rw [if_pos hs]
          have := spec_PlainSeed_l0 (n := n) hx hz (b - a).toNat a ha.1 (by omega)
          rw [show a + ((b - a).toNat : Int) = b from by omega] at this
          exact this
        · rw [decide_eq_false g]
          refine no ?_
          rw [hv]
          refine if_neg ?_
          simp only [spanB, decide_eq_true_eq]
          split at g <;> omega
      · rw [decide_eq_false e]
        refine ev_neg (by simp) (no ?_)
        rw [hv]
        refine if_neg ?_
        simp only [spanB, decide_eq_true_eq]
        omega
    · rw [decide_eq_false d]
      exact ev_neg (by simp) (no (if_neg (fun h => d h.2)))
  · exact ev_neg c (no (if_neg (fun h => c h.1)))
end Go.Proofs.YthkcgimnagpmaaaQ
