/- First seeds with different places: collisions, loads, and what is drawn. -/
import Derived.Test.YthkcgimnagpmaaaPAx2
import Derived.Test.YthkcgimnagpmaaaPAx9
import Derived.Test.YthkcgimnagpmaaaPAx18
import Derived.Test.YthkcgimnagpmaaaPS1
namespace Go.Proofs.YthkcgimnagpmaaaQ
open Go Go.RowKit Go.Proofs.YthkcgimnagpmaaaW.PrintWords Go.Proofs.YthkcgimnagpmaaaGp Go.Proofs.Ythkcgimnagpmaaa.PA

def hitAt (x : Int) : List Int → Nat → Option Nat
  | [], _ => none
  | y :: t, k => if x = y then some k else hitAt x t (k + 1)
def collL : List Int → Nat → Option (Nat × Nat)
  | [], _ => none
  | x :: t, i => match hitAt x t (i + 1) with
    | some k => some (i, k)
    | none => collL t (i + 1)
theorem hitAt_none (x : Int) : ∀ (t : List Int) (k : Nat), hitAt x t k = none ↔ x ∉ t
  | [], k => by simp [hitAt]
  | y :: t, k => by
    unfold hitAt
    by_cases c : x = y
    · simp [c]
    · rw [if_neg c, hitAt_none x t (k + 1)]
      simp [c]
theorem hitAt_some (x : Int) (l : List Int) : ∀ (t pre : List Int) (k : Nat), l = pre ++ t → hitAt x t pre.length = some k → pre.length ≤ k ∧ k < l.length ∧ rd l (k : Int) = x
  | [], pre, k, _, h => by simp [hitAt] at h
  | y :: t, pre, k, e, h => by
    unfold hitAt at h
    by_cases c : x = y
    · rw [if_pos c] at h
      obtain rfl := Option.some.inj h
      refine ⟨Nat.le_refl _, by rw [e]; simp, ?_⟩
      rw [e, rd_mid]; exact c.symm
    · rw [if_neg c] at h
      have := hitAt_some x l t (pre ++ [y]) k (by rw [e]; simp) (by rw [List.length_append]; exact h)
      rw [List.length_append, List.length_singleton] at this
      exact ⟨by omega, this.2⟩
theorem collL_none : ∀ (t : List Int) (i : Nat), collL t i = none ↔ t.Nodup
  | [], i => by simp [collL]
  | x :: t, i => by
    unfold collL
    rw [List.nodup_cons, ← hitAt_none x t (i + 1), ← collL_none t (i + 1)]
    cases hitAt x t (i + 1) <;> simp
theorem collL_some (l : List Int) : ∀ (t pre : List Int) (i k : Nat), l = pre ++ t → collL t pre.length = some (i, k) → i < k ∧ k < l.length ∧ rd l (i : Int) = rd l (k : Int)
  | [], pre, i, k, _, h => by simp [collL] at h
  | x :: t, pre, i, k, e, h => by
    unfold collL at h
    cases hh : hitAt x t (pre.length + 1) with
    | some q =>
      rw [hh] at h
      simp only [Option.some.injEq, Prod.mk.injEq] at h
      obtain ⟨rfl, rfl⟩ := h
      have := hitAt_some x l t (pre ++ [x]) q (by rw [e]; simp) (by rw [List.length_append]; exact hh)
      rw [List.length_append, List.length_singleton] at this
      refine ⟨by omega, this.2.1, ?_⟩
      rw [this.2.2]
      conv => lhs; rw [e]
      exact rd_mid
    | none =>
      rw [hh] at h
      exact collL_some l t (pre ++ [x]) i k (by rw [e]; simp) (by rw [List.length_append]; exact h)
def collR (o : Option (Nat × Nat)) : Int × Int × Bool := match o with
  | some (i, k) => ((i : Int), (k : Int), true)
  | none => (0, 0, false)
theorem coll_l1 {a0 n : Int} (h0 : 0 ≤ a0) (h0' : a0 ≤ 1000000) {x0 : List ByteArray} (hx : x0.length ≤ 1000) (hz : ∀ s ∈ x0, s.size ≤ 1000) {i : Nat} (hi : i < x0.length) {s : ByteArray} (hg : rdOf ByteArray.empty x0 (i : Int) = s) (hs : s.size ≤ 1000)
    {r : Int × Int × Bool} (H : Ev (fun k => impl_CollisionOf.l0 k a0 0 x0 n (x0.length : Int) ((i + 1 : Nat) : Int)) r) : ∀ (t pre : List ByteArray), x0 = pre ++ t →
    Ev (fun k => impl_CollisionOf.l1 k a0 0 x0 n (i : Int) (pre.length : Int) (x0.length : Int) (i : Int)) (match hitAt (placeV a0 0 s n) (plcs a0 n t) pre.length with | some k => ((i : Int), (k : Int), true) | none => r) := by
  intro t
  induction t with
  | nil =>
    intro pre h
    have hp : x0 = pre := by rw [h, List.append_nil]
    subst hp
    refine ev_succ ?_
    simp only [impl_CollisionOf.l1, plcs, List.map_nil, hitAt]
    refine ev_neg (by omega) ?_
    rw [winc (by omega)]
    exact H
  | cons x t ih =>
    intro pre h
    have hm : ((pre.length : Nat) : Int) < (x0.length : Int) := by rw [h]; exact lt_mid
    have hg2 : rdOf ByteArray.empty x0 (pre.length : Int) = x := by rw [h]; exact rdOf_mid
    have hxs := hz x (by rw [h]; simp)
    refine ev_succ ?_
    simp only [impl_CollisionOf.l1, hg, hg2]
    refine ev_pos hm (ev_pos (by omega) (ev_pos (by omega) (ev_bind _ (impl_place_f a0 0 s n (by omega) h0 h0' (by omega) (by omega)) (ev_pos (by omega) (ev_bind _ (impl_place_f a0 0 x n (by omega) h0 h0' (by omega) (by omega)) ?_)))))
    simp only [plcs, List.map_cons, hitAt]
    by_cases c : placeV a0 0 s n = placeV a0 0 x n
    · rw [if_pos c]
      exact ev_pos c (Ev.now _)
    · rw [if_neg c]
      refine ev_neg c ?_
      rw [winc (by omega)]
      have := ih (pre ++ [x]) (by rw [h]; simp)
      rw [len_one, List.length_append, List.length_singleton] at this
      exact this
theorem coll_l0 {a0 n : Int} (h0 : 0 ≤ a0) (h0' : a0 ≤ 1000000) {x0 : List ByteArray} (hx : x0.length ≤ 1000) (hz : ∀ s ∈ x0, s.size ≤ 1000) : ∀ (t pre : List ByteArray), x0 = pre ++ t →
    Ev (fun k => impl_CollisionOf.l0 k a0 0 x0 n (x0.length : Int) (pre.length : Int)) (collR (collL (plcs a0 n t) pre.length)) := by
  intro t
  induction t with
  | nil =>
    intro pre h
    have hp : x0 = pre := by rw [h, List.append_nil]
    subst hp
    refine ev_succ ?_
    simp only [impl_CollisionOf.l0]
    exact ev_neg (by omega) (Ev.now _)
  | cons x t ih =>
    intro pre h
    have hm : ((pre.length : Nat) : Int) < (x0.length : Int) := by rw [h]; exact lt_mid
    have hg : rdOf ByteArray.empty x0 (pre.length : Int) = x := by rw [h]; exact rdOf_mid
    have hxs := hz x (by rw [h]; simp)
    have hr := ih (pre ++ [x]) (by rw [h]; simp)
    rw [len_one, List.length_append, List.length_singleton] at hr
    refine ev_succ ?_
    simp only [impl_CollisionOf.l0]
    refine ev_pos hm ?_
    rw [winc (by omega)]
    have := coll_l1 h0 h0' hx hz (i := pre.length) (by omega) hg hxs hr t (pre ++ [x]) (by rw [h]; simp)
    rw [len_one, List.length_append, List.length_singleton] at this
    have e : plcs a0 n (x :: t) = placeV a0 0 x n :: plcs a0 n t := rfl
    rw [e, collL]
    cases hh : hitAt (placeV a0 0 x n) (plcs a0 n t) (pre.length + 1) with
    | some q => rw [hh] at this; exact this
    | none => rw [hh] at this; exact this
theorem hashesOk_f {a0 : Int} (h0 : 0 ≤ a0) (h0' : a0 ≤ 9999) {l : List ByteArray} (hk : areKeysB l = true) : Ev (fun k => impl_hashesOk.f k a0 0 l) true := by
  have hl := areKeysB_len hk
  unfold impl_hashesOk.f impl_isSeed.f
  rw [impl_in, impl_in, decide_eq_true ⟨h0, h0'⟩]
  exact ev_bind _ (Ev.now _) (ev_pos rfl (ev_bind _ (Ev.now _) (ev_pos rfl (ev_bind _ (by have := impl_AreKeys_f l (by omega) (fun s hs => by have := isKeyB_size (areKeysB_all hk s hs); omega); rw [hk] at this; exact this) (Ev.now _)))))
theorem impl_CollisionOf_f {a0 n : Int} (h0 : 0 ≤ a0) (h0' : a0 ≤ 9999) (hn : 1 ≤ n) (hn' : n ≤ 4096) {l : List ByteArray} (hk : areKeysB l = true) : Ev (fun k => impl_CollisionOf.f k a0 0 l n) (collR (collL (plcs a0 n l) 0)) := by
  have hl := areKeysB_len hk
  unfold impl_CollisionOf.f
  rw [impl_in, decide_eq_true ⟨hn, hn'⟩]
  refine ev_bind _ (hashesOk_f h0 h0' hk) (ev_pos rfl (ev_bind _ (Ev.now _) (ev_succ ?_)))
  simp only [impl_CollisionOf.j0]
  exact ev_neg (by simp) (coll_l0 h0 (by omega) (by omega) (fun s hs => by have := isKeyB_size (areKeysB_all hk s hs); omega) l [] rfl)
theorem impl_PlaceOf_f {a0 n : Int} (h0 : 0 ≤ a0) (h0' : a0 ≤ 9999) (hn : 1 ≤ n) (hn' : n ≤ 4096) {s : ByteArray} (hk : isKeyB s = true) : Ev (fun k => impl_PlaceOf.f k a0 0 s n) (placeV a0 0 s n, true) := by
  have hz := isKeyB_size hk
  have e := impl_IsKey_f s (by omega)
  rw [hk] at e
  unfold impl_PlaceOf.f impl_isSeed.f
  have a1 : impl_in.f a0 0 9999 = some true := by rw [impl_in, decide_eq_true ⟨h0, h0'⟩]
  have a2 : impl_in.f 0 0 9 = some true := by rw [impl_in]; rfl
  have a3 : impl_in.f n 1 4096 = some true := by rw [impl_in, decide_eq_true ⟨hn, hn'⟩]
  rw [a1, a2, a3]
  exact ev_bind _ (Ev.now _) (ev_pos rfl (ev_bind _ (Ev.now _) (ev_pos rfl (ev_bind _ e (ev_pos rfl (ev_bind _ (Ev.now _) (ev_pos rfl (ev_bind _ (impl_place_f a0 0 s n (by omega) h0 (by omega) (by omega) (by omega)) (Ev.now _)))))))))

/-! ### loads -/
def cntL (ps : List Int) (m : Nat) : List Int := (List.range m).map fun i => ((ps.count (Int.ofNat i) : Nat) : Int)
theorem cntL_len (ps : List Int) (m : Nat) : (cntL ps m).length = m := by simp [cntL]
theorem cntL_get (ps : List Int) {m i : Nat} (h : i < m) : (cntL ps m)[i]'(by rw [cntL_len]; exact h) = ((ps.count (Int.ofNat i) : Nat) : Int) := by simp [cntL]
theorem cntL_nil (m : Nat) : cntL [] m = List.replicate m 0 := by
  apply List.ext_getElem
  · simp [cntL]
  · intro i h1 h2
    simp [cntL]
theorem cntL_set (ps : List Int) {m : Nat} {p : Int} (h0 : 0 ≤ p) : (cntL ps m).set p.toNat (((ps.count p : Nat) : Int) + 1) = cntL (ps ++ [p]) m := by
  apply List.ext_getElem
  · simp [cntL]
  · intro i g1 g2
    rw [List.getElem_set]
    simp only [cntL, List.getElem_map, List.getElem_range, List.count_append]
    by_cases c : p.toNat = i
    · rw [if_pos c]
      have : Int.ofNat i = p := by simp; omega
      rw [this]; simp
    · rw [if_neg c]
      have : ¬ p = (i : Int) := by omega
      simp [this]
theorem loads_l0 {a0 n : Int} (h0 : 0 ≤ a0) (h0' : a0 ≤ 1000000) (hn : 1 ≤ n) (hn' : n ≤ 64) {x0 : List ByteArray} (hx : x0.length ≤ 1000) (hz : ∀ s ∈ x0, s.size ≤ 1000) : ∀ (t pre : List ByteArray), x0 = pre ++ t →
    Ev (fun k => impl_LoadsOf.l0 k a0 0 n (cntL (plcs a0 n pre) n.toNat) x0 (x0.length : Int) (pre.length : Int)) (cntL (plcs a0 n x0) n.toNat, true) := by
  intro t
  induction t with
  | nil =>
    intro pre h
    have hp : x0 = pre := by rw [h, List.append_nil]
    subst hp
    refine ev_succ ?_
    simp only [impl_LoadsOf.l0]
    exact ev_neg (by omega) (Ev.now _)
  | cons x t ih =>
    intro pre h
    have hm : ((pre.length : Nat) : Int) < (x0.length : Int) := by rw [h]; exact lt_mid
    have hg : rdOf ByteArray.empty x0 (pre.length : Int) = x := by rw [h]; exact rdOf_mid
    have hxs := hz x (by rw [h]; simp)
    obtain ⟨p0, p1⟩ := placeV_range a0 0 x hn (by omega)
    have hc : rd (cntL (plcs a0 n pre) n.toNat) (placeV a0 0 x n) = (((plcs a0 n pre).count (placeV a0 0 x n) : Nat) : Int) := by
      have hlt : (placeV a0 0 x n).toNat < (cntL (plcs a0 n pre) n.toNat).length := by rw [cntL_len]; omega
      have := rd_get (xs := cntL (plcs a0 n pre) n.toNat) hlt
      rw [show (((placeV a0 0 x n).toNat : Nat) : Int) = placeV a0 0 x n from by omega] at this
      rw [this, cntL_get _ (by omega)]
      rw [show Int.ofNat (placeV a0 0 x n).toNat = placeV a0 0 x n from by simp; omega]
    have hcl : (plcs a0 n pre).count (placeV a0 0 x n) ≤ 1000 := by
      have h1 := List.count_le_length (a := placeV a0 0 x n) (l := plcs a0 n pre)
      rw [plcs_len] at h1
      omega
    refine ev_succ ?_
    simp only [impl_LoadsOf.l0, hg]
    refine ev_pos hm (ev_pos (by omega) (ev_pos hm (ev_bind _ (impl_place_f a0 0 x n (by omega) h0 h0' (by omega) (by omega)) (ev_pos p0 (ev_pos (by rw [cntL_len]; omega) ?_)))))
    rw [winc (by omega), hc, w64 (by omega) (by omega), cntL_set _ p0, ← plcs_app]
    have := ih (pre ++ [x]) (by rw [h]; simp)
    rw [len_one] at this
    exact this
theorem impl_LoadsOf_f {a0 n : Int} (h0 : 0 ≤ a0) (h0' : a0 ≤ 9999) (hn : 1 ≤ n) (hn' : n ≤ 64) {l : List ByteArray} (hk : areKeysB l = true) : Ev (fun k => impl_LoadsOf.f k a0 0 l n) (cntL (plcs a0 n l) n.toNat, true) := by
  have hl := areKeysB_len hk
  unfold impl_LoadsOf.f
  rw [impl_in, decide_eq_true ⟨hn, hn'⟩]
  refine ev_bind _ (hashesOk_f h0 h0' hk) (ev_pos rfl (ev_bind _ (Ev.now _) (ev_succ ?_)))
  simp only [impl_LoadsOf.j0]
  have := loads_l0 h0 (by omega) hn hn' (x0 := l) (by omega) (fun s hs => by have := isKeyB_size (areKeysB_all hk s hs); omega) l [] rfl
  rw [show plcs a0 n [] = [] from rfl, cntL_nil] at this
  exact ev_neg (by simp) (ev_pos (by omega) (ev_pos (by omega) this))
/-- The sum of the loads is how many there are. -/
theorem sum_set : ∀ (l : List Int) (i : Nat) (v : Int) (h : i < l.length), (l.set i v).sum = l.sum - l[i] + v
  | x :: t, 0, v, _ => by simp; omega
  | x :: t, i + 1, v, h => by
    have := sum_set t i v (by simpa using h)
    simp only [List.set_cons_succ, List.sum_cons, List.getElem_cons_succ, this]
    omega
theorem sum_zero : ∀ m : Nat, (List.replicate m (0 : Int)).sum = 0
  | 0 => rfl
  | m + 1 => by rw [List.replicate_succ, List.sum_cons, sum_zero m]; rfl
theorem cntL_sum (m : Nat) : ∀ (t pre : List Int), (∀ p ∈ t, 0 ≤ p ∧ p < (m : Int)) → (cntL (pre ++ t) m).sum = (cntL pre m).sum + (t.length : Int)
  | [], pre, _ => by simp
  | p :: t, pre, h => by
    obtain ⟨p0, p1⟩ := h p (by simp)
    have := cntL_sum m t (pre ++ [p]) (fun q hq => h q (by simp [hq]))
    rw [List.append_assoc, List.singleton_append] at this
    have hlt : p.toNat < (cntL pre m).length := by rw [cntL_len]; omega
    rw [this, ← cntL_set pre p0, sum_set _ _ _ hlt, cntL_get _ (by omega), show Int.ofNat p.toNat = p from by simp; omega]
    simp only [List.length_cons]
    omega
theorem draw_PlainSeed {s : List Int} (hs : Bys s) : ∃ ks n a b, Ev (fun k => spec_DrawPlainSeed.f k s) (ks, n, a, b) ∧ Kys 42 ks ∧ (-1 ≤ a ∧ a ≤ 10000) ∧ (-1000 ≤ b ∧ b ≤ 11000) := by
  obtain ⟨a, p1, sd1, e1, ha, q0, q1⟩ := seed9_ok hs 0 (p := 0) (by omega) (by omega)
  obtain ⟨ks, p2, sd2, e2, hk, r0, r1⟩ := anyKeys_ok hs sd1 (n := 7) (by omega) q0 (by omega)
  have pl : ∃ n p3 sd3, spec_l1Cur_places.f s p2 sd2 = some (n, p3, sd3) ∧ 0 ≤ p3 ∧ p3 ≤ p2 + 4 := by
    obtain ⟨v, p', sd', e, hv, t0, t1⟩ := pick_ok hs sd2 (n := 8) r0 (by omega)
    unfold spec_l1Cur_places.f
    rw [e]
    simp only [Option.bind_some]
    by_cases c : v = 0
    · obtain ⟨u, p4, sd4, eu, hu, u0, u1⟩ := among_ok hs sd' (l := [(-1), 0, 64, 65, 4096, 4097]) (by simp) t0 (by omega)
      rw [if_pos c, eu]
      exact ⟨u, p4, sd4, rfl, u0, by omega⟩
    · rw [if_neg c]
      by_cases d : v = 1
      · obtain ⟨u, p4, sd4, eu, hu, u0, u1⟩ := pick_ok hs sd' (n := 4096) t0 (by omega)
        rw [if_pos d, eu]
        exact ⟨_, p4, sd4, rfl, u0, by omega⟩
      · obtain ⟨u, p4, sd4, eu, hu, u0, u1⟩ := pick_ok hs sd' (n := 24) t0 (by omega)
        rw [if_neg d, eu]
        exact ⟨_, p4, sd4, rfl, u0, by omega⟩
  obtain ⟨n, p3, sd3, e3, t0, t1⟩ := pl
  obtain ⟨u, p4, sd4, e4, hu, u0, u1⟩ := among_ok hs sd3 (l := [(-1), 0, 1, 5, 20, 100, 101]) (by simp) t0 (by omega)
  have hur : -1 ≤ u ∧ u ≤ 101 := by
    simp only [List.mem_cons, List.not_mem_nil, or_false] at hu
    omega
  refine ⟨ks, n, a, wrap64 (a + u), ?_, hk, ha, by rw [w64 (by omega) (by omega)]; omega⟩
  unfold spec_DrawPlainSeed.f
  rw [e1]
  refine ev_bind _ (Ev.now _) (ev_bind _ e2 ?_)
  simp only [e3]
  refine ev_bind _ (Ev.now _) ?_
  simp only [e4]
  exact ev_bind _ (Ev.now _) (Ev.now _)
end Go.Proofs.YthkcgimnagpmaaaQ
