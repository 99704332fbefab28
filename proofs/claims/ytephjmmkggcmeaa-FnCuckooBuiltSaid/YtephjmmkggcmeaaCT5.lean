import Derived.Test.YtephjmmkggcmeaaCT2
import Derived.Test.YtephjmmkggcmeaaCT4
import Derived.Test.YtephjmmkggcmeaaCT3
import Derived.Test.YtephjmmkggcmeaaCT1
namespace Go.Proofs.YtephjmmkggcmeaaQ
open Go Go.RowKit Go.Proofs.YtephjmmkggcmeaaW.PrintWords Go.Proofs.YtephjmmkggcmeaaGp Go.Proofs.Ytephjmmkggcmeaa.PG

structure Bys (s : List Int) : Prop where
  len : (s.length : Int) ≤ 1048576
  all : ∀ x ∈ s, 0 ≤ x ∧ x ≤ 255
theorem and255 (x : Int) : 0 ≤ Go.bits .and .u64 x 255 ∧ Go.bits .and .u64 x 255 ≤ 255 := by
  have e : Go.bits .and .u64 x 255 = IntKind.u64.wrap (((BitVec.ofInt 64 x &&& BitVec.ofInt 64 255 : BitVec 64)).toNat : Int) := by unfold Go.bits; rfl
  have h : ((BitVec.ofInt 64 x &&& BitVec.ofInt 64 255 : BitVec 64)).toNat ≤ 255 := by
    rw [BitVec.toNat_and]
    exact Nat.and_le_right
  rw [e]
  unfold IntKind.wrap
  simp only [IntKind.bits, IntKind.signed]
  generalize (BitVec.ofInt 64 x &&& BitVec.ofInt 64 255 : BitVec 64).toNat = m at h
  simp
  omega
theorem rd_by {s : List Int} (hs : Bys s) (i : Int) : 0 ≤ rd s i ∧ rd s i ≤ 255 := by
  unfold rd
  by_cases c : i.toNat < s.length
  · rw [List.getD_eq_getElem?_getD, List.getElem?_eq_getElem c]
    exact hs.all _ (List.getElem_mem c)
  · rw [List.getD_eq_getElem?_getD, List.getElem?_eq_none (by omega)]
    simp
theorem next_ok {s : List Int} (hs : Bys s) {p : Int} (sd : Int) (h0 : 0 ≤ p) (h1 : p ≤ 4000000000000000000) :
    ∃ v p' sd', spec_l1Cur_next.f s p sd = some (v, p', sd') ∧ (0 ≤ v ∧ v ≤ 255) ∧ 0 ≤ p' ∧ p' ≤ p + 1 := by
  have hb := rd_by hs p
  have w1 : wrap64 (p + 1) = p + 1 := w64 (by omega) (by omega)
  have w2 : wrap64 (rd s p) = rd s p := w64 (by omega) (by omega)
  unfold spec_l1Cur_next.f
  rw [w1, w2]
  by_cases c : p < (s.length : Int)
  · rw [if_pos c, if_pos h0]
    split
    · exact ⟨_, _, _, rfl, hb, by omega, by omega⟩
    · omega
  · rw [if_neg c, if_neg (by omega)]
    refine ⟨_, _, _, rfl, ?_, by omega, by omega⟩
    have := and255 ((IntKind.u64.wrap ((IntKind.u64.wrap (IntKind.u64.wrap (sd * 6364136223846793005))) + 1442695040888963407)) / 1099511627776)
    rw [w64 (by omega) (by omega)]
    exact this
theorem pick_ok {s : List Int} (hs : Bys s) {p : Int} (sd : Int) {n : Int} (h0 : 0 ≤ p) (h1 : p ≤ 3000000000000000000) :
    ∃ v p' sd', spec_l1Cur_pick.f s p sd n = some (v, p', sd') ∧ (0 ≤ v ∧ (v < n ∨ v = 0)) ∧ 0 ≤ p' ∧ p' ≤ p + 2 := by
  unfold spec_l1Cur_pick.f
  by_cases c : n ≤ 1
  · rw [if_pos c]; exact ⟨_, _, _, rfl, ⟨by omega, .inr rfl⟩, h0, by omega⟩
  obtain ⟨v, p', sd', e, hv, q0, q1⟩ := next_ok hs sd h0 (by omega)
  have hn : ¬ n = 0 := by omega
  rw [if_neg c, e]
  simp only [Option.bind_some, if_neg hn]
  by_cases d : n > 200
  · obtain ⟨u, p2, sd2, e2, hu, r0, r1⟩ := next_ok hs sd' q0 (by omega)
    rw [if_pos d, e2]
    simp only [Option.bind_some]
    refine ⟨_, _, _, rfl, ?_, r0, by omega⟩
    rw [w64 (x := v * 256) (by omega) (by omega), w64 (x := v * 256 + u) (by omega) (by omega), Int.tmod_eq_emod_of_nonneg (by omega)]
    exact ⟨Int.emod_nonneg _ hn, .inl (Int.emod_lt_of_pos _ (by omega))⟩
  · rw [if_neg d]
    refine ⟨_, _, _, rfl, ?_, q0, by omega⟩
    rw [Int.tmod_eq_emod_of_nonneg hv.1]
    exact ⟨Int.emod_nonneg _ hn, .inl (Int.emod_lt_of_pos _ (by omega))⟩
theorem one_ok {s : List Int} (hs : Bys s) {p : Int} (sd : Int) (n : Int) (h0 : 0 ≤ p) (h1 : p ≤ 3000000000000000000) :
    ∃ v p' sd', spec_l1Cur_one.f s p sd n = some (v, p', sd') ∧ 0 ≤ p' ∧ p' ≤ p + 2 := by
  obtain ⟨v, p', sd', e, _, q0, q1⟩ := pick_ok hs sd (n := n) h0 h1
  unfold spec_l1Cur_one.f
  rw [e]
  exact ⟨_, _, _, rfl, q0, q1⟩
theorem among_ok {s : List Int} (hs : Bys s) {p : Int} (sd : Int) {l : List Int} (hl : 0 < l.length) (h0 : 0 ≤ p) (h1 : p ≤ 3000000000000000000) :
    ∃ v p' sd', spec_l1Cur_among.f s p sd l = some (v, p', sd') ∧ v ∈ l ∧ 0 ≤ p' ∧ p' ≤ p + 2 := by
  obtain ⟨v, p', sd', e, hv, q0, q1⟩ := pick_ok hs sd (n := (l.length : Int)) h0 h1
  have hm : rd l v ∈ l := by
    unfold rd
    have : v.toNat < l.length := by omega
    rw [List.getD_eq_getElem?_getD, List.getElem?_eq_getElem this]
    exact List.getElem_mem this
  unfold spec_l1Cur_among.f
  rw [e]
  simp only [Option.bind_some]
  rw [if_pos (by omega), if_pos (by omega)]
  exact ⟨_, _, _, rfl, hm, q0, q1⟩
theorem strOf_size (l : List Int) : (strOfNums l).size = l.length := by simp [strOfNums, ByteArray.size]

def Dr {α : Type} (g : Nat → Option (α × Int × Int)) (p c : Int) (P : α → Prop) : Prop := ∃ v p' sd', Ev g (v, p', sd') ∧ P v ∧ 0 ≤ p' ∧ p' ≤ p + c
theorem key_l1 (s : List Int) (p sd : Int) : ∀ (d : Nat) (x : List Int), 12 - x.length ≤ d → x.length ≤ 12 →
    ∃ v, Ev (fun k => spec_l1Cur_key.l1 k x s p sd) (v, p, sd) ∧ v.size ≤ 12 := by
  intro d
  induction d with
  | zero =>
    intro x h1 h2
    refine ⟨strOfNums x, ev_succ ?_, by rw [strOf_size]; omega⟩
    simp only [spec_l1Cur_key.l1]
    exact ev_neg (by omega) (Ev.now _)
  | succ d ih =>
    intro x h1 h2
    by_cases c : (x.length : Int) < 12
    · obtain ⟨v, e, hv⟩ := ih (x ++ [97]) (by simp; omega) (by simp; omega)
      refine ⟨v, ev_succ ?_, hv⟩
      simp only [spec_l1Cur_key.l1]
      exact ev_pos c (ev_pos (by omega) e)
    · refine ⟨strOfNums x, ev_succ ?_, by rw [strOf_size]; omega⟩
      simp only [spec_l1Cur_key.l1]
      exact ev_neg c (Ev.now _)
theorem key_l0 {s : List Int} (hs : Bys s) : ∀ (n : Nat) (x : List Int) (p sd : Int), x.length + n ≤ 12 → 0 ≤ p → p + 2 * (n : Int) ≤ 2000000000000000000 →
    Dr (fun k => spec_l1Cur_key.l0 k x (n : Int) s p sd) p (2 * (n : Int) + 2) (fun v => v.size ≤ 12) := by
  intro n
  induction n with
  | zero =>
    intro x p sd hx h0 h1
    obtain ⟨v, p', sd', e, q0, q1⟩ := one_ok hs sd 12 h0 (by omega)
    by_cases c : v = true
    · obtain ⟨u, eu, hu⟩ := key_l1 s p' sd' 12 x (by omega) (by omega)
      refine ⟨u, p', sd', ev_succ ?_, hu, q0, by omega⟩
      simp only [spec_l1Cur_key.l0, e]
      exact ev_neg (by omega) (ev_bind _ (Ev.now _) (ev_pos c eu))
    · refine ⟨strOfNums x, p', sd', ev_succ ?_, (by rw [strOf_size]; omega : (strOfNums x).size ≤ 12), q0, by omega⟩
      simp only [spec_l1Cur_key.l0, e]
      exact ev_neg (by omega) (ev_bind _ (Ev.now _) (ev_neg c (Ev.now _)))
  | succ n ih =>
    intro x p sd hx h0 h1
    obtain ⟨v, p', sd', e, hv, q0, q1⟩ := pick_ok hs sd (n := 11) h0 (by omega)
    obtain ⟨u, p2, sd2, eu, hu, r0, r1⟩ := ih (x ++ [bt (⟨#[97, 97, 98, 98, 99, 120, 121, 122, 33, 125, 48]⟩ : ByteArray) v]) p' sd' (by simp; omega) q0 (by omega)
    refine ⟨u, p2, sd2, ev_succ ?_, hu, r0, by omega⟩
    simp only [spec_l1Cur_key.l0, e]
    refine ev_pos (by omega) (ev_bind _ (Ev.now _) (ev_pos hv.1 (ev_pos (by omega) (ev_pos (by omega) ?_))))
    rw [wdec (by omega)]
    exact eu
theorem key_ok {s : List Int} (hs : Bys s) {p : Int} (sd : Int) (h0 : 0 ≤ p) (h1 : p ≤ 1000000000000000000) : Dr (fun k => spec_l1Cur_key.f k s p sd) p 12 (fun v => v.size ≤ 12) := by
  obtain ⟨v, p', sd', e, hv, q0, q1⟩ := pick_ok hs sd (n := 4) h0 (by omega)
  obtain ⟨u, p2, sd2, eu, hu, r0, r1⟩ := key_l0 hs (v.toNat + 1) [] p' sd' (by simp; omega) q0 (by omega)
  refine ⟨u, p2, sd2, ?_, hu, r0, by omega⟩
  unfold spec_l1Cur_key.f
  rw [e]
  refine ev_bind _ (Ev.now _) ?_
  rw [w64 (by omega) (by omega), show 1 + v = ((v.toNat + 1 : Nat) : Int) from by omega]
  exact eu
def insK (s : ByteArray) : List ByteArray → List ByteArray
  | [] => [s]
  | q :: t => if lessS q s = true then q :: insK s t else if q = s then q :: t else s :: q :: t
theorem insK_len (s : ByteArray) : ∀ l, (insK s l).length ≤ l.length + 1
  | [] => by simp [insK]
  | q :: t => by
    have := insK_len s t
    unfold insK
    split
    · simp; omega
    · split <;> simp
theorem insK_mem (s : ByteArray) : ∀ l, ∀ x ∈ insK s l, x = s ∨ x ∈ l
  | [], x, h => by simp [insK] at h; exact .inl h
  | q :: t, x, h => by
    unfold insK at h
    split at h
    · rcases List.mem_cons.1 h with e | e
      · exact .inr (by simp [e])
      · rcases insK_mem s t x e with e | e
        · exact .inl e
        · exact .inr (by simp [e])
    · split at h
      · exact .inr h
      · rcases List.mem_cons.1 h with e | e
        · exact .inl e
        · exact .inr e
theorem putS_l0 (x0 : List ByteArray) (s : ByteArray) (hx : x0.length ≤ 1000000) : ∀ (t pre : List ByteArray), x0 = pre ++ t →
    Ev (fun k => spec_l1PutS.l0 k x0 s (pre.length : Int)) (pre ++ insK s t) := by
  intro t
  induction t with
  | nil =>
    intro pre h
    have hp : x0 = pre := by rw [h, List.append_nil]
    subst hp
    refine ev_succ ?_
    simp only [spec_l1PutS.l0]
    refine ev_neg (by omega) (ev_bind _ (Ev.now _) (ev_pos (by omega) (ev_pos (by omega) (ev_bind _ (Ev.now _) ?_))))
    rw [Int.toNat_natCast, List.take_length, List.nil_append]
    refine ev_pos (by simp; omega) (ev_bind _ (Ev.now _) (ev_pos (by omega) (ev_bind _ (Ev.now _) (ev_bind _ (Ev.now _) (ev_pos (by simp; omega) (ev_some ?_))))))
    simp [insK]
  | cons q t ih =>
    intro pre h
    have hm : ((pre.length : Nat) : Int) < (x0.length : Int) := by rw [h]; exact lt_mid
    have hg : rdOf ByteArray.empty x0 (pre.length : Int) = q := by rw [h]; exact rdOf_mid
    refine ev_succ ?_
    simp only [spec_l1PutS.l0, hg]
    refine ev_pos hm (ev_pos (by omega) ?_)
    unfold insK
    by_cases c : lessS q s = true
    · refine ev_pos c ?_
      rw [winc (by omega), if_pos c]
      have := ih (pre ++ [q]) (by rw [h]; simp)
      rw [len_one] at this
      simpa using this
    · refine ev_neg c ?_
      rw [if_neg c]
      by_cases d : q = s
      · refine ev_pos (tl_inj.2 d) (ev_some ?_)
        rw [if_pos d, h]
      · refine ev_neg (fun e => d (tl_inj.1 e)) (ev_bind _ (Ev.now _) (ev_pos (by omega) (ev_bind _ (Ev.now _) ?_)))
        have et : x0.take pre.length = pre := by rw [h]; simp
        have ed : x0.drop pre.length = q :: t := by rw [h]; simp
        have hl : x0.length = pre.length + (t.length + 1) := by rw [h]; simp
        rw [Int.toNat_natCast, et, ed, List.nil_append, if_neg d]
        refine ev_pos (by simp; omega) (ev_bind _ (Ev.now _) (ev_pos (by omega) (ev_bind _ (Ev.now _) (ev_bind _ (Ev.now _) (ev_pos (by simp; omega) (ev_some ?_))))))
        simp
theorem putS_f (l : List ByteArray) (s : ByteArray) (h : l.length ≤ 1000000) : Ev (fun k => spec_l1PutS.f k l s) (insK s l) := putS_l0 l s h l [] rfl
def Kys (m : Nat) (l : List ByteArray) : Prop := l.length ≤ m ∧ ∀ s ∈ l, s.size ≤ 13
theorem Kys.ins {m : Nat} {l : List ByteArray} (h : Kys m l) {s : ByteArray} (hs : s.size ≤ 13) : Kys (m + 1) (insK s l) :=
  ⟨by have := insK_len s l; have := h.1; omega, fun x hx => by exact (insK_mem s l x hx).elim (fun e => e ▸ hs) (h.2 x)⟩
theorem Kys.one {m : Nat} {l : List ByteArray} (h : Kys m l) {s : ByteArray} (hs : s.size ≤ 13) : Kys (m + 1) (l ++ [s]) :=
  ⟨by have := h.1; simp; omega, fun x hx => by exact (List.mem_append.1 hx).elim (h.2 x) (fun e => List.mem_singleton.1 e ▸ hs)⟩
theorem Kys.mono {m m' : Nat} {l : List ByteArray} (h : Kys m l) (hm : m ≤ m') : Kys m' l := ⟨Nat.le_trans h.1 hm, h.2⟩
theorem keys_l0 {s : List Int} (hs : Bys s) : ∀ (n m : Nat) (x : List ByteArray) (p sd : Int), Kys m x → m + n ≤ 1000 → 0 ≤ p → p + 12 * (n : Int) ≤ 500000000000000000 →
    Dr (fun k => spec_l1Cur_keys.l0 k x (n : Int) s p sd) p (12 * (n : Int)) (Kys (m + n)) := by
  intro n
  induction n with
  | zero =>
    intro m x p sd hx hm h0 h1
    refine ⟨x, p, sd, ev_succ ?_, hx, h0, by omega⟩
    simp only [spec_l1Cur_keys.l0]
    exact ev_neg (by omega) (Ev.now _)
  | succ n ih =>
    intro m x p sd hx hm h0 h1
    obtain ⟨v, p', sd', e, hv, q0, q1⟩ := key_ok hs sd h0 (by omega)
    have hl := hx.1
    obtain ⟨u, p2, sd2, eu, hu, r0, r1⟩ := ih (m + 1) (insK v x) p' sd' (hx.ins (by omega)) (by omega) q0 (by omega)
    refine ⟨u, p2, sd2, ev_succ ?_, hu.mono (by omega), r0, by omega⟩
    simp only [spec_l1Cur_keys.l0]
    refine ev_pos (by omega) (ev_bind _ e (ev_bind _ (putS_f x v (by omega)) ?_))
    rw [wdec (by omega)]
    exact eu
theorem keys_ok {s : List Int} (hs : Bys s) {p : Int} (sd : Int) {n : Nat} (hn : n ≤ 100) (h0 : 0 ≤ p) (h1 : p ≤ 400000000000000000) : Dr (fun k => spec_l1Cur_keys.f k s p sd (n : Int)) p (12 * (n : Int) + 2) (Kys n) := by
  obtain ⟨v, p', sd', e, hv, q0, q1⟩ := pick_ok hs sd (n := (n : Int) + 1) h0 (by omega)
  obtain ⟨u, p2, sd2, eu, hu, r0, r1⟩ := keys_l0 hs v.toNat 0 [] p' sd' ⟨by simp, by simp⟩ (by omega) q0 (by omega)
  refine ⟨u, p2, sd2, ?_, hu.mono (by omega), r0, by omega⟩
  unfold spec_l1Cur_keys.f
  rw [w64 (x := (n : Int) + 1) (by omega) (by omega), e]
  refine ev_bind _ (Ev.now _) ?_
  rw [show ((v.toNat : Nat) : Int) = v from by omega] at eu
  exact eu
end Go.Proofs.YtephjmmkggcmeaaQ
namespace Go.Proofs.YtephjmmkggcmeaaQ
open Go Go.RowKit Go.Proofs.YtephjmmkggcmeaaW.PrintWords Go.Proofs.YtephjmmkggcmeaaGp Go.Proofs.Ytephjmmkggcmeaa.PG

theorem Dr.mono {α : Type} {g : Nat → Option (α × Int × Int)} {p c c' : Int} {P P' : α → Prop} (h : Dr g p c P) (hc : c ≤ c') (hP : ∀ x, P x → P' x) : Dr g p c' P' := by
  obtain ⟨v, p', sd', e, hv, q0, q1⟩ := h
  exact ⟨v, p', sd', e, hP v hv, q0, by omega⟩
theorem seed9_ok {s : List Int} (hs : Bys s) {p : Int} (sd : Int) (h0 : 0 ≤ p) (h1 : p ≤ 1000000000000000000) :
    ∃ v p' sd', spec_l1Cur_seed9.f s p sd = some (v, p', sd') ∧ (-1 ≤ v ∧ v ≤ 10000) ∧ 0 ≤ p' ∧ p' ≤ p + 4 := by
  obtain ⟨v, p', sd', e, hv, q0, q1⟩ := pick_ok hs sd (n := 12) h0 (by omega)
  unfold spec_l1Cur_seed9.f
  rw [e]
  simp only [Option.bind_some]
  by_cases c : v = 0
  · obtain ⟨u, p2, sd2, eu, hu, r0, r1⟩ := among_ok hs sd' (l := [(-1), 9999, 10000]) (by simp) q0 (by omega)
    rw [if_pos c, eu]
    refine ⟨u, p2, sd2, rfl, ?_, r0, by omega⟩
    simp only [List.mem_cons, List.not_mem_nil, or_false] at hu
    omega
  · rw [if_neg c]
    by_cases d : v = 1
    · obtain ⟨u, p2, sd2, eu, hu, r0, r1⟩ := pick_ok hs sd' (n := 10000) q0 (by omega)
      rw [if_pos d, eu]
      exact ⟨u, p2, sd2, rfl, by omega, r0, by omega⟩
    · obtain ⟨u, p2, sd2, eu, hu, r0, r1⟩ := pick_ok hs sd' (n := 20) q0 (by omega)
      rw [if_neg d, eu]
      exact ⟨u, p2, sd2, rfl, by omega, r0, by omega⟩
theorem of_ok {s : List Int} (hs : Bys s) {p : Int} (sd : Int) {l : List ByteArray} (hl : 0 < l.length) (h0 : 0 ≤ p) (h1 : p ≤ 3000000000000000000) :
    ∃ v p' sd', spec_l1Cur_of.f s p sd l = some (v, p', sd') ∧ v ∈ l ∧ 0 ≤ p' ∧ p' ≤ p + 2 := by
  obtain ⟨v, p', sd', e, hv, q0, q1⟩ := pick_ok hs sd (n := (l.length : Int)) h0 h1
  have hm : rdOf ByteArray.empty l v ∈ l := by
    unfold rdOf
    have : v.toNat < l.length := by omega
    rw [List.getD_eq_getElem?_getD, List.getElem?_eq_getElem this]
    exact List.getElem_mem this
  unfold spec_l1Cur_of.f
  rw [e]
  simp only [Option.bind_some]
  rw [if_pos (by omega), if_pos (by omega)]
  exact ⟨_, _, _, rfl, hm, q0, q1⟩
theorem text_ok {s : List Int} (hs : Bys s) {p : Int} (sd : Int) (h0 : 0 ≤ p) (h1 : p ≤ 500000000000000000) : Dr (fun k => spec_l1Cur_text.f k s p sd) p 14 (fun v => v.size ≤ 13) := by
  obtain ⟨v, p', sd', e, hv, q0, q1⟩ := pick_ok hs sd (n := 16) h0 (by omega)
  obtain ⟨u, p2, sd2, eu, hu, r0, r1⟩ := key_ok hs sd' q0 (by omega)
  unfold spec_l1Cur_text.f
  rw [e]
  simp only [Option.bind_some]
  by_cases c0 : v = 0
  · exact ⟨_, p', sd', ev_pos c0 (Ev.now _), by decide, q0, by omega⟩
  · by_cases c1 : v = 1
    · have h1 : (⟨#[32]⟩ : ByteArray).size = 1 := rfl
      refine ⟨u ++ ⟨#[32]⟩, p2, sd2, ev_neg c0 (ev_pos c1 (ev_bind _ eu (ev_pos (by simp only []; omega) (Ev.now _)))), ?_, r0, by omega⟩
      show (u ++ ⟨#[32]⟩ : ByteArray).size ≤ 13
      rw [ByteArray.size_append]
      omega
    · by_cases c2 : v = 2
      · exact ⟨_, p', sd', ev_neg c0 (ev_neg c1 (ev_pos c2 (Ev.now _))), by decide, q0, by omega⟩
      · by_cases c3 : v = 3
        · obtain ⟨x, p3, sd3, ex, hx, t0, t1⟩ := of_ok hs sd' (l := [(⟨#[126]⟩ : ByteArray), (⟨#[125]⟩ : ByteArray), (⟨#[97, 126]⟩ : ByteArray), (⟨#[127]⟩ : ByteArray)]) (by simp) q0 (by omega)
          refine ⟨x, p3, sd3, ev_neg c0 (ev_neg c1 (ev_neg c2 (ev_pos c3 ?_))), ?_, t0, by omega⟩
          · rw [ex]; exact ev_bind _ (Ev.now _) (Ev.now _)
          · simp only [List.mem_cons, List.not_mem_nil, or_false] at hx
            rcases hx with rfl | rfl | rfl | rfl <;> decide
        · exact ⟨u, p2, sd2, ev_neg c0 (ev_neg c1 (ev_neg c2 (ev_neg c3 (ev_bind _ eu (Ev.now _))))), by omega, r0, by omega⟩
theorem many_l0 (s : List Int) (p sd : Int) : ∀ (d i m : Nat) (x : List ByteArray), Kys m x → m + d ≤ 1000 → i + d ≤ 1000 →
    ∃ v, Ev (fun k => spec_l1Cur_many.l0 k ((i + d : Nat) : Int) x (i : Int) s p sd) (v, p, sd) ∧ Kys (m + d) v := by
  intro d
  induction d with
  | zero =>
    intro i m x hx hm hi
    refine ⟨x, ev_succ ?_, hx⟩
    simp only [spec_l1Cur_many.l0]
    exact ev_neg (by omega) (Ev.now _)
  | succ d ih =>
    intro i m x hx hm hi
    have hl := hx.1
    have hz : (strOfNums [(wrap64 (97 + (wrap64 (Int.tdiv (i : Int) 10)))) % 256, (wrap64 (48 + (Int.tmod (i : Int) 10))) % 256]).size ≤ 13 := by rw [strOf_size]; simp
    obtain ⟨v, e, hv⟩ := ih (i + 1) (m + 1) (insK (strOfNums [(wrap64 (97 + (wrap64 (Int.tdiv (i : Int) 10)))) % 256, (wrap64 (48 + (Int.tmod (i : Int) 10))) % 256]) x) (hx.ins hz) (by omega) (by omega)
    refine ⟨v, ev_succ ?_, hv.mono (by omega)⟩
    simp only [spec_l1Cur_many.l0]
    refine ev_pos (by omega) (ev_bind _ (putS_f x _ (by omega)) ?_)
    rw [winc (by omega), show i + (d + 1) = i + 1 + d from by omega]
    exact e
theorem anyKeys_ok {s : List Int} (hs : Bys s) {p : Int} (sd : Int) {n : Nat} (hn : n ≤ 40) (h0 : 0 ≤ p) (h1 : p ≤ 100000000000000000) : Dr (fun k => spec_l1Cur_anyKeys.f k s p sd (n : Int)) p 600 (Kys 42) := by
  obtain ⟨ks, p', sd', e, hv, q0, q1⟩ := keys_ok hs sd (by omega : n ≤ 100) h0 (by omega)
  obtain ⟨v, p2, sd2, e2, hv2, r0, r1⟩ := pick_ok hs sd' (n := 14) q0 (by omega)
  have hl := hv.1
  unfold spec_l1Cur_anyKeys.f
  by_cases c0 : v = 0
  · obtain ⟨u, p3, sd3, eu, hu, t0, t1⟩ := text_ok hs sd2 r0 (by omega)
    refine ⟨ks ++ [u], p3, sd3, ev_bind _ e ?_, (hv.one hu).mono (by omega), t0, by omega⟩
    simp only [e2]
    exact ev_bind _ (Ev.now _) (ev_pos c0 (ev_bind _ eu (ev_pos (by omega) (Ev.now _))))
  · by_cases c1 : v = 1
    · by_cases c : (ks.length : Int) > 0
      · obtain ⟨u, p3, sd3, eu, hu, t0, t1⟩ := pick_ok hs sd2 (n := (ks.length : Int)) r0 (by omega)
        have hm : rdOf ByteArray.empty ks u ∈ ks := by
          unfold rdOf
          have : u.toNat < ks.length := by omega
          rw [List.getD_eq_getElem?_getD, List.getElem?_eq_getElem this]
          exact List.getElem_mem this
        refine ⟨ks ++ [rdOf ByteArray.empty ks u], p3, sd3, ev_bind _ e ?_, (hv.one (hv.2 _ hm)).mono (by omega), t0, by omega⟩
        simp only [e2]
        refine ev_bind _ (Ev.now _) (ev_neg c0 (ev_pos c1 (ev_pos c ?_)))
        simp only [eu]
        exact ev_bind _ (Ev.now _) (ev_pos (by omega) (ev_pos (by omega) (ev_pos (by omega) (Ev.now _))))
      · refine ⟨ks, p2, sd2, ev_bind _ e ?_, hv.mono (by omega), r0, by omega⟩
        simp only [e2]
        exact ev_bind _ (Ev.now _) (ev_neg c0 (ev_pos c1 (ev_neg c (Ev.now _))))
    · by_cases c2 : v = 2
      · obtain ⟨u, p3, sd3, eu, hu, t0, t1⟩ := pick_ok hs sd2 (n := 2) r0 (by omega)
        obtain ⟨y, ey, hy⟩ := many_l0 s p3 sd3 (40 + u.toNat) 0 0 [] ⟨by simp, by simp⟩ (by omega) (by omega)
        refine ⟨y, p3, sd3, ev_bind _ e ?_, hy.mono (by omega), t0, by omega⟩
        simp only [e2]
        refine ev_bind _ (Ev.now _) (ev_neg c0 (ev_neg c1 (ev_pos c2 ?_)))
        simp only [eu]
        refine ev_bind _ (Ev.now _) (ev_bind (y, p3, sd3) ?_ (Ev.now _))
        unfold spec_l1Cur_many.f
        simp only []
        rw [w64 (by omega) (by omega), show 40 + u = ((0 + (40 + u.toNat) : Nat) : Int) from by omega]
        exact ey
      · refine ⟨ks, p2, sd2, ev_bind _ e ?_, hv.mono (by omega), r0, by omega⟩
        simp only [e2]
        exact ev_bind _ (Ev.now _) (ev_neg c0 (ev_neg c1 (ev_neg c2 (Ev.now _))))
theorem big_f {l0 l1 : List Int} (h0 : l0.length ≤ maxLen) (h1 : l1.length ≤ maxLen) : ∃ b, laws_big.f l0 l1 = some b ∧ (b = false → (l0.length : Int) ≤ 1048576 ∧ (l1.length : Int) ≤ 1048576) := by
  rw [maxLen_eq] at h0 h1
  unfold laws_big.f
  by_cases c : (l0.length : Int) > 1048576
  · exact ⟨true, if_pos c, by simp⟩
  · refine ⟨_, if_neg c, fun h => ?_⟩
    rw [decide_eq_false_iff_not, w64 (by omega) (by omega)] at h
    omega
theorem bys {l : List Int} (h : (l.length : Int) ≤ 1048576) (hw : ∀ x ∈ l, (Lit.int .u8 x).wf = true) : Bys l := by
  refine ⟨h, fun x hx => ?_⟩
  have := hw x hx
  simp only [Lit.wf, Bool.and_eq_true, decide_eq_true_eq] at this
  exact this
end Go.Proofs.YtephjmmkggcmeaaQ
namespace Go.Proofs.YtephjmmkggcmeaaQ
open Go Go.RowKit Go.Proofs.YtephjmmkggcmeaaW.PrintWords Go.Proofs.YtephjmmkggcmeaaGp Go.Proofs.Ytephjmmkggcmeaa.PG

end Go.Proofs.YtephjmmkggcmeaaQ
namespace Go.Proofs.YtephjmmkggcmeaaQ.CK
open Classical

def el (ls : List (List Int)) (i : Nat) : List Int := ls.getD i []
def Adj (ls : List (List Int)) (i j : Nat) : Prop := ∃ x, x ∈ el ls i ∧ x ∈ el ls j
inductive Reach (ls : List (List Int)) : Nat → Nat → Prop
  | refl (i : Nat) : Reach ls i i
  | step {i j k : Nat} : Reach ls i j → k < ls.length → Adj ls j k → Reach ls i k
theorem Adj.symm {ls : List (List Int)} {i j : Nat} (h : Adj ls i j) : Adj ls j i := by
  obtain ⟨x, h1, h2⟩ := h
  exact ⟨x, h2, h1⟩
theorem Reach.trans {ls : List (List Int)} {i j k : Nat} (h : Reach ls i j) (h' : Reach ls j k) : Reach ls i k := by
  induction h' with
  | refl => exact h
  | step _ hk ha ih => exact .step ih hk ha
theorem Reach.lt {ls : List (List Int)} {i j : Nat} (h : Reach ls i j) (hi : i < ls.length) : j < ls.length := by
  cases h with
  | refl => exact hi
  | step _ hk _ => exact hk
theorem Reach.symm {ls : List (List Int)} {i j : Nat} (h : Reach ls i j) (hi : i < ls.length) : Reach ls j i := by
  induction h with
  | refl => exact .refl _
  | step h1 hk ha ih => exact (Reach.step (.refl _) (h1.lt hi) ha.symm).trans ih
def Own (ls : List (List Int)) (m : Nat) (f : Nat → Int) : Prop := (∀ i, i < m → f i ∈ el ls i) ∧ ∀ i j, i < m → j < m → f i = f j → i = j
noncomputable def cnt (n : Nat) (o : Nat → Int) (v : Int) : Nat := (List.range n).countP (fun i => decide (o i = v))
section
variable {ls : List (List Int)} {n : Nat}
def Path (ls : List (List Int)) (n : Nat) (o : Nat → Int) : Nat → Int → Int → Prop
  | 0, v, w => w = v
  | k + 1, v, w => ∃ d v', d < n ∧ o d = v ∧ v' ∈ el ls d ∧ Path ls n o k v' w
theorem Path.snoc {o : Nat → Int} : ∀ {k : Nat} {v w : Int}, Path ls n o k v w → ∀ {d : Nat} {x : Int}, d < n → o d = w → x ∈ el ls d → Path ls n o (k + 1) v x
  | 0, _, _, h, d, x, hd, ho, hx => ⟨d, x, hd, ho.trans h, hx, rfl⟩
  | _ + 1, _, _, ⟨e, v', he, ho', hv, hp⟩, _, _, hd, ho, hx => ⟨e, v', he, ho', hv, hp.snoc hd ho hx⟩
end

section
variable {ls : List (List Int)}
end
end Go.Proofs.YtephjmmkggcmeaaQ.CK
namespace Go.Proofs.YtephjmmkggcmeaaQ.CK
open Classical
section
variable {ls : List (List Int)}
noncomputable def heads (ls : List (List Int)) : List Nat := (List.range ls.length).filter (fun i => decide (∀ j, Reach ls i j → i ≤ j))
structure Found (ls : List (List Int)) (i : Nat) (F : Nat → Prop) (todo : List Nat) : Prop where
  here : F i
  sound : ∀ j, F j → Reach ls i j ∧ j < ls.length
  sub : ∀ j ∈ todo, F j
  shut : ∀ j k, F j → j ∉ todo → k < ls.length → Adj ls j k → F k
theorem Found.all {i : Nat} {F : Nat → Prop} (h : Found ls i F []) : ∀ j, F j ↔ Reach ls i j := by
  intro j
  refine ⟨fun hj => (h.sound j hj).1, fun hj => ?_⟩
  induction hj with
  | refl => exact h.here
  | step h1 hk ha ih => exact h.shut _ _ ih (by simp) hk ha
end
end Go.Proofs.YtephjmmkggcmeaaQ.CK
namespace Go.Proofs.YtephjmmkggcmeaaQ.CK
open Classical

section
variable {ls : List (List Int)}
structure Bfs (ls : List (List Int)) (k : Int) (i : Nat) (o0 o : List Int) (t : List Nat) : Prop where
  len : o.length = ls.length
  rest : ∀ q, o.getD q 0 ≠ k → o.getD q 0 = o0.getD q 0
  found : Found ls i (fun q => q < ls.length ∧ o.getD q 0 = k) t
  nodup : t.Nodup
structure Outer (ls : List (List Int)) (i : Nat) (o : List Int) (c : Nat) : Prop where
  len : o.length = ls.length
  cnt : c = ((heads ls).filter (fun h => decide (h < i))).length
  told : ∀ (a h : Nat), ((heads ls).filter (fun h => decide (h < i)))[a]? = some h → ∀ q, q < ls.length → (o.getD q 0 = (a : Int) ↔ Reach ls h q)
  free : ∀ q, q < ls.length → (∀ h, h ∈ heads ls → h < i → ¬ Reach ls h q) → o.getD q 0 < 0
end
end Go.Proofs.YtephjmmkggcmeaaQ.CK
namespace Go.Proofs.YtephjmmkggcmeaaQ
open Go Go.RowKit Go.Proofs.YtephjmmkggcmeaaW.PrintWords Go.Proofs.YtephjmmkggcmeaaW.PrintMore Go.Proofs.YtephjmmkggcmeaaGp Go.Proofs.Ytephjmmkggcmeaa.PG
open CK (el)

theorem slices_Index_int_l0 (x0 : List Int) (a : Int) (hl : (x0.length : Int) ≤ 9223372036854775806) : ∀ (t pre : List Int), x0 = pre ++ t →
    ∃ r, Ev (fun k => slices_Index_int_int.l0 k x0 a (x0.length : Int) (pre.length : Int)) r ∧ decide (r ≥ 0) = t.contains a := by
  intro t
  induction t with
  | nil =>
    intro pre h
    refine ⟨-1, ev_succ ?_, by simp⟩
    simp only [slices_Index_int_int.l0]
    exact ev_neg (by rw [h]; exact not_lt_end) (Ev.now _)
  | cons x t ih =>
    intro pre h
    have hm : ((pre.length : Nat) : Int) < (x0.length : Int) := by rw [h]; exact lt_mid
    have hg : rd x0 (pre.length : Int) = x := by rw [h]; exact rd_mid
    by_cases c : a = x
    · refine ⟨(pre.length : Int), ev_succ ?_, by simp [c]⟩
      simp only [slices_Index_int_int.l0, hg]
      exact ev_pos hm (ev_pos (by omega) (ev_pos hm (ev_pos c (Ev.now _))))
    · obtain ⟨r, h1, h2⟩ := ih (pre ++ [x]) (by rw [h]; simp)
      rw [len_one] at h1
      refine ⟨r, ev_succ ?_, by rw [h2]; simp [c]⟩
      simp only [slices_Index_int_int.l0, hg]
      refine ev_pos hm (ev_pos (by omega) (ev_pos hm (ev_neg c ?_)))
      rw [winc (by omega)]
      exact h1
theorem slices_Contains_int_f (l : List Int) (a : Int) (hl : (l.length : Int) ≤ 9223372036854775806) : Ev (fun k => slices_Contains_int_int.f k l a) (l.contains a) := by
  obtain ⟨r, h1, h2⟩ := slices_Index_int_l0 l a hl l [] rfl
  unfold slices_Contains_int_int.f slices_Index_int_int.f
  refine ev_bind _ h1 (ev_some h2)
def zs (l : List Nat) : List Int := l.map fun (n : Nat) => (n : Int)
theorem rd_nat (l : List Int) (q : Nat) : rd l (q : Int) = l.getD q 0 := by simp [rd]
theorem rdll_nat (L : List (List Int)) (q : Nat) : rd_L3 L (q : Int) = el L q := by
  unfold rd_L3 el
  rw [Int.toNat_natCast]
theorem el_get {L : List (List Int)} {q : Nat} (h : q < L.length) : el L q = L[q] := by
  unfold el
  rw [List.getD_eq_getElem?_getD, List.getElem?_eq_getElem h]
  rfl
theorem el_len {L : List (List Int)} (hL : ∀ e ∈ L, e.length ≤ 1000) (q : Nat) : (el L q).length ≤ 1000 := by
  unfold el
  rw [List.getD_eq_getElem?_getD]
  cases h : L[q]? with
  | none => simp
  | some x => exact hL x (List.mem_of_getElem? h)
def prs (a n : Int) (l : List ByteArray) : List (List Int) := l.map fun s => [placeV a 0 s n, placeV a 1 s n]
theorem prs_len (a n : Int) (l : List ByteArray) : (prs a n l).length = l.length := by simp [prs]
theorem prs_el {a n : Int} {l : List ByteArray} {i : Nat} (h : i < l.length) : el (prs a n l) i = [placeV a 0 l[i] n, placeV a 1 l[i] n] := by
  rw [el_get (by rw [prs_len]; exact h)]
  simp [prs]
theorem prs_two {a n : Int} {l : List ByteArray} : ∀ e ∈ prs a n l, e.length ≤ 1000 := by
  intro e he
  obtain ⟨s, _, rfl⟩ := List.mem_map.1 he
  simp
def keyedC (a : Int) (l : List ByteArray) (n : Int) : Bool := decide (0 ≤ a ∧ a ≤ 9999) && areKeysB l && decide (1 ≤ n ∧ n ≤ 64)
theorem keyedC_ok {a n : Int} {l : List ByteArray} (h : keyedC a l n = true) : (0 ≤ a ∧ a ≤ 9999) ∧ areKeysB l = true ∧ 1 ≤ n ∧ n ≤ 64 := by
  unfold keyedC at h
  simp only [Bool.and_eq_true, decide_eq_true_eq] at h
  exact ⟨h.1.1, h.1.2, h.2⟩
theorem keys_small {l : List ByteArray} (h : areKeysB l = true) : l.length ≤ 40 ∧ ∀ s ∈ l, s.size ≤ 1000 :=
  ⟨areKeysB_len h, fun s hs => by have := isKeyB_size (areKeysB_all h s hs); omega⟩
section
variable {a n : Int}
theorem spec_cuKeyed_f (a n : Int) {l : List ByteArray} (hl : l.length ≤ 1000) (hz : ∀ s ∈ l, s.size ≤ 1000) : Ev (fun k => spec_cuKeyed.f k a l n) (keyedC a l n) := by
  have hk := spec_biKeys_f l (by omega) (fun s hs => by have := hz s hs; omega)
  unfold spec_cuKeyed.f spec_cuSize.f keyedC
  simp only [spec_in, Option.bind_some]
  by_cases c : 0 ≤ a ∧ a ≤ 9999
  · rw [decide_eq_true c, Bool.true_and, if_pos rfl]
    simp only [Option.bind_some]
    by_cases d : 1 ≤ n ∧ n ≤ 64
    · rw [decide_eq_true d, Bool.and_true]
      exact ev_pos rfl (ev_bind _ hk (Ev.now _))
    · rw [decide_eq_false d, Bool.and_false]
      exact ev_neg (by simp) (Ev.now _)
  · rw [decide_eq_false c, Bool.false_and, Bool.false_and, if_neg (by simp)]
    simp only [Option.bind_some]
    exact ev_neg (by simp) (Ev.now _)
theorem spec_cuCells_f (ha : 0 ≤ a) (ha' : a ≤ 9999) (s : ByteArray) (hz : s.size ≤ 1000) : Ev (fun k => spec_cuCells.f k a s n) [placeV a 0 s n, placeV a 1 s n] := by
  unfold spec_cuCells.f
  exact ev_bind _ (spec_biPlace_f a 0 s n (by omega) ha (by omega) (by omega) (by omega)) (ev_bind _ (spec_biPlace_f a 1 s n (by omega) ha (by omega) (by omega) (by omega)) (Ev.now _))
theorem impl_cellsOf_f (ha : 0 ≤ a) (ha' : a ≤ 9999) (s : ByteArray) (hz : s.size ≤ 1000) : Ev (fun k => impl_cellsOf.f k a s n) (placeV a 0 s n, placeV a 1 s n) := by
  unfold impl_cellsOf.f
  exact ev_bind _ (impl_place_f a 0 s n (by omega) ha (by omega) (by omega) (by omega)) (ev_bind _ (impl_place_f a 1 s n (by omega) ha (by omega) (by omega) (by omega)) (Ev.now _))
theorem impl_pairs_go (ha : 0 ≤ a) (ha' : a ≤ 9999) {l : List ByteArray} (hl : l.length ≤ 1000) (hz : ∀ s ∈ l, s.size ≤ 1000) : Ev (fun k => impl_pairs.l0 k a n [] l (l.length : Int) 0) (prs a n l, true) := by
  have H : ∀ (t pre : List ByteArray), l = pre ++ t → Ev (fun k => impl_pairs.l0 k a n (prs a n pre) l (l.length : Int) (pre.length : Int)) (prs a n l, true) := by
    intro t
    induction t with
    | nil =>
      intro pre h
      have hp : l = pre := by rw [h, List.append_nil]
      subst hp
      refine ev_succ ?_
      simp only [impl_pairs.l0]
      exact ev_neg (by omega) (Ev.now _)
    | cons x t ih =>
      intro pre h
      have hm : ((pre.length : Nat) : Int) < (l.length : Int) := by rw [h]; exact lt_mid
      have hg : rdOf ByteArray.empty l (pre.length : Int) = x := by rw [h]; exact rdOf_mid
      refine ev_succ ?_
      simp only [impl_pairs.l0, hg]
      refine ev_pos hm (ev_pos (by omega) (ev_pos hm (ev_bind _ (impl_cellsOf_f ha ha' x (hz x (by rw [h]; simp))) (ev_pos (by rw [prs_len]; omega) ?_))))
      rw [winc (by omega)]
      have := ih (pre ++ [x]) (by rw [h]; simp)
      rw [len_one] at this
      unfold prs at this ⊢
      rw [List.map_append, List.map_singleton] at this
      exact this
  exact H l [] rfl
theorem impl_pairs_f (a n : Int) {l : List ByteArray} (hl : l.length ≤ 1000) (hz : ∀ s ∈ l, s.size ≤ 1000) : Ev (fun k => impl_pairs.f k a l n) (if keyedC a l n = true then (prs a n l, true) else ([], false)) := by
  have hk := impl_AreKeys_f l (by omega) (fun s hs => by have := hz s hs; omega)
  have j1 : Ev (fun k => impl_pairs.j0 k a l n true) ([], false) := ev_succ (by simp only [impl_pairs.j0]; exact ev_pos (by trivial) (Ev.now _))
  unfold impl_pairs.f impl_isSeed.f impl_cellsOk.f keyedC
  simp only [impl_in, Option.bind_some]
  by_cases c : 0 ≤ a ∧ a ≤ 9999
  · rw [decide_eq_true c, Bool.true_and]
    refine ev_pos rfl (ev_bind _ hk ?_)
    by_cases e : areKeysB l = true
    · rw [e, Bool.true_and]
      refine ev_pos rfl ?_
      by_cases d : 1 ≤ n ∧ n ≤ 64
      · rw [decide_eq_true d, if_pos rfl]
        refine ev_succ ?_
        simp only [impl_pairs.j0]
        exact ev_neg (by simp) (impl_pairs_go c.1 c.2 hl hz)
      · rw [decide_eq_false d, if_neg (by simp)]
        exact j1
    · rw [Bool.eq_false_iff.2 e, Bool.false_and, if_neg (by simp)]
      exact ev_neg (by simp) j1
  · rw [decide_eq_false c, Bool.false_and, Bool.false_and, if_neg (by simp)]
    exact ev_neg (by simp) j1
end
theorem cells_ok {s : List Int} (hs : Bys s) {p : Int} (sd : Int) (h0 : 0 ≤ p) (h1 : p ≤ 100000000000000000) : ∃ v p' sd', spec_l1Cur_cells.f s p sd = some (v, p', sd') ∧ (-1 ≤ v ∧ v ≤ 65) ∧ 0 ≤ p' ∧ p' ≤ p + 10 := by
  obtain ⟨b, p1, sd1, e1, q0, q1⟩ := one_ok hs sd 10 h0 (by omega)
  unfold spec_l1Cur_cells.f
  rw [e1, Option.bind_some]
  by_cases c : b = true
  · obtain ⟨v, p2, sd2, e2, hv, r0, r1⟩ := among_ok hs sd1 (l := [(-1), 0, 64, 65]) (by simp) q0 (by omega)
    rw [if_pos c, e2]
    refine ⟨v, p2, sd2, rfl, ?_, r0, by omega⟩
    simp only [List.mem_cons, List.not_mem_nil, or_false] at hv
    omega
  · obtain ⟨v, p2, sd2, e2, hv, r0, r1⟩ := among_ok hs sd1 (l := [4, 8, 16, 64]) (by simp) q0 (by omega)
    obtain ⟨u, p3, sd3, e3, hu, s0, s1⟩ := pick_ok hs sd2 (n := v) r0 (by omega)
    rw [if_neg c, e2]
    simp only [Option.bind_some, e3]
    simp only [List.mem_cons, List.not_mem_nil, or_false] at hv
    refine ⟨_, p3, sd3, rfl, ?_, s0, by omega⟩
    rw [w64 (by omega) (by omega)]
    omega
theorem keyed_ok {s : List Int} (hs : Bys s) {p : Int} (sd : Int) (h0 : 0 ≤ p) (h1 : p ≤ 10000000000000000) :
    ∃ a l n p' sd', Ev (fun k => spec_l1Cur_keyed.f k s p sd) (a, l, n, p', sd') ∧ (-1 ≤ a ∧ a ≤ 10000) ∧ Kys 42 l ∧ (-1 ≤ n ∧ n ≤ 65) ∧ 0 ≤ p' ∧ p' ≤ p + 700 := by
  obtain ⟨a, p1, sd1, e1, ha, q0, q1⟩ := seed9_ok hs sd h0 (by omega)
  obtain ⟨v, p2, sd2, e2, hv, r0, r1⟩ := among_ok hs sd1 (l := [3, 5, 8, 12]) (by simp) q0 (by omega)
  simp only [List.mem_cons, List.not_mem_nil, or_false] at hv
  obtain ⟨l, p3, sd3, e3, hk, s0, s1⟩ := anyKeys_ok hs sd2 (n := v.toNat) (by omega) r0 (by omega)
  obtain ⟨n, p4, sd4, e4, hn, t0, t1⟩ := cells_ok hs sd3 s0 (by omega)
  obtain ⟨b, p5, sd5, e5, u0, u1⟩ := one_ok hs sd4 2 t0 (by omega)
  obtain ⟨m, p6, sd6, e6, hm, v0, v1⟩ := pick_ok hs sd5 (n := 4) u0 (by omega)
  rw [Int.toNat_of_nonneg (by omega)] at e3
  unfold spec_l1Cur_keyed.f
  simp only [e1, e2, Option.bind_some]
  by_cases c : b = true
  · refine ⟨a, l, wrap64 ((l.length : Int) + m), p6, sd6, ev_bind _ e3 ?_, ha, hk, ?_, v0, by omega⟩
    · simp only [e4, e5, Option.bind_some]
      refine ev_pos c ?_
      rw [e6]
      exact Ev.now _
    · have := hk.1
      rw [w64 (by omega) (by omega)]
      omega
  · refine ⟨a, l, n, p5, sd5, ev_bind _ e3 ?_, ha, hk, hn, u0, by omega⟩
    simp only [e4, e5, Option.bind_some]
    exact ev_neg c (Ev.now _)
end Go.Proofs.YtephjmmkggcmeaaQ
namespace Go.Proofs.YtephjmmkggcmeaaQ.KC
open Go Go.RowKit Go.Proofs.YtephjmmkggcmeaaW.PrintWords Go.Proofs.YtephjmmkggcmeaaW.PrintMore Go.Proofs.YtephjmmkggcmeaaGp Go.Proofs.Ytephjmmkggcmeaa.PG Go.Proofs.YtephjmmkggcmeaaQ

abbrev Str := List UInt8
theorem bl_tri (a b : Str) : Op.bytesLess a b = true ∨ a = b ∨ Op.bytesLess b a = true := by
  have t := bl_total a b
  cases h : Op.bytesLess b a
  · rw [h] at t
    simp only [Bool.not_false, Bool.or_eq_true, beq_iff_eq] at t
    rcases t with t | t
    · exact .inl t
    · exact .inr (.inl t)
  · exact .inr (.inr rfl)
theorem bl_asymm {a b : Str} (h : Op.bytesLess a b = true) : Op.bytesLess b a = false := by
  cases hb : Op.bytesLess b a
  · rfl
  · have := bl_trans _ _ _ h hb
    rw [bl_irrefl] at this
    cases this
theorem ext_of {α : Type} (r : α → α → Prop) (irr : ∀ a, ¬ r a a) (tr : ∀ a b c, r a b → r b c → r a c) : ∀ {l m : List α}, l.Pairwise r → m.Pairwise r → (∀ x, x ∈ l ↔ x ∈ m) → l = m
  | [], [], _, _, _ => rfl
  | [], b :: m, _, _, h => by have := (h b).2 (by simp); simp at this
  | a :: l, [], _, _, h => by have := (h a).1 (by simp); simp at this
  | a :: l, b :: m, hl, hm, h => by
    obtain ⟨ha, hl'⟩ := List.pairwise_cons.1 hl
    obtain ⟨hb, hm'⟩ := List.pairwise_cons.1 hm
    have e : a = b := by
      rcases List.mem_cons.1 ((h a).1 (by simp)) with e | ia
      · exact e
      · rcases List.mem_cons.1 ((h b).2 (by simp)) with e | ib
        · exact e.symm
        · exact absurd (tr _ _ _ (ha b ib) (hb a ia)) (irr a)
    subst e
    refine congrArg (a :: ·) (ext_of r irr tr hl' hm' fun x => ?_)
    constructor
    · intro hx
      rcases List.mem_cons.1 ((h x).1 (by simp [hx])) with e | i
      · subst e; exact absurd (ha x hx) (irr x)
      · exact i
    · intro hx
      rcases List.mem_cons.1 ((h x).2 (by simp [hx])) with e | i
      · subst e; exact absurd (hb x hx) (irr x)
      · exact i
theorem bl_lt : ∀ a b : Str, Op.bytesLess a b = true ↔ a < b
  | [], [] => by simp [Op.bytesLess]
  | [], _ :: _ => by simp [Op.bytesLess]
  | _ :: _, [] => by simp [Op.bytesLess]
  | a :: l, b :: m => by
    rw [List.cons_lt_cons_iff]
    simp only [Op.bytesLess, Bool.or_eq_true, Bool.and_eq_true, decide_eq_true_eq, beq_iff_eq, bl_lt l m]
theorem le_bl {a b : Str} : decide (a ≤ b) = true ↔ Op.bytesLess b a = false := by
  rw [decide_eq_true_eq, ← Bool.not_eq_true, bl_lt, List.not_lt]

abbrev SK (l : List ByteArray) : Prop := l.Pairwise fun a b => lessS a b = true
theorem insK_mem {x y : ByteArray} : ∀ {l : List ByteArray}, y ∈ insK x l ↔ y = x ∨ y ∈ l
  | [] => by simp [insK]
  | z :: t => by
    unfold insK
    split
    · rw [List.mem_cons, insK_mem, List.mem_cons]
      constructor
      · rintro (h | h | h)
        · exact .inr (.inl h)
        · exact .inl h
        · exact .inr (.inr h)
      · rintro (h | h | h)
        · exact .inr (.inl h)
        · exact .inl h
        · exact .inr (.inr h)
    · split
      · rename_i e
        rw [List.mem_cons]
        constructor
        · intro h; exact .inr h
        · rintro (h | h)
          · exact .inl (h.trans e.symm)
          · exact h
      · simp [List.mem_cons]
theorem insK_sorted {x : ByteArray} : ∀ {l : List ByteArray}, SK l → SK (insK x l)
  | [], _ => by simp [insK]
  | z :: t, h => by
    obtain ⟨h1, h2⟩ := List.pairwise_cons.1 h
    unfold insK
    split
    · rename_i c
      refine List.pairwise_cons.2 ⟨fun y hy => ?_, insK_sorted h2⟩
      rcases insK_mem.1 hy with rfl | hy
      · exact c
      · exact h1 y hy
    · split
      · exact h
      · rename_i c e
        have hx : lessS x z = true := by
          rcases lessS_total z x (by simpa using c) with t | t
          · exact t
          · exact absurd t e
        refine List.pairwise_cons.2 ⟨fun y hy => ?_, h⟩
        rcases List.mem_cons.1 hy with rfl | hy
        · exact hx
        · exact lessS_trans hx (h1 y hy)
theorem sk_ext {a b : List ByteArray} (h1 : SK a) (h2 : SK b) (h : ∀ x, x ∈ a ↔ x ∈ b) : a = b :=
  ext_of (fun a b => lessS a b = true) (fun a => by rw [lessS_irrefl]; simp) (fun _ _ _ h k => lessS_trans h k) h1 h2 h
theorem bytes_le_trans (a b c : Str) (h1 : decide (a ≤ b) = true) (h2 : decide (b ≤ c) = true) : decide (a ≤ c) = true := by
  rw [le_bl] at *
  cases h : Op.bytesLess c a
  · rfl
  · rcases bl_tri a b with t | t | t
    · rw [bl_trans _ _ _ h t] at h2; cases h2
    · subst t; rw [h] at h2; cases h2
    · rw [t] at h1; cases h1
theorem bytes_le_total (a b : Str) : (decide (a ≤ b) || decide (b ≤ a)) = true := by
  rw [Bool.or_eq_true, le_bl, le_bl]
  cases h : Op.bytesLess b a
  · exact .inl rfl
  · exact .inr (bl_asymm h)
theorem sortS_perm (l : List ByteArray) : (sortS l).Perm l := by
  have h := (List.mergeSort_perm (bytesL l) (fun x y : Str => decide (x ≤ y))).map (fun b => (⟨b.toArray⟩ : ByteArray))
  refine h.trans ?_
  have e : (bytesL l).map (fun b => (⟨b.toArray⟩ : ByteArray)) = l := by
    unfold bytesL
    rw [List.map_map]
    exact (List.map_congr_left fun _ _ => by simp).trans (List.map_id l)
  rw [e]
theorem sortS_le (l : List ByteArray) : (sortS l).Pairwise fun a b => lessS b a = false := by
  have hp := List.pairwise_mergeSort (le := fun x y : Str => decide (x ≤ y)) (fun a b c => bytes_le_trans a b c) (fun a b => bytes_le_total a b) (bytesL l)
  refine List.pairwise_map.2 (hp.imp fun {a b} hab => ?_)
  unfold lessS
  rw [tl, tl]
  simpa using le_bl.1 hab
theorem sk_nodup {l : List ByteArray} (h : SK l) : l.Nodup := h.imp fun {a b} h e => by rw [e, lessS_irrefl] at h; cases h
theorem sortS_sk {l : List ByteArray} (h : l.Nodup) : SK (sortS l) := by
  have hn : (sortS l).Nodup := (sortS_perm l).nodup_iff.2 h
  refine ((sortS_le l).and hn).imp fun {a b} hab => ?_
  rcases lessS_total b a hab.1 with t | t
  · exact t
  · exact absurd t.symm hab.2
theorem sortS_sk_iff {l : List ByteArray} : SK (sortS l) ↔ l.Nodup := ⟨fun h => (sortS_perm l).nodup_iff.1 (sk_nodup h), sortS_sk⟩
theorem sortS_id {l m : List ByteArray} (h : l.Perm m) (hs : SK m) : sortS l = m := by
  refine sk_ext (sortS_sk (h.nodup_iff.2 (sk_nodup hs))) hs fun x => ?_
  rw [(sortS_perm l).mem_iff, h.mem_iff]
theorem insK_perm (s : ByteArray) : ∀ {l : List ByteArray}, SK l → s ∉ l → (insK s l).Perm (s :: l)
  | [], _, _ => by simp [insK]
  | z :: t, h, hs => by
    obtain ⟨h1, h2⟩ := List.pairwise_cons.1 h
    unfold insK
    split
    · exact ((insK_perm s h2 (fun m => hs (by simp [m]))).cons z).trans (List.Perm.swap _ _ _)
    · split
      · rename_i c e
        exact absurd (by simp [e]) hs
      · exact List.Perm.refl _
theorem keysFrom_iff : ∀ (l : List ByteArray) (p : Option ByteArray), keysFrom p l = true ↔ (∀ s ∈ l, isKeyB s = true) ∧ SK l ∧ ∀ q, p = some q → ∀ s ∈ l, lessS q s = true
  | [], p => by simp [keysFrom]
  | x :: t, p => by
    simp only [keysFrom, Bool.and_eq_true]
    rw [keysFrom_iff t (some x), show SK (x :: t) ↔ _ from List.pairwise_cons]
    constructor
    · rintro ⟨⟨h1, h2⟩, h3, h4, h5⟩
      refine ⟨fun s hs => ?_, ⟨h5 x rfl, h4⟩, fun q e s hs => ?_⟩
      · rcases List.mem_cons.1 hs with rfl | hs
        · exact h1
        · exact h3 s hs
      · subst e
        rcases List.mem_cons.1 hs with rfl | hs
        · exact h2
        · exact lessS_trans h2 (h5 x rfl s hs)
    · rintro ⟨h1, ⟨h2, h3⟩, h4⟩
      refine ⟨⟨h1 x (by simp), ?_⟩, fun s hs => h1 s (by simp [hs]), h3, fun q e => by cases e; exact h2⟩
      cases p with
      | none => rfl
      | some q => exact h4 q rfl x (by simp)
theorem areKeys_iff {l : List ByteArray} : areKeysB l = true ↔ (∀ s ∈ l, isKeyB s = true) ∧ SK l ∧ l.length ≤ 40 := by
  unfold areKeysB
  rw [Bool.and_eq_true, keysFrom_iff, decide_eq_true_eq]
  constructor
  · rintro ⟨⟨h1, h2, _⟩, h3⟩; exact ⟨h1, h2, by omega⟩
  · rintro ⟨h1, h2, h3⟩; exact ⟨⟨h1, h2, fun _ e => by cases e⟩, by omega⟩
theorem keysFrom_none {l : List ByteArray} : areKeysB (sortS l) = true ↔ (∀ s ∈ l, isKeyB s = true) ∧ l.Nodup ∧ l.length ≤ 40 := by
  rw [areKeys_iff, sortS_sk_iff, (sortS_perm l).length_eq]
  constructor
  · rintro ⟨h1, h2⟩; exact ⟨fun s hs => h1 s ((sortS_perm l).mem_iff.2 hs), h2⟩
  · rintro ⟨h1, h2⟩; exact ⟨fun s hs => h1 s ((sortS_perm l).mem_iff.1 hs), h2⟩
abbrev emp : ByteArray := ⟨#[]⟩
theorem tl_emp {s : ByteArray} : s.toList = ([] : List UInt8) ↔ s = emp := by
  rw [tl]
  constructor
  · intro h
    refine ByteArray.ext (Array.toList_inj.1 ?_)
    rw [h]
  · intro h; rw [h]
theorem key_ne {s : ByteArray} (h : isKeyB s = true) : s ≠ emp := by
  rintro rfl
  have := (isKeyB_size h).1
  simp [ByteArray.size] at this
def nz (l : List ByteArray) : List ByteArray := l.filter fun s => decide (s ≠ emp)
theorem nz_mem {l : List ByteArray} {s : ByteArray} : s ∈ nz l ↔ s ∈ l ∧ s ≠ emp := by simp [nz]
theorem nz_cons_emp (l : List ByteArray) : nz (emp :: l) = nz l := by simp [nz]
theorem nz_cons {s : ByteArray} (h : s ≠ emp) (l : List ByteArray) : nz (s :: l) = s :: nz l := by simp [nz, h]
theorem nz_rep (n : Nat) : nz (List.replicate n emp) = [] := by
  unfold nz
  rw [List.filter_eq_nil_iff]
  intro s hs
  rw [List.eq_of_mem_replicate hs]
  simp
theorem nz_len (l : List ByteArray) : (nz l).length ≤ l.length := List.length_filter_le _ _
theorem nz_perm {l m : List ByteArray} (h : l.Perm m) : (nz l).Perm (nz m) := h.filter _
theorem set_perm : ∀ {l : List ByteArray} {i : Nat} (h : i < l.length) (x : ByteArray), (l[i] :: l.set i x).Perm (x :: l)
  | y :: t, 0, _, x => by simpa using List.Perm.swap x y t
  | y :: t, i + 1, h, x => by
    have := set_perm (l := t) (i := i) (by simpa using h) x
    simp only [List.getElem_cons_succ, List.set_cons_succ]
    exact (List.Perm.swap _ _ _).trans ((this.cons y).trans (List.Perm.swap _ _ _))
theorem set_in {l : List ByteArray} {i : Nat} (h : i < l.length) {x : ByteArray} (hx : x ≠ emp) (he : l[i] = emp) : (nz (l.set i x)).Perm (x :: nz l) := by
  have := nz_perm (set_perm h x)
  rw [he, nz_cons_emp, nz_cons hx] at this
  exact this
theorem set_swap {l : List ByteArray} {i : Nat} (h : i < l.length) {x : ByteArray} (hx : x ≠ emp) (he : l[i] ≠ emp) : (l[i] :: nz (l.set i x)).Perm (x :: nz l) := by
  have := nz_perm (set_perm h x)
  rw [nz_cons he, nz_cons hx] at this
  exact this
end Go.Proofs.YtephjmmkggcmeaaQ.KC
namespace Go.Proofs.YtephjmmkggcmeaaQ.KC
open Go Go.RowKit Go.Proofs.YtephjmmkggcmeaaW.PrintWords Go.Proofs.YtephjmmkggcmeaaW.PrintMore Go.Proofs.YtephjmmkggcmeaaGp Go.Proofs.Ytephjmmkggcmeaa.PG Go.Proofs.YtephjmmkggcmeaaQ

def cel (a n : Int) (s : ByteArray) (i : Int) : Bool := decide (placeV a 0 s n = i) || decide (placeV a 1 s n = i)
def slotsB (a n : Int) : List ByteArray → Nat → Bool
  | [], _ => true
  | s :: t, i => (decide (s = emp) || (isKeyB s && cel a n s (i : Int))) && slotsB a n t (i + 1)
structure Tab (S T : List ByteArray) : Prop where
  s : S.length ≤ 1000
  t : T.length ≤ 1000
  zs : ∀ x ∈ S, x.size ≤ 1000
  zt : ∀ x ∈ T, x.size ≤ 1000
def goodB (a : Int) (S T : List ByteArray) : Bool :=
  decide (0 ≤ a ∧ a ≤ 9999) && (decide (1 ≤ (S.length : Int) ∧ (S.length : Int) ≤ 64) && (decide ((T.length : Int) ≤ 4) && (areKeysB T && (slotsB a (S.length : Int) S 0 && areKeysB (sortS (nz S ++ T))))))

theorem clone_S {l : List ByteArray} (h : l.length ≤ 1000) : slices_Clone_string_string.f l = some l := by
  unfold slices_Clone_string_string.f
  simp only [Option.bind_some]
  rw [if_pos (by simp; omega)]
  simp
theorem fullS_nz : ∀ l, fullS l = nz l
  | [] => rfl
  | x :: t => by
    have ih := fullS_nz t
    unfold fullS bytesL at ih ⊢
    rw [List.map_cons, List.filter_cons]
    by_cases c : x = emp
    · subst c
      rw [nz_cons_emp, ← ih]
      simp
    · rw [nz_cons c, ← ih]
      have : (!(x.data.toList == [])) = true := by
        rw [Bool.not_eq_true', beq_eq_false_iff_ne]
        exact fun e => c (by rw [← tl] at e; exact tl_emp.1 e)
      rw [if_pos this, List.map_cons]
theorem impl_all_f (a : Int) {S T : List ByteArray} (h : Tab S T) (h0 : 0 < S.length) : impl_Cuckoo_all.f a S T = some (nz S ++ T) := by
  have := nz_len S
  have h1 := h.s
  have h2 := h.t
  unfold impl_Cuckoo_all.f slices_DeleteFunc_string_string_at_impl_Cuckoo_all_1.f
  rw [clone_S h.s]
  simp only [Option.bind_some, fullS_nz]
  rw [if_pos h0, Option.bind_some, if_pos (by omega)]
theorem nz_size {S : List ByteArray} (h : ∀ x ∈ S, x.size ≤ 1000) : ∀ x ∈ nz S, x.size ≤ 1000 := fun x hx => h x (nz_mem.1 hx).1
theorem all_sorted (a : Int) {S T : List ByteArray} (h : Tab S T) (h0 : 0 < S.length) : Ev (fun k => (impl_Cuckoo_all.f a S T).bind fun t => (slices_Sort_string_string.f t).bind fun u => (impl_AreKeys.f k u).bind fun b => some b) (areKeysB (sortS (nz S ++ T))) := by
  have h1 := h.s
  have h2 := h.t
  have h3 := nz_len S
  have hl : (nz S ++ T).length ≤ 2000 := by rw [List.length_append]; omega
  rw [impl_all_f a h h0]
  simp only [Option.bind_some]
  unfold slices_Sort_string_string.f
  rw [if_pos (by omega)]
  simp only [Option.bind_some]
  refine ev_bind _ (impl_AreKeys_f _ (by rw [(sortS_perm _).length_eq]; omega) (fun s hs => ?_)) (Ev.now _)
  rw [(sortS_perm _).mem_iff] at hs
  rcases List.mem_append.1 hs with hs | hs
  · have := nz_size h.zs s hs; omega
  · have := h.zt s hs; omega
section
variable {a : Int} {S T : List ByteArray}
theorem impl_IsCuckoo_l0 (ha : 0 ≤ a ∧ a ≤ 9999) (h : Tab S T) (h0 : 0 < S.length) : ∀ (t pre : List ByteArray), S = pre ++ t →
    Ev (fun k => impl_IsCuckoo.l0 k S (S.length : Int) (pre.length : Int) a S T) (slotsB a (S.length : Int) t pre.length && areKeysB (sortS (nz S ++ T))) := by
  intro t
  induction t with
  | nil =>
    intro pre e
    refine ev_succ ?_
    simp only [impl_IsCuckoo.l0, slotsB, Bool.true_and]
    exact ev_neg (by rw [e]; exact not_lt_end) (all_sorted a h h0)
  | cons x t ih =>
    intro pre e
    have h1 := h.s
    have hm : ((pre.length : Nat) : Int) < (S.length : Int) := by rw [e]; exact lt_mid
    have hg : rdOf ByteArray.empty S (pre.length : Int) = x := by rw [e]; exact rdOf_mid
    have hx : x.size ≤ 1000 := h.zs x (by rw [e]; simp)
    have IH := ih (pre ++ [x]) (by rw [e]; simp)
    rw [len_one] at IH
    have e2 : slotsB a (S.length : Int) (x :: t) pre.length = ((decide (x = emp) || (isKeyB x && cel a (S.length : Int) x (pre.length : Int))) && slotsB a (S.length : Int) t (pre ++ [x]).length) := by simp [slotsB]
    refine ev_succ ?_
    simp only [impl_IsCuckoo.l0, hg]
    rw [winc (by omega), e2]
    refine ev_pos hm (ev_pos (by omega) (ev_pos hm ?_))
    by_cases c : x = emp
    · rw [decide_eq_true c, Bool.true_or, Bool.true_and]
      exact ev_pos (tl_emp.2 c) IH
    · rw [decide_eq_false c, Bool.false_or]
      refine ev_neg (fun q => c (tl_emp.1 q)) (ev_bind _ (impl_IsKey_f x (by omega)) ?_)
      cases hk : isKeyB x
      · exact ev_neg (by simp) (ev_some (by simp))
      · rw [Bool.true_and]
        refine ev_pos rfl (ev_bind _ (impl_cellsOf_f ha.1 ha.2 x hx) ?_)
        unfold cel
        by_cases d : placeV a 0 x (S.length : Int) = (pre.length : Int)
        · rw [decide_eq_true d, Bool.true_or, Bool.true_and]
          exact ev_pos d IH
        · rw [decide_eq_false d, Bool.false_or]
          refine ev_neg d ?_
          by_cases d2 : placeV a 1 x (S.length : Int) = (pre.length : Int)
          · rw [decide_eq_true d2, Bool.true_and]
            exact ev_pos d2 IH
          · rw [decide_eq_false d2]
            exact ev_neg d2 (ev_some (by simp))
theorem impl_IsCuckoo_f (h : Tab S T) : Ev (fun k => impl_IsCuckoo.f k a S T) (goodB a S T) := by
  have h1 := h.s
  have h2 := h.t
  have jt : Ev (fun k => impl_IsCuckoo.j0 k true a S T) false := ev_succ (by simp only [impl_IsCuckoo.j0]; exact ev_pos (by trivial) (Ev.now _))
  unfold impl_IsCuckoo.f impl_isSeed.f impl_cellsOk.f goodB
  simp only [impl_in, Option.bind_some]
  by_cases c : 0 ≤ a ∧ a ≤ 9999
  · rw [decide_eq_true c, Bool.true_and]
    refine ev_pos rfl ?_
    by_cases d : 1 ≤ (S.length : Int) ∧ (S.length : Int) ≤ 64
    · rw [decide_eq_true d, Bool.true_and]
      refine ev_pos rfl ?_
      by_cases e : (T.length : Int) ≤ 4
      · rw [decide_eq_true e, Bool.true_and]
        refine ev_neg (by omega) (ev_bind _ (impl_AreKeys_f T (by omega) (fun s hs => by have := h.zt s hs; omega)) ?_)
        cases hk : areKeysB T
        · exact jt
        · rw [Bool.true_and]
          refine ev_succ ?_
          simp only [impl_IsCuckoo.j0]
          exact ev_neg (by simp) (impl_IsCuckoo_l0 c h (by omega) S [] rfl)
      · rw [decide_eq_false e, Bool.false_and]
        exact ev_pos (by omega) jt
    · rw [decide_eq_false d, Bool.false_and]
      exact ev_neg (by simp) jt
  · rw [decide_eq_false c, Bool.false_and]
    exact ev_neg (by simp) jt
end
end Go.Proofs.YtephjmmkggcmeaaQ.KC
namespace Go.Proofs.YtephjmmkggcmeaaQ.KC
open Go Go.RowKit Go.Proofs.YtephjmmkggcmeaaW.PrintWords Go.Proofs.YtephjmmkggcmeaaW.PrintMore Go.Proofs.YtephjmmkggcmeaaGp Go.Proofs.Ytephjmmkggcmeaa.PG Go.Proofs.YtephjmmkggcmeaaQ

def SlotsOk (a n : Int) (S : List ByteArray) : Prop := ∀ i (h : i < S.length), S[i] ≠ emp → isKeyB S[i] = true ∧ cel a n S[i] (i : Int) = true
theorem slotsB_iff {a n : Int} : ∀ (t : List ByteArray) (i : Nat), slotsB a n t i = true ↔ ∀ j (h : j < t.length), t[j] ≠ emp → isKeyB t[j] = true ∧ cel a n t[j] ((i + j : Nat) : Int) = true
  | [], i => by simp [slotsB]
  | x :: t, i => by
    simp only [slotsB, Bool.and_eq_true, Bool.or_eq_true, decide_eq_true_eq]
    rw [slotsB_iff t (i + 1)]
    constructor
    · rintro ⟨h1, h2⟩ j hj hne
      cases j with
      | zero =>
        rcases h1 with c | c
        · exact absurd c hne
        · exact c
      | succ j =>
        have := h2 j (by simpa using hj) hne
        rwa [show i + 1 + j = i + (j + 1) by omega] at this
    · intro h
      refine ⟨?_, fun j hj hne => ?_⟩
      · by_cases c : x = emp
        · exact .inl c
        · exact .inr (h 0 (by simp) c)
      · have := h (j + 1) (by simpa using hj) hne
        rwa [show i + (j + 1) = i + 1 + j by omega] at this
structure Good (a : Int) (S T : List ByteArray) : Prop where
  sd : 0 ≤ a ∧ a ≤ 9999
  n : 1 ≤ S.length ∧ S.length ≤ 64
  t : T.length ≤ 4
  tk : areKeysB T = true
  sl : SlotsOk a (S.length : Int) S
  nd : (nz S ++ T).Nodup
  le : (nz S ++ T).length ≤ 40
section
variable {a : Int} {S T : List ByteArray}
theorem slots_keys {n : Int} (h : SlotsOk a n S) : ∀ s ∈ nz S, isKeyB s = true := by
  intro s hs
  obtain ⟨h1, h2⟩ := nz_mem.1 hs
  obtain ⟨i, hi, rfl⟩ := List.getElem_of_mem h1
  exact (h i hi h2).1
theorem all_keys {n : Int} (h : SlotsOk a n S) (hT : areKeysB T = true) : ∀ s ∈ nz S ++ T, isKeyB s = true := by
  intro s hs
  rcases List.mem_append.1 hs with hs | hs
  · exact slots_keys h s hs
  · exact areKeysB_all hT s hs
theorem good_iff : goodB a S T = true ↔ Good a S T := by
  unfold goodB
  simp only [Bool.and_eq_true, decide_eq_true_eq]
  constructor
  · rintro ⟨h1, h2, h3, h4, h5, h6⟩
    obtain ⟨_, h7, h8⟩ := keysFrom_none.1 h6
    refine ⟨h1, by omega, by omega, h4, fun i hi hne => ?_, h7, h8⟩
    have := (slotsB_iff S 0).1 h5 i hi hne
    rwa [Nat.zero_add] at this
  · intro h
    refine ⟨h.sd, by have := h.n; omega, by have := h.t; omega, h.tk, (slotsB_iff S 0).2 fun i hi hne => ?_, keysFrom_none.2 ⟨all_keys h.sl h.tk, h.nd, h.le⟩⟩
    rw [Nat.zero_add]
    exact h.sl i hi hne
theorem Good.keys (h : Good a S T) : ∀ s ∈ nz S ++ T, isKeyB s = true := all_keys h.sl h.tk
theorem Good.tab (h : Good a S T) : Tab S T := by
  refine ⟨by have := h.n; omega, by have := h.t; omega, fun x hx => ?_, fun x hx => ?_⟩
  · by_cases c : x = emp
    · rw [c]; simp [ByteArray.size]
    · have := (isKeyB_size (slots_keys h.sl x (nz_mem.2 ⟨hx, c⟩))).2; omega
  · have := (isKeyB_size (areKeysB_all h.tk x hx)).2; omega
theorem mem_all {key : ByteArray} (hk : key ≠ emp) : key ∈ S ++ T ↔ key ∈ nz S ++ T := by
  rw [List.mem_append, List.mem_append, nz_mem]
  constructor
  · rintro (c | c)
    · exact .inl ⟨c, hk⟩
    · exact .inr c
  · rintro (c | c)
    · exact .inl c.1
    · exact .inr c
theorem idxS_no {x s : ByteArray} (c : ¬ x = s) (t : List ByteArray) (i : Nat) : idxS (x :: t) s i = idxS t s (i + 1) := by simp only [idxS, if_neg c]
theorem idxS_yes (s : ByteArray) (t : List ByteArray) (i : Nat) : idxS (s :: t) s i = (i : Int) := by simp only [idxS, if_pos]
theorem idxS_add : ∀ (l : List ByteArray) (s : ByteArray) (i : Nat), idxS l s i = if 0 ≤ idxS l s 0 then (i : Int) + idxS l s 0 else -1
  | [], s, i => by simp [idxS]
  | x :: t, s, i => by
    have h1 := idxS_add t s (i + 1)
    have h2 := idxS_add t s (0 + 1)
    by_cases c : x = s
    · subst c
      rw [idxS_yes, idxS_yes, if_pos (by omega)]
      omega
    · rw [idxS_no c, idxS_no c, h1, h2]
      by_cases d : 0 ≤ idxS t s 0
      · rw [if_pos d, if_pos d, if_pos (by omega)]
        omega
      · rw [if_neg d, if_neg d, if_neg (by omega)]
theorem idxS_app (l m : List ByteArray) (s : ByteArray) (i : Nat) : idxS (l ++ m) s i = if 0 ≤ idxS l s i then idxS l s i else idxS m s (i + l.length) := by
  induction l generalizing i with
  | nil => simp [idxS]
  | cons x t ih =>
    rw [List.cons_append]
    by_cases c : x = s
    · subst c
      rw [idxS_yes, idxS_yes, if_pos (by omega)]
    · rw [idxS_no c, idxS_no c, ih (i + 1), List.length_cons, show i + 1 + t.length = i + (t.length + 1) by omega]
theorem idxS_get : ∀ (l : List ByteArray) (s : ByteArray), s ∈ l → ∃ j, ∃ h : j < l.length, idxS l s 0 = (j : Int) ∧ l[j] = s
  | x :: t, s, h => by
    by_cases c : x = s
    · exact ⟨0, by simp, by rw [c, idxS_yes], c⟩
    · rcases List.mem_cons.1 h with e | h
      · exact absurd e.symm c
      · obtain ⟨j, hj, h1, h2⟩ := idxS_get t s h
        refine ⟨j + 1, by simpa using hj, ?_, h2⟩
        rw [idxS_no c, idxS_add, h1, if_pos (by omega)]
        omega
theorem idxS_neg {l : List ByteArray} {s : ByteArray} (h : s ∉ l) : idxS l s 0 = -1 := by
  rw [idxS_add]
  rw [if_neg (fun c => h ((idxS_mem l s 0).1 c))]
theorem idxS_range (l : List ByteArray) (s : ByteArray) : -1 ≤ idxS l s 0 ∧ idxS l s 0 < (l.length : Int) + 0 ∨ idxS l s 0 = -1 := by
  by_cases h : s ∈ l
  · obtain ⟨j, hj, h1, _⟩ := idxS_get l s h
    exact .inl (by omega)
  · exact .inr (idxS_neg h)
theorem impl_find_f (a : Int) (h : Tab S T) (key : ByteArray) : Ev (fun k => impl_Cuckoo_find.f k a S T key) (idxS (S ++ T) key 0) := by
  have h1 := h.s
  have h2 := h.t
  unfold impl_Cuckoo_find.f
  refine ev_bind _ (slices_Index_string_string_f S key (by omega)) ?_
  rw [idxS_app]
  by_cases c : 0 ≤ idxS S key 0
  · rw [if_pos c]
    exact ev_pos c (Ev.now _)
  · rw [if_neg c, idxS_add T key (0 + S.length)]
    refine ev_neg c (ev_bind _ (slices_Index_string_string_f T key (by omega)) ?_)
    by_cases d : 0 ≤ idxS T key 0
    · have := idxS_range T key
      refine ev_pos d ?_
      rw [if_pos d, w64 (by omega) (by omega)]
      exact ev_some (by omega)
    · refine ev_neg d ?_
      rw [if_neg d]
      exact Ev.now _
def fndV (a : Int) (S T : List ByteArray) (key : ByteArray) : Int × Bool := if goodB a S T = true then (if isKeyB key = true then (if idxS (S ++ T) key 0 < 0 then (0, false) else (idxS (S ++ T) key 0, true)) else (0, false)) else (0, false)
theorem impl_CuckooFind_f (a : Int) (h : Tab S T) (key : ByteArray) (hk : key.size ≤ 1000) : Ev (fun k => impl_CuckooFind.f k a S T key) (fndV a S T key) := by
  unfold impl_CuckooFind.f fndV
  refine ev_bind _ (impl_IsCuckoo_f h) ?_
  split
  · refine ev_bind _ (impl_IsKey_f key (by omega)) ?_
    split
    · refine ev_bind _ (impl_find_f a h key) ?_
      split
      · exact Ev.now _
      · exact ev_bind _ (impl_find_f a h key) (Ev.now _)
    · exact Ev.now _
  · exact Ev.now _
theorem fndV_of {key : ByteArray} (h : Good a S T) (hk : isKeyB key = true) (hm : key ∈ S ++ T) : fndV a S T key = (idxS (S ++ T) key 0, true) := by
  unfold fndV
  have := (idxS_mem _ _ 0).2 hm
  rw [if_pos (good_iff.2 h), if_pos hk, if_neg (by omega)]
theorem impl_CuckooKeys_f (h : Tab S T) : Ev (fun k => impl_CuckooKeys.f k a S T) (if goodB a S T = true then (sortS (nz S ++ T), true) else ([], false)) := by
  unfold impl_CuckooKeys.f
  refine ev_bind _ (impl_IsCuckoo_f h) ?_
  by_cases c : goodB a S T = true
  · have g := good_iff.1 c
    have := g.le
    rw [impl_all_f a h (by have := g.n; omega)]
    refine ev_pos c ?_
    rw [if_pos c]
    unfold slices_Sort_string_string.f
    simp only [Option.bind_some]
    rw [if_pos (by omega)]
    exact Ev.now _
  · refine ev_neg c ?_
    rw [if_neg c]
    exact Ev.now _
theorem clone_f (a : Int) (h : Tab S T) : impl_cloneCuckoo.f a S T = some (a, S, T) := by
  unfold impl_cloneCuckoo.f
  rw [clone_S h.s, clone_S h.t]
  rfl
end
end Go.Proofs.YtephjmmkggcmeaaQ.KC
namespace Go.Proofs.YtephjmmkggcmeaaQ.KC
open Go Go.RowKit Go.Proofs.YtephjmmkggcmeaaW.PrintWords Go.Proofs.YtephjmmkggcmeaaW.PrintMore Go.Proofs.YtephjmmkggcmeaaGp Go.Proofs.Ytephjmmkggcmeaa.PG Go.Proofs.YtephjmmkggcmeaaQ

structure Sz (a : Int) (S : List ByteArray) : Prop where
  sd : 0 ≤ a ∧ a ≤ 9999
  n : 1 ≤ S.length ∧ S.length ≤ 64
abbrev plc (a c : Int) (x : ByteArray) (S : List ByteArray) : Int := placeV a c x (S.length : Int)
def settleV (a : Int) (S : List ByteArray) (x : ByteArray) : List ByteArray × Bool :=
  if rdOf ByteArray.empty S (plc a 0 x S) = emp then (S.set (plc a 0 x S).toNat x, true)
  else if rdOf ByteArray.empty S (plc a 1 x S) = emp then (S.set (plc a 1 x S).toNat x, true) else (S, false)
def Plc (a n : Int) (S : List ByteArray) : Prop := ∀ i (h : i < S.length), S[i] ≠ emp → cel a n S[i] (i : Int) = true
section
variable {a : Int} {S T : List ByteArray}
theorem plc_lt (h : Sz a S) (c : Int) (x : ByteArray) : 0 ≤ plc a c x S ∧ plc a c x S < (S.length : Int) := by
  have := h.n
  exact placeV_range a c x (by omega) (by omega)
theorem Good.sz (h : Good a S T) : Sz a S := ⟨h.sd, h.n⟩
theorem Good.plc (h : Good a S T) : Plc a (S.length : Int) S := fun i hi hne => (h.sl i hi hne).2
theorem slots_of {n : Int} (h : Plc a n S) (hk : ∀ s ∈ nz S, isKeyB s = true) : SlotsOk a n S := fun i hi hne => ⟨hk _ (nz_mem.2 ⟨List.getElem_mem hi, hne⟩), h i hi hne⟩
theorem Plc.set {n : Int} (h : Plc a n S) {x : ByteArray} {i : Nat} (hc : cel a n x (i : Int) = true) : Plc a n (S.set i x) := by
  intro j hj hne
  rw [List.length_set] at hj
  rw [List.getElem_set] at hne ⊢
  by_cases e : i = j
  · subst e; rw [if_pos rfl]; exact hc
  · rw [if_neg e] at hne ⊢; exact h j hj hne
theorem cel_0 (a : Int) (n : Int) (x : ByteArray) : cel a n x (placeV a 0 x n) = true := by simp [cel]
theorem cel_1 (a : Int) (n : Int) (x : ByteArray) : cel a n x (placeV a 1 x n) = true := by simp [cel]
theorem impl_settle_f (h : Sz a S) {x : ByteArray} (hx : x.size ≤ 1000) : Ev (fun k => impl_Cuckoo_settle.f k a S x) (settleV a S x) := by
  have h0 := plc_lt h 0 x
  have h1 := plc_lt h 1 x
  unfold impl_Cuckoo_settle.f settleV
  refine ev_bind _ (impl_cellsOf_f h.sd.1 h.sd.2 x hx) ?_
  by_cases c : rdOf ByteArray.empty S (plc a 0 x S) = emp
  · rw [if_pos c]
    exact ev_pos h0.1 (ev_pos h0.2 (ev_pos (tl_emp.2 c) (Ev.now _)))
  · rw [if_neg c]
    refine ev_pos h0.1 (ev_pos h0.2 (ev_neg (fun q => c (tl_emp.1 q)) (ev_pos h1.1 (ev_pos h1.2 ?_))))
    by_cases d : rdOf ByteArray.empty S (plc a 1 x S) = emp
    · rw [if_pos d]
      exact ev_pos (tl_emp.2 d) (Ev.now _)
    · rw [if_neg d]
      exact ev_neg (fun q => d (tl_emp.1 q)) (Ev.now _)
def emptyV (a : Int) (S : List ByteArray) (x : ByteArray) : Int :=
  if rdOf ByteArray.empty S (plc a 0 x S) = emp then plc a 0 x S else if rdOf ByteArray.empty S (plc a 1 x S) = emp then plc a 1 x S else -1
theorem spec_cuEmpty_f (T : List ByteArray) (h : Sz a S) {x : ByteArray} (hx : x.size ≤ 1000) : Ev (fun k => spec_cuEmpty.f k a S T x) (emptyV a S x) := by
  have h0 := plc_lt h 0 x
  have h1 := plc_lt h 1 x
  have r0 : rd [plc a 0 x S, plc a 1 x S] 0 = plc a 0 x S := by simp [rd]
  have r1 : rd [plc a 0 x S, plc a 1 x S] 1 = plc a 1 x S := by simp [rd]
  unfold spec_cuEmpty.f emptyV
  refine ev_bind _ (spec_cuCells_f h.sd.1 h.sd.2 x hx) (ev_succ ?_)
  simp only [spec_cuEmpty.l0]
  rw [show rd [placeV a 0 x (S.length : Int), placeV a 1 x (S.length : Int)] 0 = plc a 0 x S from r0, w64 (x := 0 + 1) (by omega) (by omega)]
  refine ev_pos (by simp) (ev_pos (by omega) (ev_pos (by simp) (ev_pos h0.1 (ev_pos h0.2 ?_))))
  by_cases c : rdOf ByteArray.empty S (plc a 0 x S) = emp
  · rw [if_pos c]
    exact ev_pos (tl_emp.2 c) (Ev.now _)
  · rw [if_neg c]
    refine ev_neg (fun q => c (tl_emp.1 q)) (ev_succ ?_)
    simp only [spec_cuEmpty.l0]
    rw [show rd [placeV a 0 x (S.length : Int), placeV a 1 x (S.length : Int)] (0 + 1) = plc a 1 x S from r1, w64 (x := 0 + 1 + 1) (by omega) (by omega)]
    refine ev_pos (by simp) (ev_pos (by omega) (ev_pos (by simp) (ev_pos h1.1 (ev_pos h1.2 ?_))))
    by_cases d : rdOf ByteArray.empty S (plc a 1 x S) = emp
    · rw [if_pos d]
      exact ev_pos (tl_emp.2 d) (Ev.now _)
    · rw [if_neg d]
      refine ev_neg (fun q => d (tl_emp.1 q)) (ev_succ ?_)
      simp only [spec_cuEmpty.l0]
      exact ev_neg (by simp) (Ev.now _)
theorem settle_cases (h : Sz a S) (x : ByteArray) : (settleV a S x = (S, false) ∧ emptyV a S x = -1 ∧ rdOf ByteArray.empty S (plc a 0 x S) ≠ emp) ∨ ∃ i : Nat, ∃ hi : i < S.length, S[i] = emp ∧ cel a (S.length : Int) x (i : Int) = true ∧ settleV a S x = (S.set i x, true) ∧ emptyV a S x = (i : Int) := by
  have h0 := plc_lt h 0 x
  have h1 := plc_lt h 1 x
  unfold settleV emptyV
  by_cases c : rdOf ByteArray.empty S (plc a 0 x S) = emp
  · refine .inr ⟨(plc a 0 x S).toNat, by omega, ?_, ?_, by rw [if_pos c], by rw [if_pos c]; omega⟩
    · rw [show plc a 0 x S = (((plc a 0 x S).toNat : Nat) : Int) by omega, rdOf_get (by omega)] at c
      exact c
    · rw [show (((plc a 0 x S).toNat : Nat) : Int) = plc a 0 x S by omega]
      exact cel_0 _ _ _
  · by_cases d : rdOf ByteArray.empty S (plc a 1 x S) = emp
    · refine .inr ⟨(plc a 1 x S).toNat, by omega, ?_, ?_, by rw [if_neg c, if_pos d], by rw [if_neg c, if_pos d]; omega⟩
      · rw [show plc a 1 x S = (((plc a 1 x S).toNat : Nat) : Int) by omega, rdOf_get (by omega)] at d
        exact d
      · rw [show (((plc a 1 x S).toNat : Nat) : Int) = plc a 1 x S by omega]
        exact cel_1 _ _ _
    · exact .inl ⟨by rw [if_neg c, if_neg d], by rw [if_neg c, if_neg d], c⟩
theorem Sz.of {S' : List ByteArray} (h : Sz a S) (e : S'.length = S.length) : Sz a S' := ⟨h.sd, by rw [e]; exact h.n⟩
end
end Go.Proofs.YtephjmmkggcmeaaQ.KC
namespace Go.Proofs.YtephjmmkggcmeaaQ
open Go Go.RowKit Go.Proofs.YtephjmmkggcmeaaW.PrintWords Go.Proofs.YtephjmmkggcmeaaGp Go.Proofs.Ytephjmmkggcmeaa.PG

def rankS (l : List ByteArray) (s : ByteArray) : Nat := (l.filter fun x => lessS x s).length
theorem cmpLess (a b : ByteArray) : cmp_Less_string.f a b = some (lessS a b) := by
  simp [cmp_Less_string.f, cmp_isNaN_string.f, lessS]
def incS (l : List ByteArray) : Prop := ∀ i j (h : i < j) (hj : j < l.length), lessS (l[i]'(by omega)) (l[j]'hj) = true
theorem rankS_split : ∀ (l : List ByteArray) (s : ByteArray) (i : Nat) (hi : i ≤ l.length), (∀ a (h : a < i), lessS (l[a]'(by omega)) s = true) → (∀ a (h : a < l.length), i ≤ a → lessS l[a] s = false) → rankS l s = i
  | [], s, i, hi, _, _ => by simp at hi; simp [rankS, hi]
  | x :: t, s, 0, _, _, h2 => by
    have h0 := h2 0 (by simp) (Nat.le_refl _)
    simp only [List.getElem_cons_zero] at h0
    have := rankS_split t s 0 (Nat.zero_le _) (fun a h => absurd h (by omega)) (fun a h _ => h2 (a + 1) (by simpa using h) (Nat.zero_le _))
    simpa [rankS, h0] using this
  | x :: t, s, i + 1, hi, h1, h2 => by
    have h0 := h1 0 (by omega)
    simp only [List.getElem_cons_zero] at h0
    have := rankS_split t s i (by simpa using hi) (fun a h => h1 (a + 1) (by omega)) (fun a h hia => h2 (a + 1) (by simpa using h) (by omega))
    simp only [rankS] at this ⊢
    simp [h0, this]
theorem mid_half {i j : Nat} (h : i < j) (hj : (j : Int) ≤ 1048576) : wrap64 ((IntKind.u64.wrap (wrap64 ((i : Int) + (j : Int)))) / 2) = (((i + j) / 2 : Nat) : Int) := by
  rw [w64 (x := (i : Int) + (j : Int)) (by omega) (by omega)]
  have e : IntKind.u64.wrap ((i : Int) + (j : Int)) = (i : Int) + (j : Int) := by
    show ((i : Int) + (j : Int)) % 18446744073709551616 = _
    omega
  rw [e, w64 (by omega) (by omega)]
  omega
theorem search_l0 (x0 : List ByteArray) (s : ByteArray) (hl : (x0.length : Int) ≤ 1048576) (hs : incS x0) : ∀ (d i j : Nat), j - i ≤ d → (hij : i ≤ j) → (hj : j ≤ x0.length) → (∀ a (h : a < i), lessS (x0[a]'(by omega)) s = true) → (∀ a (h : a < x0.length), j ≤ a → lessS x0[a] s = false) →
    ∃ b, Ev (fun k => slices_BinarySearch_string_string.l0 k x0 s (x0.length : Int) (i : Int) (j : Int)) ((rankS x0 s : Int), b) := by
  intro d
  induction d with
  | zero =>
    intro i j hd hij hj h1 h2
    obtain rfl : i = j := by omega
    have hr := rankS_split x0 s i hj h1 h2
    rw [hr]
    by_cases c : i < x0.length
    · by_cases e : x0[i] = s
      · refine ⟨true, ev_succ ?_⟩
        simp only [slices_BinarySearch_string_string.l0, rdOf_get c, tl_inj]
        exact ev_neg (by omega) (ev_pos (by omega) (ev_pos (by omega) (ev_pos (by omega) (ev_pos e (Ev.now _)))))
      · refine ⟨false, ev_succ ?_⟩
        simp only [slices_BinarySearch_string_string.l0, rdOf_get c, tl_inj, slices_isNaN_string.f, Option.bind_some, bne_self_eq_false, Bool.false_eq_true, if_false]
        exact ev_neg (by omega) (ev_pos (by omega) (ev_pos (by omega) (ev_pos (by omega) (ev_neg e (Ev.now _)))))
    · refine ⟨false, ev_succ ?_⟩
      simp only [slices_BinarySearch_string_string.l0]
      exact ev_neg (by omega) (ev_neg (by omega) (Ev.now _))
  | succ d ih =>
    intro i j hd hij hj h1 h2
    by_cases c : i < j
    · have hm := mid_half c (by omega)
      have hlt : (i + j) / 2 < x0.length := by omega
      by_cases cl : lessS x0[(i + j) / 2] s = true
      · obtain ⟨b, hb⟩ := ih ((i + j) / 2 + 1) j (by omega) (by omega) hj (fun a h => by
          by_cases e : a = (i + j) / 2
          · subst e; exact cl
          · exact lessS_trans (hs a ((i + j) / 2) (by omega) hlt) cl) h2
        refine ⟨b, ev_succ ?_⟩
        simp only [slices_BinarySearch_string_string.l0, hm, rdOf_get hlt, cmpLess, Option.bind_some]
        refine ev_pos (by omega) (ev_pos (by omega) (ev_pos (by omega) (ev_pos cl ?_)))
        rw [winc (by omega)]
        exact hb
      · have cl' : lessS x0[(i + j) / 2] s = false := by simpa using cl
        obtain ⟨b, hb⟩ := ih i ((i + j) / 2) (by omega) (by omega) (by omega) h1 (fun a h hia => by
          by_cases e : a = (i + j) / 2
          · subst e; exact cl'
          · cases ha : lessS x0[a] s with
            | false => rfl
            | true =>
              have := lessS_trans (hs ((i + j) / 2) a (by omega) h) ha
              rw [cl'] at this
              cases this)
        refine ⟨b, ev_succ ?_⟩
        simp only [slices_BinarySearch_string_string.l0, hm, rdOf_get hlt, cmpLess, Option.bind_some]
        exact ev_pos (by omega) (ev_pos (by omega) (ev_pos (by omega) (ev_neg cl hb)))
    · exact ih i j (by omega) hij hj h1 h2
theorem search_f (l : List ByteArray) (s : ByteArray) (hl : (l.length : Int) ≤ 1048576) (hs : incS l) : ∃ b, Ev (fun k => slices_BinarySearch_string_string.f k l s) ((rankS l s : Int), b) := by
  unfold slices_BinarySearch_string_string.f
  exact search_l0 l s hl hs l.length 0 l.length (by omega) (Nat.zero_le _) (Nat.le_refl _) (fun a h => absurd h (by omega)) (fun a h h' => absurd h (by omega))
end Go.Proofs.YtephjmmkggcmeaaQ
namespace Go.Proofs.YtephjmmkggcmeaaQ.KC
open Go Go.RowKit Go.Proofs.YtephjmmkggcmeaaW.PrintWords Go.Proofs.YtephjmmkggcmeaaW.PrintMore Go.Proofs.YtephjmmkggcmeaaGp Go.Proofs.Ytephjmmkggcmeaa.PG Go.Proofs.YtephjmmkggcmeaaQ

def oth (a : Int) (y : ByteArray) (n c : Int) : Int := placeV a 0 y n + placeV a 1 y n - c
def pushV (a : Int) : Nat → ByteArray → Int → Int → List ByteArray → List ByteArray × Option ByteArray × Int
  | 0, x, c, th, S => if rdOf ByteArray.empty S c = emp then (S.set c.toNat x, none, th) else (S, some x, th)
  | m + 1, x, c, th, S => if rdOf ByteArray.empty S c = emp then (S.set c.toNat x, none, th) else pushV a m (rdOf ByteArray.empty S c) (oth a (rdOf ByteArray.empty S c) (S.length : Int) c) (th + 1) (S.set c.toNat x)
def impPush (a : Int) (T : List ByteArray) : List ByteArray × Option ByteArray × Int → Int × List ByteArray × List ByteArray × Int × Bool
  | (S', none, th) => (a, S', T, th, true)
  | (S', some y, th) => (a, S', insK y T, th, decide (((insK y T).length : Int) ≤ 4))
def spcPush (a : Int) (T : List ByteArray) : List ByteArray × Option ByteArray × Int → Int × List ByteArray × List ByteArray × Int × Bool
  | (S', none, th) => (a, S', T, th, true)
  | (S', some y, th) => if (T.length : Int) = 4 then (0, [], [], 0, false) else (a, S', insK y T, th, true)
theorem insS_rank (y : ByteArray) : ∀ {T : List ByteArray}, SK T → y ∉ T → insS T (rankS T y) y = insK y T
  | [], _, _ => by simp [insS, rankS, insK]
  | x :: t, h, hy => by
    obtain ⟨h1, h2⟩ := List.pairwise_cons.1 h
    have hne : x ≠ y := fun e => hy (by simp [e])
    have ih := insS_rank y h2 (fun m => hy (by simp [m]))
    by_cases c : lessS x y = true
    · have e : rankS (x :: t) y = rankS t y + 1 := by simp [rankS, c]
      rw [e]
      unfold insK
      rw [if_pos c, ← ih]
      rfl
    · have e : rankS (x :: t) y = 0 := by
        unfold rankS
        rw [List.length_eq_zero_iff, List.filter_eq_nil_iff]
        intro z hz q
        rcases List.mem_cons.1 hz with rfl | hz
        · exact c q
        · exact c (lessS_trans (h1 z hz) q)
      rw [e]
      unfold insK
      rw [if_neg c, if_neg hne]
      rfl
section
variable {a : Int} {S T : List ByteArray}
theorem rd_cell {c : Int} (h0 : 0 ≤ c) (h1 : c < (S.length : Int)) : rdOf ByteArray.empty S c = S[c.toNat]'(by omega) := by
  have h : c.toNat < S.length := by omega
  rw [← rdOf_get h, show ((c.toNat : Nat) : Int) = c by omega]
theorem oth_ok (h : Sz a S) {y : ByteArray} {c : Int} (hc : cel a (S.length : Int) y c = true) : cel a (S.length : Int) y (oth a y (S.length : Int) c) = true ∧ 0 ≤ oth a y (S.length : Int) c ∧ oth a y (S.length : Int) c < (S.length : Int) := by
  have h0 : 0 ≤ placeV a 0 y (S.length : Int) ∧ placeV a 0 y (S.length : Int) < (S.length : Int) := plc_lt h 0 y
  have h1 : 0 ≤ placeV a 1 y (S.length : Int) ∧ placeV a 1 y (S.length : Int) < (S.length : Int) := plc_lt h 1 y
  unfold cel at hc
  rw [Bool.or_eq_true, decide_eq_true_eq, decide_eq_true_eq] at hc
  unfold oth
  rcases hc with hc | hc
  · rw [show placeV a 0 y (S.length : Int) + placeV a 1 y (S.length : Int) - c = placeV a 1 y (S.length : Int) by omega]
    exact ⟨cel_1 _ _ _, h1⟩
  · rw [show placeV a 0 y (S.length : Int) + placeV a 1 y (S.length : Int) - c = placeV a 0 y (S.length : Int) by omega]
    exact ⟨cel_0 _ _ _, h0⟩
structure At (a : Int) (S : List ByteArray) (x : ByteArray) (c : Int) : Prop where
  sz : Sz a S
  pl : Plc a (S.length : Int) S
  ce : cel a (S.length : Int) x c = true
  c0 : 0 ≤ c
  c1 : c < (S.length : Int)
theorem At.next {x : ByteArray} {c : Int} (h : At a S x c) (hne : rdOf ByteArray.empty S c ≠ emp) :
    At a (S.set c.toNat x) (rdOf ByteArray.empty S c) (oth a (rdOf ByteArray.empty S c) (S.length : Int) c) := by
  have hl : (S.set c.toNat x).length = S.length := by simp
  have h0 := h.c0
  have h1 := h.c1
  have e := rd_cell h0 h1
  have hce : cel a (S.length : Int) (rdOf ByteArray.empty S c) c = true := by
    rw [e] at hne ⊢
    have := h.pl c.toNat (by omega) hne
    rwa [show ((c.toNat : Nat) : Int) = c by omega] at this
  obtain ⟨o1, o2, o3⟩ := oth_ok h.sz hce
  refine ⟨h.sz.of hl, ?_, ?_, o2, ?_⟩
  · rw [hl]
    refine h.pl.set ?_
    rw [show ((c.toNat : Nat) : Int) = c by omega]
    exact h.ce
  · rw [hl]; exact o1
  · rw [hl]; exact o3
theorem push_ok : ∀ (m : Nat) (x : ByteArray) (c th : Int) (S : List ByteArray), At a S x c →
    (pushV a m x c th S).1.length = S.length ∧ Plc a (S.length : Int) (pushV a m x c th S).1 ∧ (th ≤ (pushV a m x c th S).2.2 ∧ (pushV a m x c th S).2.2 ≤ th + (m : Int)) ∧
    (∀ s, s ∈ (pushV a m x c th S).1 ∨ (pushV a m x c th S).2.1 = some s → s = x ∨ s ∈ S) ∧
    (x ≠ emp → ((pushV a m x c th S).2.1.toList ++ nz (pushV a m x c th S).1).Perm (x :: nz S) ∧ (pushV a m x c th S).2.1 ≠ some emp) := by
  intro m
  induction m with
  | zero =>
    intro x c th S h
    have h0 := h.c0
    have h1 := h.c1
    have e := rd_cell h0 h1
    unfold pushV
    by_cases d : rdOf ByteArray.empty S c = emp
    · rw [if_pos d]
      refine ⟨by simp, h.pl.set (by rw [show ((c.toNat : Nat) : Int) = c by omega]; exact h.ce), ⟨by simp, by simp⟩, fun s hs => ?_, fun hx => ⟨?_, by simp⟩⟩
      · rcases hs with hs | hs
        · rcases List.mem_or_eq_of_mem_set hs with q | q
          · exact .inr q
          · exact .inl q
        · cases hs
      · exact set_in (by omega) hx (by rw [← e]; exact d)
    · rw [if_neg d]
      refine ⟨rfl, h.pl, ⟨by simp, by simp⟩, fun s hs => ?_, fun hx => ⟨List.Perm.refl _, by simpa using hx⟩⟩
      rcases hs with hs | hs
      · exact .inr hs
      · exact .inl (Option.some.inj hs).symm
  | succ m ih =>
    intro x c th S h
    have h0 := h.c0
    have h1 := h.c1
    have e := rd_cell h0 h1
    unfold pushV
    by_cases d : rdOf ByteArray.empty S c = emp
    · rw [if_pos d]
      refine ⟨by simp, h.pl.set (by rw [show ((c.toNat : Nat) : Int) = c by omega]; exact h.ce), ⟨by simp, by simp; omega⟩, fun s hs => ?_, fun hx => ⟨?_, by simp⟩⟩
      · rcases hs with hs | hs
        · rcases List.mem_or_eq_of_mem_set hs with q | q
          · exact .inr q
          · exact .inl q
        · cases hs
      · exact set_in (by omega) hx (by rw [← e]; exact d)
    · rw [if_neg d]
      obtain ⟨i1, i2, i3, i4, i5⟩ := ih (rdOf ByteArray.empty S c) (oth a (rdOf ByteArray.empty S c) (S.length : Int) c) (th + 1) (S.set c.toNat x) (h.next d)
      have hl : (S.set c.toNat x).length = S.length := by simp
      rw [hl] at i1 i2
      refine ⟨i1, i2, ⟨by omega, by omega⟩, fun s hs => ?_, fun hx => ?_⟩
      · rcases i4 s hs with q | q
        · exact .inr (by rw [q, e]; exact List.getElem_mem _)
        · rcases List.mem_or_eq_of_mem_set q with q | q
          · exact .inr q
          · exact .inl q
      · obtain ⟨j1, j2⟩ := i5 d
        refine ⟨j1.trans ?_, j2⟩
        rw [e] at d ⊢
        exact set_swap (by omega) hx d
theorem impl_push_l0 (hT : SK T) (hl : T.length ≤ 1000) {mv : Int} (hv : mv ≤ 1000) : ∀ (m : Nat) (x : ByteArray) (c th : Int) (S : List ByteArray), At a S x c → (∀ s ∈ S, s.size ≤ 1000) → x.size ≤ 1000 → x ≠ emp → (x :: (nz S ++ T)).Nodup → th + (m : Int) = mv → 0 ≤ th →
    Ev (fun k => impl_Cuckoo_push.l0 k x mv c th a S T) (impPush a T (pushV a m x c th S)) := by
  intro m
  induction m with
  | zero =>
    intro x c th S h hz hxz hx hN ht h0
    refine ev_succ ?_
    simp only [impl_Cuckoo_push.l0, pushV]
    refine ev_pos h.c0 (ev_pos h.c1 ?_)
    by_cases d : rdOf ByteArray.empty S c = emp
    · rw [if_pos d]
      exact ev_pos (tl_emp.2 d) (Ev.now _)
    · rw [if_neg d]
      have hy : x ∉ T := fun q => (List.nodup_cons.1 hN).1 (List.mem_append_right _ q)
      obtain ⟨b, hb⟩ := search_f T x (by omega) (fun i j hij hj => List.pairwise_iff_getElem.1 hT i j (by omega) hj hij)
      have hr : rankS T x ≤ T.length := List.length_filter_le _ _
      refine ev_neg (fun q => d (tl_emp.1 q)) (ev_pos (by omega) (ev_bind _ hb (ev_pos ⟨by omega, by show ((rankS T x : Nat) : Int) ≤ _; omega, by omega⟩ ?_)))
      rw [Int.toNat_natCast, insS_rank x hT hy]
      exact Ev.now _
  | succ m ih =>
    intro x c th S h hz hxz hx hN ht h0
    have c0 := h.c0
    have c1 := h.c1
    have hn := h.sz.n
    have e := rd_cell c0 c1
    refine ev_succ ?_
    simp only [impl_Cuckoo_push.l0, pushV]
    refine ev_pos h.c0 (ev_pos h.c1 ?_)
    by_cases d : rdOf ByteArray.empty S c = emp
    · rw [if_pos d]
      exact ev_pos (tl_emp.2 d) (Ev.now _)
    · rw [if_neg d]
      have hyz : (rdOf ByteArray.empty S c).size ≤ 1000 := by rw [e]; exact hz _ (List.getElem_mem _)
      refine ev_neg (fun q => d (tl_emp.1 q)) (ev_neg (by omega) (ev_bind _ (impl_cellsOf_f h.sz.sd.1 h.sz.sd.2 _ hyz) ?_))
      have g0 : 0 ≤ placeV a 0 (rdOf ByteArray.empty S c) (S.length : Int) ∧ placeV a 0 (rdOf ByteArray.empty S c) (S.length : Int) < (S.length : Int) := plc_lt h.sz 0 _
      have g1 : 0 ≤ placeV a 1 (rdOf ByteArray.empty S c) (S.length : Int) ∧ placeV a 1 (rdOf ByteArray.empty S c) (S.length : Int) < (S.length : Int) := plc_lt h.sz 1 _
      rw [w64 (x := placeV a 0 (rdOf ByteArray.empty S c) (S.length : Int) + placeV a 1 (rdOf ByteArray.empty S c) (S.length : Int)) (by omega) (by omega), w64 (x := placeV a 0 (rdOf ByteArray.empty S c) (S.length : Int) + placeV a 1 (rdOf ByteArray.empty S c) (S.length : Int) - c) (by omega) (by omega), w64 (x := th + 1) (by omega) (by omega)]
      refine ih _ _ _ _ (h.next d) (fun s hs => ?_) hyz d ?_ (by omega) (by omega)
      · rcases List.mem_or_eq_of_mem_set hs with q | q
        · exact hz s q
        · rw [q]; exact hxz
      · have hp : (rdOf ByteArray.empty S c :: nz (S.set c.toNat x)).Perm (x :: nz S) := by
          rw [e] at d ⊢
          exact set_swap (by omega) hx d
        exact (hp.append_right T).nodup_iff.2 hN
end
end Go.Proofs.YtephjmmkggcmeaaQ.KC
namespace Go.Proofs.YtephjmmkggcmeaaQ.KC
open Go Go.RowKit Go.Proofs.YtephjmmkggcmeaaW.PrintWords Go.Proofs.YtephjmmkggcmeaaW.PrintMore Go.Proofs.YtephjmmkggcmeaaGp Go.Proofs.Ytephjmmkggcmeaa.PG Go.Proofs.YtephjmmkggcmeaaQ

def insV (a : Int) (S T : List ByteArray) (x : ByteArray) (m : Nat) : Int × List ByteArray × List ByteArray × Int × Bool :=
  if (settleV a S x).2 = true then (a, (settleV a S x).1, T, 0, true) else spcPush a T (pushV a m x (plc a 0 x S) 0 S)
section
variable {a : Int} {S T : List ByteArray}
theorem spec_push_l0 (hl : T.length ≤ 1000) {mv : Int} (hv : mv ≤ 1000) : ∀ (m : Nat) (x : ByteArray) (c th : Int) (S : List ByteArray), At a S x c → (∀ s ∈ S, s.size ≤ 1000) → x.size ≤ 1000 → th + (m : Int) = mv → 0 ≤ th →
    Ev (fun k => spec_cuInsert.l0 k x mv c th a S T) (spcPush a T (pushV a m x c th S)) := by
  intro m
  induction m with
  | zero =>
    intro x c th S h hz hxz ht h0
    refine ev_succ ?_
    simp only [spec_cuInsert.l0, pushV]
    refine ev_pos h.c0 (ev_pos h.c1 ?_)
    by_cases d : rdOf ByteArray.empty S c = emp
    · rw [if_pos d]
      exact ev_pos (tl_emp.2 d) (Ev.now _)
    · rw [if_neg d]
      refine ev_neg (fun q => d (tl_emp.1 q)) (ev_pos (by omega) ?_)
      unfold spcPush
      by_cases e : (T.length : Int) = 4
      · refine ev_pos e ?_
        simp only [if_pos e]
        exact Ev.now _
      · refine ev_neg e ?_
        simp only [if_neg e]
        exact ev_bind _ (putS_f T x (by omega)) (Ev.now _)
  | succ m ih =>
    intro x c th S h hz hxz ht h0
    have c0 := h.c0
    have c1 := h.c1
    have hn := h.sz.n
    have e := rd_cell c0 c1
    refine ev_succ ?_
    simp only [spec_cuInsert.l0, pushV]
    refine ev_pos h.c0 (ev_pos h.c1 ?_)
    by_cases d : rdOf ByteArray.empty S c = emp
    · rw [if_pos d]
      exact ev_pos (tl_emp.2 d) (Ev.now _)
    · rw [if_neg d]
      have hyz : (rdOf ByteArray.empty S c).size ≤ 1000 := by rw [e]; exact hz _ (List.getElem_mem _)
      have hsl : (S.set c.toNat x).length = S.length := by simp
      have g0 : 0 ≤ placeV a 0 (rdOf ByteArray.empty S c) (S.length : Int) ∧ placeV a 0 (rdOf ByteArray.empty S c) (S.length : Int) < (S.length : Int) := plc_lt h.sz 0 _
      have g1 : 0 ≤ placeV a 1 (rdOf ByteArray.empty S c) (S.length : Int) ∧ placeV a 1 (rdOf ByteArray.empty S c) (S.length : Int) < (S.length : Int) := plc_lt h.sz 1 _
      have ho : Ev (fun k => spec_cuOther.f k a (S.set c.toNat x) T (rdOf ByteArray.empty S c) c) (oth a (rdOf ByteArray.empty S c) (S.length : Int) c) := by
        unfold spec_cuOther.f
        rw [hsl]
        refine ev_bind _ (spec_cuCells_f h.sz.sd.1 h.sz.sd.2 _ hyz) (ev_pos (by simp) (ev_pos (by simp) (ev_some ?_)))
        have r0 : rd [placeV a 0 (rdOf ByteArray.empty S c) (S.length : Int), placeV a 1 (rdOf ByteArray.empty S c) (S.length : Int)] 0 = placeV a 0 (rdOf ByteArray.empty S c) (S.length : Int) := by simp [rd]
        have r1 : rd [placeV a 0 (rdOf ByteArray.empty S c) (S.length : Int), placeV a 1 (rdOf ByteArray.empty S c) (S.length : Int)] 1 = placeV a 1 (rdOf ByteArray.empty S c) (S.length : Int) := by simp [rd]
        rw [r0, r1, w64 (x := placeV a 0 (rdOf ByteArray.empty S c) (S.length : Int) + placeV a 1 (rdOf ByteArray.empty S c) (S.length : Int)) (by omega) (by omega), w64 (x := placeV a 0 (rdOf ByteArray.empty S c) (S.length : Int) + placeV a 1 (rdOf ByteArray.empty S c) (S.length : Int) - c) (by omega) (by omega)]
        rfl
      refine ev_neg (fun q => d (tl_emp.1 q)) (ev_neg (by omega) ?_)
      simp only [Option.bind_some]
      refine ev_bind _ ho ?_
      rw [w64 (x := th + 1) (by omega) (by omega)]
      refine ih _ _ _ _ (h.next d) (fun s hs => ?_) hyz (by omega) (by omega)
      rcases List.mem_or_eq_of_mem_set hs with q | q
      · exact hz s q
      · rw [q]; exact hxz
theorem start_at (h : Sz a S) (hp : Plc a (S.length : Int) S) (x : ByteArray) : At a S x (plc a 0 x S) := ⟨h, hp, cel_0 _ _ _, (plc_lt h 0 x).1, (plc_lt h 0 x).2⟩
theorem spec_cuInsert_f (h : Sz a S) (hp : Plc a (S.length : Int) S) (ht : Tab S T) {x : ByteArray} (hx : x.size ≤ 1000) {m : Nat} (hm : m ≤ 1000) : Ev (fun k => spec_cuInsert.f k a S T x (m : Int)) (insV a S T x m) := by
  unfold spec_cuInsert.f insV
  refine ev_bind _ (spec_cuEmpty_f T h hx) ?_
  rcases settle_cases h x with ⟨s1, s2, s3⟩ | ⟨i, hi, s0, s1, s2, s3⟩
  · rw [s1, s2, if_neg (by simp)]
    refine ev_neg (by omega) (ev_bind _ (spec_cuCells_f h.sd.1 h.sd.2 x hx) (ev_pos (by simp) ?_))
    have r0 : rd [placeV a 0 x (S.length : Int), placeV a 1 x (S.length : Int)] 0 = plc a 0 x S := by simp [rd, plc]
    rw [r0]
    exact spec_push_l0 ht.t (by omega) m x _ 0 S (start_at h hp x) ht.zs hx (by omega) (by omega)
  · rw [s2, s3, if_pos rfl]
    refine ev_pos (by omega) (ev_pos (by omega) (ev_pos (by omega) ?_))
    rw [Int.toNat_natCast]
    exact Ev.now _
theorem ins_ok (h : Sz a S) (hp : Plc a (S.length : Int) S) (hT : T.length ≤ 4) {x : ByteArray} {m : Nat} (hy : (insV a S T x m).2.2.2.2 = true) :
    (insV a S T x m).1 = a ∧ (insV a S T x m).2.1.length = S.length ∧ Plc a (S.length : Int) (insV a S T x m).2.1 ∧ (insV a S T x m).2.2.1.length ≤ 4 ∧
    (0 ≤ (insV a S T x m).2.2.2.1 ∧ (insV a S T x m).2.2.2.1 ≤ (m : Int)) ∧ (∀ s, s ∈ (insV a S T x m).2.1 ∨ s ∈ (insV a S T x m).2.2.1 → s = x ∨ s ∈ S ∨ s ∈ T) ∧
    (x ≠ emp → SK T → (x :: (nz S ++ T)).Nodup → SK (insV a S T x m).2.2.1 ∧ (nz (insV a S T x m).2.1 ++ (insV a S T x m).2.2.1).Perm (x :: (nz S ++ T))) := by
  unfold insV at hy ⊢
  rcases settle_cases h x with ⟨s1, s2, s3⟩ | ⟨i, hi, s0, s1, s2, s3⟩
  · rw [s1, if_neg (by simp)] at hy ⊢
    obtain ⟨p1, p2, p3, p4, p5⟩ := push_ok m x (plc a 0 x S) 0 S (start_at h hp x)
    generalize pushV a m x (plc a 0 x S) 0 S = r at hy p1 p2 p3 p4 p5 ⊢
    obtain ⟨S', o, th⟩ := r
    cases o with
    | none =>
      refine ⟨rfl, p1, p2, hT, ⟨p3.1, by have := p3.2; simp only at this; show th ≤ _; omega⟩, fun s hs => ?_, fun hx hs hn => ⟨hs, ?_⟩⟩
      · rcases hs with q | q
        · rcases p4 s (.inl q) with e | e
          · exact .inl e
          · exact .inr (.inl e)
        · exact .inr (.inr q)
      · exact ((p5 hx).1.append_right T)
    | some y =>
      unfold spcPush at hy ⊢
      by_cases c : (T.length : Int) = 4
      · simp only [if_pos c] at hy; cases hy
      · simp only [if_neg c] at hy ⊢
        have hl := insK_len y T
        refine ⟨trivial, p1, p2, by omega, ⟨p3.1, by have := p3.2; simp only at this; omega⟩, fun s hs => ?_, fun hx hs hn => ⟨insK_sorted hs, ?_⟩⟩
        · rcases hs with q | q
          · rcases p4 s (.inl q) with e | e
            · exact .inl e
            · exact .inr (.inl e)
          · rcases insK_mem.1 q with e | e
            · subst e
              rcases p4 s (.inr rfl) with e | e
              · exact .inl e
              · exact .inr (.inl e)
            · exact .inr (.inr e)
        · have hq : (y :: nz S').Perm (x :: nz S) := (p5 hx).1
          have hN : (y :: (nz S' ++ T)).Nodup := (hq.append_right T).nodup_iff.2 hn
          have hyT : y ∉ T := fun q => (List.nodup_cons.1 hN).1 (List.mem_append_right _ q)
          exact ((insK_perm y hs hyT).append_left (nz S')).trans (List.perm_middle.trans (hq.append_right T))
  · rw [s2, if_pos rfl]
    refine ⟨rfl, by simp, hp.set s1, hT, ⟨Int.le_refl _, by simp⟩, fun s hs => ?_, fun hx hs hn => ⟨hs, ?_⟩⟩
    · rcases hs with q | q
      · rcases List.mem_or_eq_of_mem_set q with e | e
        · exact .inr (.inl e)
        · exact .inl e
      · exact .inr (.inr q)
    · exact (set_in hi hx s0).append_right T
def insF (a : Int) (S T : List ByteArray) (x : ByteArray) (mv : Int) : Int × List ByteArray × List ByteArray × Int × Bool :=
  if goodB a S T = true then (if isKeyB x = true then (if 0 ≤ mv ∧ mv ≤ 40 then (if idxS (S ++ T) x 0 ≥ 0 then (0, [], [], 0, false) else (if ((nz S ++ T).length : Int) = 40 then (0, [], [], 0, false) else insV a S T x mv.toNat)) else (0, [], [], 0, false)) else (0, [], [], 0, false)) else (0, [], [], 0, false)
theorem fresh_nodup (g : Good a S T) {x : ByteArray} (hk : isKeyB x = true) (hm : ¬ idxS (S ++ T) x 0 ≥ 0) : (x :: (nz S ++ T)).Nodup := by
  refine List.nodup_cons.2 ⟨fun q => hm ((idxS_mem _ _ 0).2 ((mem_all (key_ne hk)).2 q)), g.nd⟩
theorem impl_ins_go (g : Good a S T) {x : ByteArray} (hk : isKeyB x = true) {m : Nat} (hm : m ≤ 40) (hf : ¬ idxS (S ++ T) x 0 ≥ 0) : Ev (fun k => impl_CuckooInsert.j0 k x (m : Int) false a S T) (insV a S T x m) := by
  have hxs := (isKeyB_size hk).2
  have hN := fresh_nodup g hk hf
  have ht := g.tab
  obtain ⟨_, hsk, _⟩ := areKeys_iff.1 g.tk
  refine ev_succ ?_
  simp only [impl_CuckooInsert.j0]
  rw [clone_f a ht]
  simp only [Option.bind_some]
  refine ev_neg (by simp) (ev_bind _ (impl_settle_f g.sz (by omega)) ?_)
  unfold insV
  by_cases c : (settleV a S x).2 = true
  · refine ev_pos c ?_
    rw [if_pos c]
    exact Ev.now _
  · refine ev_neg c ?_
    rw [if_neg c]
    rcases settle_cases g.sz x with ⟨s1, _, _⟩ | ⟨i, hi, _, _, s2, _⟩
    · rw [s1]
      have hpu : Ev (fun k => impl_Cuckoo_push.f k a S T x (m : Int)) (impPush a T (pushV a m x (plc a 0 x S) 0 S)) := by
        unfold impl_Cuckoo_push.f
        exact ev_bind _ (impl_cellsOf_f g.sd.1 g.sd.2 x (by omega)) (impl_push_l0 hsk ht.t (by omega) m x _ 0 S (start_at g.sz g.plc x) ht.zs (by omega) (key_ne hk) hN (by omega) (by omega))
      refine ev_bind _ hpu ?_
      obtain ⟨p1, p2, p3, p4, p5⟩ := push_ok m x (plc a 0 x S) 0 S (start_at g.sz g.plc x)
      generalize pushV a m x (plc a 0 x S) 0 S = r at p1 p2 p3 p4 p5 ⊢
      obtain ⟨S', o, th⟩ := r
      cases o with
      | none => exact ev_pos rfl (Ev.now _)
      | some y =>
        have hq : (y :: nz S').Perm (x :: nz S) := (p5 (key_ne hk)).1
        have hyT : y ∉ T := fun q => (List.nodup_cons.1 ((hq.append_right T).nodup_iff.2 hN)).1 (List.mem_append_right _ q)
        have hl := (insK_perm y hsk hyT).length_eq
        rw [List.length_cons] at hl
        have hT4 := g.t
        unfold impPush spcPush
        by_cases e : (T.length : Int) = 4
        · simp only [if_pos e]
          exact ev_neg (by simp; omega) (Ev.now _)
        · simp only [if_neg e]
          exact ev_pos (by simp; omega) (Ev.now _)
    · exact absurd (by rw [s2]) c
theorem impl_CuckooInsert_f (h : Tab S T) {x : ByteArray} (hx : x.size ≤ 1000) (mv : Int) : Ev (fun k => impl_CuckooInsert.f k a S T x mv) (insF a S T x mv) := by
  have jt : Ev (fun k => impl_CuckooInsert.j0 k x mv true a S T) (0, [], [], 0, false) := ev_succ (by simp only [impl_CuckooInsert.j0]; exact ev_pos (by trivial) (Ev.now _))
  unfold impl_CuckooInsert.f insF
  refine ev_bind _ (impl_IsCuckoo_f h) ?_
  by_cases c1 : goodB a S T = true
  · have g := good_iff.1 c1
    refine ev_pos c1 (ev_bind _ (impl_IsKey_f x (by omega)) ?_)
    rw [if_pos c1]
    by_cases c2 : isKeyB x = true
    · refine ev_pos c2 ?_
      rw [if_pos c2]
      simp only [impl_in, Option.bind_some]
      by_cases c3 : 0 ≤ mv ∧ mv ≤ 40
      · refine ev_pos (decide_eq_true c3) (ev_bind _ (impl_find_f a h x) ?_)
        rw [if_pos c3]
        by_cases c4 : idxS (S ++ T) x 0 ≥ 0
        · refine ev_pos c4 ?_
          rw [if_pos c4]
          exact jt
        · refine ev_neg c4 ?_
          rw [if_neg c4, impl_all_f a h (by have := g.n; omega)]
          simp only [Option.bind_some]
          by_cases c5 : ((nz S ++ T).length : Int) = 40
          · rw [if_pos c5, beq_iff_eq.2 c5]
            exact jt
          · rw [if_neg c5, beq_eq_false_iff_ne.2 c5]
            have := impl_ins_go g c2 (m := mv.toNat) (by omega) c4
            rwa [show ((mv.toNat : Nat) : Int) = mv by omega] at this
      · refine ev_neg (by simpa using c3) ?_
        rw [if_neg c3]
        exact jt
    · refine ev_neg c2 ?_
      rw [if_neg c2]
      exact jt
  · refine ev_neg c1 ?_
    rw [if_neg c1]
    exact jt
theorem Good.ins (g : Good a S T) {x : ByteArray} (hk : isKeyB x = true) (hf : x ∉ nz S ++ T) (h40 : (nz S ++ T).length < 40) {m : Nat} (hy : (insV a S T x m).2.2.2.2 = true) :
    Good (insV a S T x m).1 (insV a S T x m).2.1 (insV a S T x m).2.2.1 ∧ (nz (insV a S T x m).2.1 ++ (insV a S T x m).2.2.1).Perm (x :: (nz S ++ T)) := by
  obtain ⟨_, hsk, _⟩ := areKeys_iff.1 g.tk
  obtain ⟨q1, q2, q3, q4, q5, q6, q7⟩ := ins_ok g.sz g.plc g.t hy
  have hN : (x :: (nz S ++ T)).Nodup := List.nodup_cons.2 ⟨hf, g.nd⟩
  obtain ⟨r1, r2⟩ := q7 (key_ne hk) hsk hN
  have hkeys : ∀ s ∈ nz (insV a S T x m).2.1 ++ (insV a S T x m).2.2.1, isKeyB s = true := fun s hs => by
    rcases List.mem_cons.1 (r2.mem_iff.1 hs) with e | e
    · rw [e]; exact hk
    · exact g.keys s e
  refine ⟨⟨by rw [q1]; exact g.sd, by rw [q2]; exact g.n, q4, areKeys_iff.2 ⟨fun s hs => hkeys s (List.mem_append_right _ hs), r1, by omega⟩, ?_, r2.nodup_iff.2 hN, by rw [r2.length_eq, List.length_cons]; omega⟩, r2⟩
  rw [q1, q2]
  exact slots_of q3 fun s hs => hkeys s (List.mem_append_left _ hs)
end
end Go.Proofs.YtephjmmkggcmeaaQ.KC
namespace Go.Proofs.YtephjmmkggcmeaaQ.KC
open Go Go.RowKit Go.Proofs.YtephjmmkggcmeaaW.PrintWords Go.Proofs.YtephjmmkggcmeaaW.PrintMore Go.Proofs.YtephjmmkggcmeaaGp Go.Proofs.Ytephjmmkggcmeaa.PG Go.Proofs.YtephjmmkggcmeaaQ

def ofV (a : Int) (m : Nat) : List ByteArray → List ByteArray → List ByteArray → Int × List ByteArray × List ByteArray × Bool
  | [], S, T => (a, S, T, true)
  | x :: t, S, T => if (insV a S T x m).2.2.2.2 = true then ofV a m t (insV a S T x m).2.1 (insV a S T x m).2.2.1 else (0, [], [], false)
structure Rm (a : Int) (S T : List ByteArray) (b : Nat) : Prop where
  sz : Sz a S
  pl : Plc a (S.length : Int) S
  t : T.length ≤ 4
  zs : ∀ x ∈ S, x.size ≤ b
  zt : ∀ x ∈ T, x.size ≤ b
section
variable {a : Int} {S T : List ByteArray} {b : Nat}
theorem Rm.tab (h : Rm a S T b) (hb : b ≤ 1000) : Tab S T := ⟨by have := h.sz.n; omega, by have := h.t; omega, fun x hx => Nat.le_trans (h.zs x hx) hb, fun x hx => Nat.le_trans (h.zt x hx) hb⟩
theorem Rm.ins (h : Rm a S T b) {x : ByteArray} (hx : x.size ≤ b) {m : Nat} (hy : (insV a S T x m).2.2.2.2 = true) : (insV a S T x m).1 = a ∧ (insV a S T x m).2.1.length = S.length ∧ Rm a (insV a S T x m).2.1 (insV a S T x m).2.2.1 b := by
  obtain ⟨q1, q2, q3, q4, q5, q6, _⟩ := ins_ok h.sz h.pl h.t hy
  have hz : ∀ s, s ∈ (insV a S T x m).2.1 ∨ s ∈ (insV a S T x m).2.2.1 → s.size ≤ b := fun s hs => by
    rcases q6 s hs with e | e | e
    · rw [e]; exact hx
    · exact h.zs s e
    · exact h.zt s e
  exact ⟨q1, q2, h.sz.of q2, by rw [q2]; exact q3, q4, fun s hs => hz s (.inl hs), fun s hs => hz s (.inr hs)⟩
theorem Rm.ofV : ∀ (t S T : List ByteArray), Rm a S T b → (∀ x ∈ t, x.size ≤ b) → ∀ m, (ofV a m t S T).2.2.2 = true → (ofV a m t S T).1 = a ∧ (ofV a m t S T).2.1.length = S.length ∧ Rm a (ofV a m t S T).2.1 (ofV a m t S T).2.2.1 b
  | [], S, T, h, _, m, _ => ⟨rfl, rfl, h⟩
  | x :: t, S, T, h, hz, m, hy => by
    simp only [KC.ofV] at hy ⊢
    by_cases c : (insV a S T x m).2.2.2.2 = true
    · rw [if_pos c] at hy ⊢
      obtain ⟨_, i2, i3⟩ := h.ins (hz x (by simp)) c
      obtain ⟨j1, j2, j3⟩ := Rm.ofV t _ _ i3 (fun y hy => hz y (by simp [hy])) m hy
      exact ⟨j1, by rw [j2, i2], j3⟩
    · rw [if_neg c] at hy; cases hy
theorem spec_cuOf_l0 (hb : b ≤ 1000) (X : List ByteArray) (hX : X.length ≤ 1000) (hz : ∀ x ∈ X, x.size ≤ b) {m : Nat} (hm : m ≤ 1000) : ∀ (t pre S T : List ByteArray), X = pre ++ t → Rm a S T b →
    Ev (fun k => spec_cuOf.l0 k (m : Int) X (X.length : Int) (pre.length : Int) a S T) (ofV a m t S T) := by
  intro t
  induction t with
  | nil =>
    intro pre S T e _
    refine ev_succ ?_
    simp only [spec_cuOf.l0, ofV]
    exact ev_neg (by rw [e]; exact not_lt_end) (Ev.now _)
  | cons x t ih =>
    intro pre S T e h
    have hp : pre.length ≤ 1000 := by rw [e, List.length_append] at hX; omega
    have hl : ((pre.length : Nat) : Int) < (X.length : Int) := by rw [e]; exact lt_mid
    have hg : rdOf ByteArray.empty X (pre.length : Int) = x := by rw [e]; exact rdOf_mid
    have hx : x.size ≤ b := hz x (by rw [e]; simp)
    refine ev_succ ?_
    simp only [spec_cuOf.l0, hg, ofV]
    rw [winc (by omega)]
    refine ev_pos hl (ev_pos (by omega) (ev_pos hl (ev_bind _ (spec_cuInsert_f h.sz h.pl (h.tab hb) (by omega) hm) ?_)))
    by_cases c : (insV a S T x m).2.2.2.2 = true
    · obtain ⟨i1, i2, i3⟩ := h.ins hx c
      have IH := ih (pre ++ [x]) _ _ (by rw [e]; simp) i3
      rw [len_one] at IH
      refine ev_pos c ?_
      rw [if_pos c, i1]
      exact IH
    · refine ev_neg c ?_
      rw [if_neg c]
      exact Ev.now _
theorem rm_new (a : Int) (ha : 0 ≤ a ∧ a ≤ 9999) {n : Nat} (h1 : 1 ≤ n) (h2 : n ≤ 64) (b : Nat) : Rm a (List.replicate n emp) [] b := by
  refine ⟨⟨ha, by simp; omega⟩, fun i hi hne => absurd (by simp) hne, by simp, fun x hx => ?_, by simp⟩
  rw [List.eq_of_mem_replicate hx]
  simp [ByteArray.size]
theorem spec_cuOf_f (ha : 0 ≤ a ∧ a ≤ 9999) (hb : b ≤ 1000) {X : List ByteArray} (hX : X.length ≤ 1000) (hz : ∀ x ∈ X, x.size ≤ b) {n m : Nat} (h1 : 1 ≤ n) (h2 : n ≤ 64) (hm : m ≤ 1000) :
    Ev (fun k => spec_cuOf.f k a X (n : Int) (m : Int)) (ofV a m X (List.replicate n emp) []) := by
  unfold spec_cuOf.f
  refine ev_pos (by omega) (ev_pos (by omega) ?_)
  rw [Int.toNat_natCast]
  exact spec_cuOf_l0 hb X hX hz hm X [] _ _ rfl (rm_new a ha h1 h2 b)
end
structure Dt (S T : List ByteArray) : Prop where
  s : 1 ≤ S.length ∧ S.length ≤ 64
  t : T.length ≤ 5
  zs : ∀ x ∈ S, x.size ≤ 13
  zt : ∀ x ∈ T, x.size ≤ 13
theorem Dt.tab {S T : List ByteArray} (h : Dt S T) : Tab S T := ⟨by have := h.s; omega, by have := h.t; omega, fun x hx => by have := h.zs x hx; omega, fun x hx => by have := h.zt x hx; omega⟩
theorem Dt.set {S T : List ByteArray} (h : Dt S T) (i : Nat) {x : ByteArray} (hx : x.size ≤ 13) : Dt (S.set i x) T := by
  refine ⟨by simp; exact h.s, h.t, fun y hy => ?_, h.zt⟩
  rcases List.mem_or_eq_of_mem_set hy with e | e
  · exact h.zs y e
  · rw [e]; exact hx
section
variable {s : List Int} (hs : Bys s)
include hs
theorem draw_of : ∃ a l n mv, Ev (fun k => spec_DrawCuckooOf.f k s) (a, l, n, mv) ∧ Kys 42 l ∧ (-1 ≤ n ∧ n ≤ 65) := by
  obtain ⟨a, l, n, p, sd, e, _, hk, hn, q0, q1⟩ := keyed_ok hs (p := 0) 0 (by omega) (by omega)
  obtain ⟨v, p2, sd2, e2, hv, r0, r1⟩ := among_ok hs sd (l := [0, 1, 3, 12, 40, 41, (-1)]) (by simp) q0 (by omega)
  refine ⟨a, l, n, v, ?_, hk, hn⟩
  unfold spec_DrawCuckooOf.f
  refine ev_bind _ e ?_
  simp only [e2, Option.bind_some]
  exact Ev.now _
end
end Go.Proofs.YtephjmmkggcmeaaQ.KC
namespace Go.Proofs.YtephjmmkggcmeaaQ
open Go Go.RowKit Go.Proofs.YtephjmmkggcmeaaW.PrintWords Go.Proofs.YtephjmmkggcmeaaGp Go.Proofs.Ytephjmmkggcmeaa.PG

namespace LW
theorem sameT_l0 (x0 y0 : List ByteArray) (hl : (x0.length : Int) ≤ 9223372036854775806) (hy : y0.length = x0.length) : ∀ (t pre u pru : List ByteArray), x0 = pre ++ t → y0 = pru ++ u → pru.length = pre.length →
    Ev (fun k => laws_pSameTexts.l0 k x0 y0 (x0.length : Int) (pre.length : Int)) (decide (t = u)) := by
  intro t
  induction t with
  | nil =>
    intro pre u pru h h2 hp
    have : u = [] := by
      have e1 : y0.length = pru.length + u.length := by rw [h2]; simp
      have e2 : x0.length = pre.length := by rw [h]; simp
      exact List.length_eq_zero_iff.1 (by omega)
    subst this
    refine ev_succ ?_
    simp only [laws_pSameTexts.l0]
    exact ev_neg (by rw [h]; exact not_lt_end) (ev_some (by simp))
  | cons x t ih =>
    intro pre u pru h h2 hp
    have hm : ((pre.length : Nat) : Int) < (x0.length : Int) := by rw [h]; exact lt_mid
    have hg : rdOf ByteArray.empty x0 (pre.length : Int) = x := by rw [h]; exact rdOf_mid
    cases u with
    | nil =>
      have e1 : y0.length = pru.length := by rw [h2]; simp
      omega
    | cons y u =>
      have hg2 : rdOf ByteArray.empty y0 (pre.length : Int) = y := by rw [h2, ← hp]; exact rdOf_mid
      refine ev_succ ?_
      simp only [laws_pSameTexts.l0, hg, hg2, tl_inj]
      by_cases c : x = y
      · subst c
        have := ih (pre ++ [x]) u (pru ++ [x]) (by rw [h]; simp) (by rw [h2]; simp) (by simp [hp])
        rw [len_one] at this
        rw [show decide (x :: t = x :: u) = decide (t = u) from by simp, winc (by omega)]
        exact ev_pos hm (ev_pos (by omega) (ev_pos hm (ev_pos (by omega) (ev_pos rfl this))))
      · rw [decide_eq_false (fun e => c (List.cons.inj e).1)]
        exact ev_pos hm (ev_pos (by omega) (ev_pos hm (ev_pos (by omega) (ev_neg c (Ev.now _)))))
theorem sameT_f (l l' : List ByteArray) (hl : (l.length : Int) ≤ 9223372036854775806) : Ev (fun k => laws_pSameTexts.f k l l') (decide (l = l')) := by
  unfold laws_pSameTexts.f
  by_cases h : l'.length = l.length
  · exact ev_pos (by omega) (sameT_l0 l l' hl h l [] l' [] rfl rfl rfl)
  · exact ev_neg (by omega) (ev_some (decide_eq_false (fun e => h (by rw [e]))).symm)
end LW
end Go.Proofs.YtephjmmkggcmeaaQ
namespace Go.Proofs.YtephjmmkggcmeaaQ.KC
open Go Go.RowKit Go.Proofs.YtephjmmkggcmeaaW.PrintWords Go.Proofs.YtephjmmkggcmeaaW.PrintMore Go.Proofs.YtephjmmkggcmeaaGp Go.Proofs.Ytephjmmkggcmeaa.PG Go.Proofs.YtephjmmkggcmeaaQ

theorem rSameCk (a : Int) {S T : List ByteArray} (h : Tab S T) : Ev (fun k => laws_rSameCuckoo.f k a S T a S T) true := by
  have h1 := h.s
  have h2 := h.t
  have e1 := LW.sameT_f S S (by omega)
  have e2 := LW.sameT_f T T (by omega)
  rw [decide_eq_true rfl] at e1 e2
  unfold laws_rSameCuckoo.f
  exact ev_pos rfl (ev_bind _ e1 (ev_pos rfl (ev_bind _ e2 (Ev.now _))))
theorem tab_nil : Tab [] [] := ⟨by simp, by simp, by simp, by simp⟩
section
variable {a : Int} {S T : List ByteArray}
theorem keys_good (g : Good a S T) : Ev (fun k => impl_CuckooKeys.f k a S T) (sortS (nz S ++ T), true) := by
  have := impl_CuckooKeys_f (a := a) g.tab
  rwa [if_pos (good_iff.2 g)] at this
theorem is_good (g : Good a S T) : Ev (fun k => impl_IsCuckoo.f k a S T) true := by
  have := impl_IsCuckoo_f (a := a) g.tab
  rwa [good_iff.2 g] at this
theorem sorted_len (g : Good a S T) : (sortS (nz S ++ T)).length ≤ 40 := by
  rw [(sortS_perm _).length_eq]; exact g.le
theorem same_texts {l m : List ByteArray} (hl : l.length ≤ 1000) (h : l = m) : Ev (fun k => laws_pSameTexts.f k l m) true := by
  have := LW.sameT_f l m (by omega)
  rwa [decide_eq_true h] at this
end
end Go.Proofs.YtephjmmkggcmeaaQ.KC
namespace Go.Proofs.YtephjmmkggcmeaaQ.KC
open Go Go.RowKit Go.Proofs.YtephjmmkggcmeaaW.PrintWords Go.Proofs.YtephjmmkggcmeaaW.PrintMore Go.Proofs.YtephjmmkggcmeaaGp Go.Proofs.Ytephjmmkggcmeaa.PG Go.Proofs.YtephjmmkggcmeaaQ

def ofF (a : Int) (l : List ByteArray) (n mv : Int) : Int × List ByteArray × List ByteArray × Bool :=
  if keyedC a l n = true then (if 0 ≤ mv ∧ mv ≤ 40 then ofV a mv.toNat l (List.replicate n.toNat emp) [] else (0, [], [], false)) else (0, [], [], false)
section
variable {a : Int} {S T : List ByteArray}
theorem good_new (ha : 0 ≤ a ∧ a ≤ 9999) {n : Nat} (h1 : 1 ≤ n) (h2 : n ≤ 64) : Good a (List.replicate n emp) [] := by
  refine ⟨ha, by simp; omega, by simp, by simp [areKeysB, keysFrom], fun i hi hne => absurd (by simp) hne, ?_, ?_⟩
  · rw [nz_rep]; simp
  · rw [nz_rep]; simp
theorem build_step {l pre t : List ByteArray} {x : ByteArray} (hk : areKeysB l = true) (e : l = pre ++ x :: t) (hp : (nz S ++ T).Perm pre) : isKeyB x = true ∧ x ∉ nz S ++ T ∧ (nz S ++ T).length < 40 := by
  obtain ⟨k1, k2, k3⟩ := areKeys_iff.1 hk
  have hn := sk_nodup k2
  rw [e] at hn k3
  rw [List.length_append, List.length_cons] at k3
  refine ⟨k1 x (by rw [e]; simp), fun q => ?_, by rw [hp.length_eq]; omega⟩
  have hx := hp.mem_iff.1 q
  obtain ⟨_, _, n3⟩ := List.nodup_append.1 hn
  exact n3 x hx x (by simp) rfl
theorem ofV_good {l : List ByteArray} (hk : areKeysB l = true) {m : Nat} : ∀ (t pre S T : List ByteArray), l = pre ++ t → Good a S T → (nz S ++ T).Perm pre → (ofV a m t S T).2.2.2 = true →
    (ofV a m t S T).1 = a ∧ (ofV a m t S T).2.1.length = S.length ∧ Good a (ofV a m t S T).2.1 (ofV a m t S T).2.2.1 ∧ (nz (ofV a m t S T).2.1 ++ (ofV a m t S T).2.2.1).Perm l
  | [], pre, S, T, e, g, hp, _ => ⟨rfl, rfl, g, by rw [List.append_nil] at e; rw [e]; exact hp⟩
  | x :: t, pre, S, T, e, g, hp, hy => by
    obtain ⟨b1, b2, b3⟩ := build_step hk e hp
    simp only [ofV] at hy ⊢
    by_cases c : (insV a S T x m).2.2.2.2 = true
    · rw [if_pos c] at hy ⊢
      obtain ⟨g1, g2⟩ := g.ins b1 b2 b3 c
      obtain ⟨i1, i2, _⟩ := ins_ok g.sz g.plc g.t c
      rw [i1] at g1
      obtain ⟨j1, j2, j3, j4⟩ := ofV_good hk t (pre ++ [x]) _ _ (by rw [e]; simp) g1 (g2.trans ((hp.cons x).trans (List.perm_append_comm (l₁ := pre) (l₂ := [x])).symm)) hy
      exact ⟨j1, by rw [j2, i2], j3, j4⟩
    · rw [if_neg c] at hy; cases hy
theorem insF_eq (g : Good a S T) {x : ByteArray} (hk : isKeyB x = true) (hf : x ∉ nz S ++ T) (h40 : (nz S ++ T).length < 40) {mv : Int} (hm : 0 ≤ mv ∧ mv ≤ 40) : insF a S T x mv = insV a S T x mv.toNat := by
  unfold insF
  have : ¬ idxS (S ++ T) x 0 ≥ 0 := fun q => hf ((mem_all (key_ne hk)).1 ((idxS_mem _ _ 0).1 q))
  rw [if_pos (good_iff.2 g), if_pos hk, if_pos hm, if_neg this, if_neg (by omega)]
theorem impl_of_l0 {l : List ByteArray} (hk : areKeysB l = true) {mv : Int} (hm : 0 ≤ mv ∧ mv ≤ 40) : ∀ (t pre S T : List ByteArray), l = pre ++ t → Good a S T → (nz S ++ T).Perm pre →
    Ev (fun k => impl_CuckooOf.l0 k mv l (l.length : Int) (pre.length : Int) a S T) (ofV a mv.toNat t S T) := by
  have hl40 := areKeysB_len hk
  intro t
  induction t with
  | nil =>
    intro pre S T e _ _
    refine ev_succ ?_
    simp only [impl_CuckooOf.l0, ofV]
    exact ev_neg (by rw [e]; exact not_lt_end) (Ev.now _)
  | cons x t ih =>
    intro pre S T e g hp
    have hpl : pre.length ≤ 1000 := by rw [e, List.length_append] at hl40; omega
    have hl : ((pre.length : Nat) : Int) < (l.length : Int) := by rw [e]; exact lt_mid
    have hg : rdOf ByteArray.empty l (pre.length : Int) = x := by rw [e]; exact rdOf_mid
    obtain ⟨b1, b2, b3⟩ := build_step hk e hp
    have hx := (isKeyB_size b1).2
    have hi := impl_CuckooInsert_f (a := a) g.tab (x := x) (by omega) mv
    rw [insF_eq g b1 b2 b3 hm] at hi
    refine ev_succ ?_
    simp only [impl_CuckooOf.l0, hg, ofV]
    rw [winc (by omega)]
    refine ev_pos hl (ev_pos (by omega) (ev_pos hl (ev_bind _ hi ?_)))
    by_cases c : (insV a S T x mv.toNat).2.2.2.2 = true
    · obtain ⟨g1, g2⟩ := g.ins b1 b2 b3 c
      obtain ⟨i1, _⟩ := ins_ok g.sz g.plc g.t c
      rw [i1] at g1
      have IH := ih (pre ++ [x]) _ _ (by rw [e]; simp) g1 (g2.trans ((hp.cons x).trans (List.perm_append_comm (l₁ := pre) (l₂ := [x])).symm))
      rw [len_one] at IH
      refine ev_pos c ?_
      rw [if_pos c, i1]
      exact IH
    · refine ev_neg c ?_
      rw [if_neg c]
      exact Ev.now _
theorem impl_CuckooOf_f {l : List ByteArray} (hl : l.length ≤ 1000) (hz : ∀ s ∈ l, s.size ≤ 1000) (n mv : Int) : Ev (fun k => impl_CuckooOf.f k a l n mv) (ofF a l n mv) := by
  have hk := impl_AreKeys_f l (by omega) (fun s hs => by have := hz s hs; omega)
  have jt : ∀ a S T, Ev (fun k => impl_CuckooOf.j0 k l mv true a S T) (0, [], [], false) := fun a S T => ev_succ (by simp only [impl_CuckooOf.j0]; exact ev_pos (by trivial) (Ev.now _))
  unfold impl_CuckooOf.f impl_NewCuckoo.f impl_isSeed.f impl_cellsOk.f ofF keyedC
  simp only [impl_in, Option.bind_some]
  by_cases c : 0 ≤ a ∧ a ≤ 9999
  · rw [decide_eq_true c, Bool.true_and, if_pos rfl]
    by_cases d : 1 ≤ n ∧ n ≤ 64
    · rw [decide_eq_true d, Bool.and_true, if_pos rfl, if_pos (by omega), if_pos (by omega)]
      simp only [Option.bind_some]
      refine ev_pos (by trivial) (ev_bind _ hk ?_)
      by_cases e : areKeysB l = true
      · refine ev_pos e ?_
        rw [if_pos e]
        by_cases f : 0 ≤ mv ∧ mv ≤ 40
        · rw [if_pos f, decide_eq_true f]
          refine ev_succ ?_
          simp only [impl_CuckooOf.j0]
          exact ev_neg (by simp) (impl_of_l0 e f l [] _ _ rfl (good_new c (by omega) (by omega)) (by rw [nz_rep]; exact List.Perm.refl _))
        · rw [if_neg f, decide_eq_false f]
          exact jt _ _ _
      · refine ev_neg e ?_
        rw [if_neg e]
        exact jt _ _ _
    · rw [decide_eq_false d, Bool.and_false, if_neg (by simp), if_neg (by simp)]
      simp only [Option.bind_some]
      exact ev_neg (by simp) (jt _ _ _)
  · rw [decide_eq_false c, Bool.false_and, Bool.false_and, if_neg (by simp), if_neg (by simp)]
    simp only [Option.bind_some]
    exact ev_neg (by simp) (jt _ _ _)
theorem spec_CuckooOf_f {l : List ByteArray} (hl : l.length ≤ 1000) (hz : ∀ s ∈ l, s.size ≤ 1000) (n mv : Int) : Ev (fun k => spec_CuckooOf.f k a l n mv) (ofF a l n mv) := by
  unfold spec_CuckooOf.f spec_cuMoves.f ofF
  refine ev_bind _ (spec_cuKeyed_f a n hl hz) ?_
  by_cases c : keyedC a l n = true
  · obtain ⟨c1, c2, c3⟩ := keyedC_ok c
    refine ev_pos c ?_
    rw [if_pos c]
    simp only [spec_in, Option.bind_some]
    by_cases f : 0 ≤ mv ∧ mv ≤ 40
    · rw [if_pos f]
      have := spec_cuOf_f (a := a) (b := 1000) c1 (Nat.le_refl _) hl hz (n := n.toNat) (m := mv.toNat) (by omega) (by omega) (by omega)
      rw [Int.toNat_of_nonneg (by omega), Int.toNat_of_nonneg (by omega)] at this
      exact ev_pos (decide_eq_true f) (ev_bind _ this (Ev.now _))
    · rw [if_neg f]
      exact ev_neg (by simpa using f) (Ev.now _)
  · refine ev_neg c ?_
    rw [if_neg c]
    exact Ev.now _
end
end Go.Proofs.YtephjmmkggcmeaaQ.KC
namespace Go.Proofs.YtephjmmkggcmeaaQ
open Go Go.RowKit Go.Proofs.YtephjmmkggcmeaaW.PrintWords Go.Proofs.YtephjmmkggcmeaaGp Go.Proofs.Ytephjmmkggcmeaa.PG

theorem goesI_iff : ∀ (l S : List Int), goesI S l = true ↔ l.Nodup ∧ ∀ x ∈ l, x ∉ S
  | [], S => by simp [goesI]
  | x :: t, S => by
    rw [goesI, Bool.and_eq_true, goesI_iff t (x :: S)]
    simp only [Bool.not_eq_true', List.contains_eq_mem, decide_eq_false_iff_not, List.nodup_cons, List.mem_cons, not_or]
    constructor
    · rintro ⟨h1, h2, h3⟩
      refine ⟨⟨fun h => (h3 x h).1 rfl, h2⟩, fun y hy => ?_⟩
      rcases hy with rfl | hy
      · exact h1
      · exact (h3 y hy).2
    · rintro ⟨⟨h1, h2⟩, h3⟩
      exact ⟨h3 x (.inl rfl), h2, fun y hy => ⟨fun e => h1 (e ▸ hy), h3 y (.inr hy)⟩⟩
def nodB (l : List Int) : Bool := goesI [] l
theorem nodB_iff {l : List Int} : nodB l = true ↔ l.Nodup := by unfold nodB; rw [goesI_iff]; simp
theorem impl_distinct_f {l : List Int} (hl : l.length ≤ 1000000) (hr : ∀ x ∈ l, 0 ≤ x ∧ x ≤ 1000000) : impl_distinct.f l = some (nodB l) := by
  unfold impl_distinct.f
  refine if_pos ⟨hl, ?_⟩
  rw [List.all_eq_true]
  intro x hx
  have := hr x hx
  simp [okI]
  omega
end Go.Proofs.YtephjmmkggcmeaaQ
namespace Go.Proofs.Ytephjmmkggcmeaa.Pure
open Go Go.RowKit Go.Proofs.YtephjmmkggcmeaaW.PrintWords Go.Proofs.YtephjmmkggcmeaaW.PrintMore Go.Proofs.YtephjmmkggcmeaaGp Go.Proofs.Ytephjmmkggcmeaa.PG Go.Proofs.YtephjmmkggcmeaaQ Go.Proofs.YtephjmmkggcmeaaQ.KC
open CK (el)

theorem cb_placement {L : List (List Int)} {pl : List Int} (hn : L.length ≤ 1000) (hL : ∀ e ∈ L, e.length ≤ 1000) (hl : pl.length = L.length) (hr : ∀ x ∈ pl, 0 ≤ x ∧ x ≤ 1000000) (hd : pl.Nodup) (hm : ∀ j, j < L.length → pl.getD j 0 ∈ el L j) :
    Ev (fun k => impl_isPlacement.f k L pl) true := by
  have H : ∀ (d i : Nat), i + d = pl.length → Ev (fun k => impl_isPlacement.l0 k L pl (pl.length : Int) (i : Int)) true := by
    intro d
    induction d with
    | zero =>
      intro i hi
      refine ev_succ ?_
      simp only [impl_isPlacement.l0]
      exact ev_neg (by omega) (Ev.now _)
    | succ d ih =>
      intro i hi
      have h1 := ih (i + 1) (by omega)
      have hc := slices_Contains_int_f (el L i) (pl.getD i 0) (by have := el_len hL i; omega)
      refine ev_succ ?_
      simp only [impl_isPlacement.l0, rd_nat, rdll_nat]
      rw [winc (i := i) (by omega)]
      exact ev_pos (by omega) (ev_pos (by omega) (ev_pos (by omega) (ev_pos (by omega) (ev_bind _ hc (ev_pos (List.contains_iff_mem.2 (hm i (by omega))) h1)))))
  unfold impl_isPlacement.f
  rw [impl_distinct_f (by omega) hr, nodB_iff.2 hd]
  refine ev_pos (by omega) (ev_bind _ (Ev.now _) (ev_succ ?_))
  simp only [impl_isPlacement.j0]
  exact ev_neg (by simp) (H pl.length 0 (by omega))
section
variable {a : Int} {S T l : List ByteArray}
theorem cb_l0 {n : Int} (hk : keyedC a l n = true) (hn : (S.length : Int) = n) (g : KC.Good a S []) (hp : (nz S ++ []).Perm l) : ∀ (t pre : List ByteArray), l = pre ++ t →
    Ev (fun k => laws_FnCuckooBuilt.l0 k a l n (pre.map fun s => idxS (S ++ []) s 0) l (l.length : Int) (pre.length : Int) a S []) true := by
  obtain ⟨ha, hkk, hnn⟩ := keyedC_ok hk
  obtain ⟨hl, hz⟩ := keys_small hkk
  obtain ⟨k1, k2, k3⟩ := areKeys_iff.1 hkk
  intro t
  have hin : ∀ s ∈ l, s ∈ S ++ [] := fun s hs => (mem_all (key_ne (k1 s hs))).2 (hp.mem_iff.2 hs)
  induction t with
  | nil =>
    intro pre e
    obtain rfl : l = pre := by rw [e, List.append_nil]
    have hpr := impl_pairs_f a n (l := l) (by omega) hz
    rw [if_pos hk] at hpr
    refine ev_succ ?_
    simp only [laws_FnCuckooBuilt.l0, impl_IsPlacement.f]
    refine ev_neg (by omega) (ev_bind (true, true) (ev_bind _ hpr (ev_pos rfl (ev_bind _ (cb_placement ?_ prs_two ?_ ?_ ?_ ?_) (Ev.now _)))) (ev_pos rfl (Ev.now _)))
    · show (prs a n l).length ≤ 1000; rw [prs_len]; omega
    · rw [List.length_map, prs_len]
    · intro x hx
      obtain ⟨s, hs, rfl⟩ := List.mem_map.1 hx
      obtain ⟨j, hj, h1, _⟩ := idxS_get _ s (hin s hs)
      have := g.n
      rw [List.append_nil] at hj
      omega
    · refine List.pairwise_map.2 ((List.Pairwise.and_mem.1 (sk_nodup k2)).imp fun {s u} ⟨hs, hu, hne⟩ e => hne ?_)
      obtain ⟨j, hj, h1, h2⟩ := idxS_get _ s (hin s hs)
      obtain ⟨i, hi, h3, h4⟩ := idxS_get _ u (hin u hu)
      have : j = i := by omega
      subst this
      rw [← h2, ← h4]
    · intro j hj
      rw [prs_len] at hj
      obtain ⟨i, hi, h1, h2⟩ := idxS_get _ l[j] (hin _ (List.getElem_mem hj))
      have hgd : (l.map fun s => idxS (S ++ []) s 0).getD j 0 = (i : Int) := by
        rw [List.getD_eq_getElem?_getD, List.getElem?_eq_getElem (by simpa using hj)]
        simpa using h1
      have hi2 : i < S.length := by rwa [List.append_nil] at hi
      have h5 : S[i] = l[j] := by rw [← h2]; simp
      have hc := (g.sl i hi2 (by rw [h5]; exact key_ne (k1 _ (List.getElem_mem hj)))).2
      rw [h5, hn] at hc
      show _ ∈ el (prs a n l) j
      rw [hgd, prs_el hj]
      unfold cel at hc
      rw [Bool.or_eq_true, decide_eq_true_eq, decide_eq_true_eq] at hc
      rcases hc with q | q
      · rw [q]; simp
      · rw [q]; simp
  | cons x t ih =>
    intro pre e
    have hpl : pre.length ≤ 1000 := by rw [e, List.length_append] at hl; omega
    have hlt : ((pre.length : Nat) : Int) < (l.length : Int) := by rw [e]; exact lt_mid
    have hg : rdOf ByteArray.empty l (pre.length : Int) = x := by rw [e]; exact rdOf_mid
    have hxl : x ∈ l := by rw [e]; simp
    have IH := ih (pre ++ [x]) (by rw [e]; simp)
    rw [len_one, List.map_append, List.map_singleton] at IH
    have hf := impl_CuckooFind_f a g.tab x (hz x hxl)
    rw [fndV_of g (k1 x hxl) (hin x hxl)] at hf
    refine ev_succ ?_
    simp only [laws_FnCuckooBuilt.l0, hg]
    rw [winc (by omega)]
    exact ev_pos hlt (ev_pos (by omega) (ev_pos hlt (ev_bind _ hf (ev_pos rfl (ev_pos (by rw [List.length_map]; omega) IH)))))
end
theorem ofV_no (a : Int) (m : Nat) : ∀ (t S T : List ByteArray), ¬ (ofV a m t S T).2.2.2 = true → ofV a m t S T = (0, [], [], false)
  | [], S, T, h => absurd rfl h
  | x :: t, S, T, h => by
    simp only [ofV] at h ⊢
    by_cases c : (insV a S T x m).2.2.2.2 = true
    · rw [if_pos c] at h ⊢
      exact ofV_no a m t _ _ h
    · rw [if_neg c]
theorem ofF_no {a : Int} {l : List ByteArray} {n mv : Int} (h : ¬ (ofF a l n mv).2.2.2 = true) : ofF a l n mv = (0, [], [], false) := by
  unfold ofF at h ⊢
  by_cases c : keyedC a l n = true
  · rw [if_pos c] at h ⊢
    by_cases d : 0 ≤ mv ∧ mv ≤ 40
    · rw [if_pos d] at h ⊢
      exact ofV_no a _ _ _ _ h
    · rw [if_neg d]
  · rw [if_neg c]
theorem FnCuckooBuilt : laws_FnCuckooBuilt.Pure := by
  intro l0 l1 a0 a1 a2 b0 b1 b2
  refine Ev.rounds (r := true) ?_
  unfold laws_FnCuckooBuilt.f
  obtain ⟨bg, eb, hb⟩ := big_f a0 b0
  rw [eb]
  simp only [Option.bind_some]
  by_cases c : bg = true
  · exact ev_pos c (Ev.now _)
  have hs := bys (hb (by simpa using c)).1 a2
  obtain ⟨a, l, n, mv, e, hk, hn⟩ := draw_of hs
  have hl : l.length ≤ 1000 := by have := hk.1; omega
  have hz : ∀ s ∈ l, s.size ≤ 1000 := fun s hs => by have := hk.2 s hs; omega
  refine ev_neg c (ev_bind _ e (ev_bind _ (impl_CuckooOf_f hl hz n mv) (ev_bind _ (spec_CuckooOf_f hl hz n mv) (ev_neg (by simp) ?_))))
  by_cases d : (ofF a l n mv).2.2.2 = true
  · have hkc : keyedC a l n = true := by
      by_cases q : keyedC a l n = true
      · exact q
      · unfold ofF at d; rw [if_neg q] at d; cases d
    have hmv : 0 ≤ mv ∧ mv ≤ 40 := by
      by_cases q : 0 ≤ mv ∧ mv ≤ 40
      · exact q
      · unfold ofF at d; rw [if_pos hkc, if_neg q] at d; cases d
    obtain ⟨c1, c2, c3⟩ := keyedC_ok hkc
    have hv : ofF a l n mv = ofV a mv.toNat l (List.replicate n.toNat emp) [] := by unfold ofF; rw [if_pos hkc, if_pos hmv]
    rw [hv] at d ⊢
    obtain ⟨o1, o2, o3, o4⟩ := ofV_good c2 l [] _ _ rfl (good_new c1 (n := n.toNat) (by omega) (by omega)) (by rw [nz_rep]; exact List.Perm.refl _) d
    generalize ofV a mv.toNat l (List.replicate n.toNat emp) [] = R at d o1 o2 o3 o4 ⊢
    obtain ⟨a', S, T, ok⟩ := R
    simp only at d o1 o2 o3 o4 ⊢
    subst o1; subst d
    rw [List.length_replicate] at o2
    have hsl := sorted_len o3
    refine ev_bind _ (rSameCk _ o3.tab) (ev_succ ?_)
    simp only [laws_FnCuckooBuilt.j0]
    refine ev_neg (by simp) (ev_pos (by trivial) (ev_bind _ (keys_good o3) (ev_pos rfl (ev_bind _ (same_texts (by show (sortS (nz S ++ T)).length ≤ 1000; omega) (sortS_id o4 (areKeys_iff.1 c2).2.1)) (ev_pos rfl (ev_bind _ (is_good o3) (ev_succ ?_)))))))
    simp only [laws_FnCuckooBuilt.j1]
    refine ev_neg (by simp) ?_
    by_cases f : (T.length : Int) > 0
    · exact ev_pos f (Ev.now _)
    · obtain rfl : T = [] := List.length_eq_zero_iff.1 (by omega)
      exact ev_neg f (cb_l0 hkc (by omega) o3 o4 l [] rfl)
  · rw [ofF_no d]
    refine ev_bind _ (rSameCk _ tab_nil) (ev_succ ?_)
    simp only [laws_FnCuckooBuilt.j0]
    exact ev_neg (by simp) (ev_neg (by simp) (Ev.now _))
end Go.Proofs.Ytephjmmkggcmeaa.Pure
