import Derived.Test.YtephjmmkggcmeaaCP3
import Derived.Test.YtephjmmkggcmeaaCP4
import Derived.Test.YtephjmmkggcmeaaCP5
import Derived.Test.YtephjmmkggcmeaaCP1
namespace Go.Proofs.YtephjmmkggcmeaaQ
open Go Go.RowKit Go.Proofs.YtephjmmkggcmeaaW.PrintWords Go.Proofs.YtephjmmkggcmeaaGp Go.Proofs.Ytephjmmkggcmeaa.PP

structure Bys (s : List Int) : Prop where
  len : (s.length : Int) ≤ 1048576
  all : ∀ x ∈ s, 0 ≤ x ∧ x ≤ 255
theorem and255 (x : Int) : 0 ≤ Go.bits .and .u64 x 255 ∧ Go.bits .and .u64 x 255 ≤ 255 := by
  have e : Go.bits .and .u64 x 255 = IntKind.u64.wrap (((BitVec.ofInt 64 x &&& BitVec.ofInt 64 255 : BitVec 64)).toNat : Int) := by unfold Go.bits; rfl
  have h : ((BitVec.ofInt 64 x &&& BitVec.ofInt 64 255 : BitVec 64)).toNat ≤ 255 := by
    rw [BitVec.toNat_and]
    exact Nat.and_le_right
  rw [e]
  unfold IntKind.wrap
  simp only [IntKind.bits, IntKind.signed]
  generalize (BitVec.ofInt 64 x &&& BitVec.ofInt 64 255 : BitVec 64).toNat = m at h
  simp
  omega
theorem rd_by {s : List Int} (hs : Bys s) (i : Int) : 0 ≤ rd s i ∧ rd s i ≤ 255 := by
  unfold rd
  by_cases c : i.toNat < s.length
  · rw [List.getD_eq_getElem?_getD, List.getElem?_eq_getElem c]
    exact hs.all _ (List.getElem_mem c)
  · rw [List.getD_eq_getElem?_getD, List.getElem?_eq_none (by omega)]
    simp
theorem next_ok {s : List Int} (hs : Bys s) {p : Int} (sd : Int) (h0 : 0 ≤ p) (h1 : p ≤ 4000000000000000000) :
    ∃ v p' sd', spec_l1Cur_next.f s p sd = some (v, p', sd') ∧ (0 ≤ v ∧ v ≤ 255) ∧ 0 ≤ p' ∧ p' ≤ p + 1 := by
  have hb := rd_by hs p
  have w1 : wrap64 (p + 1) = p + 1 := w64 (by omega) (by omega)
  have w2 : wrap64 (rd s p) = rd s p := w64 (by omega) (by omega)
  unfold spec_l1Cur_next.f
  rw [w1, w2]
  by_cases c : p < (s.length : Int)
  · rw [if_pos c, if_pos h0]
    split
    · exact ⟨_, _, _, rfl, hb, by omega, by omega⟩
    · omega
  · rw [if_neg c, if_neg (by omega)]
    refine ⟨_, _, _, rfl, ?_, by omega, by omega⟩
    have := and255 ((IntKind.u64.wrap ((IntKind.u64.wrap (IntKind.u64.wrap (sd * 6364136223846793005))) + 1442695040888963407)) / 1099511627776)
    rw [w64 (by omega) (by omega)]
    exact this
theorem pick_ok {s : List Int} (hs : Bys s) {p : Int} (sd : Int) {n : Int} (h0 : 0 ≤ p) (h1 : p ≤ 3000000000000000000) :
    ∃ v p' sd', spec_l1Cur_pick.f s p sd n = some (v, p', sd') ∧ (0 ≤ v ∧ (v < n ∨ v = 0)) ∧ 0 ≤ p' ∧ p' ≤ p + 2 := by
  unfold spec_l1Cur_pick.f
  by_cases c : n ≤ 1
  · rw [if_pos c]; exact ⟨_, _, _, rfl, ⟨by omega, .inr rfl⟩, h0, by omega⟩
  obtain ⟨v, p', sd', e, hv, q0, q1⟩ := next_ok hs sd h0 (by omega)
  have hn : ¬ n = 0 := by omega
  rw [if_neg c, e]
  simp only [Option.bind_some, if_neg hn]
  by_cases d : n > 200
  · obtain ⟨u, p2, sd2, e2, hu, r0, r1⟩ := next_ok hs sd' q0 (by omega)
    rw [if_pos d, e2]
    simp only [Option.bind_some]
    refine ⟨_, _, _, rfl, ?_, r0, by omega⟩
    rw [w64 (x := v * 256) (by omega) (by omega), w64 (x := v * 256 + u) (by omega) (by omega), Int.tmod_eq_emod_of_nonneg (by omega)]
    exact ⟨Int.emod_nonneg _ hn, .inl (Int.emod_lt_of_pos _ (by omega))⟩
  · rw [if_neg d]
    refine ⟨_, _, _, rfl, ?_, q0, by omega⟩
    rw [Int.tmod_eq_emod_of_nonneg hv.1]
    exact ⟨Int.emod_nonneg _ hn, .inl (Int.emod_lt_of_pos _ (by omega))⟩
theorem one_ok {s : List Int} (hs : Bys s) {p : Int} (sd : Int) (n : Int) (h0 : 0 ≤ p) (h1 : p ≤ 3000000000000000000) :
    ∃ v p' sd', spec_l1Cur_one.f s p sd n = some (v, p', sd') ∧ 0 ≤ p' ∧ p' ≤ p + 2 := by
  obtain ⟨v, p', sd', e, _, q0, q1⟩ := pick_ok hs sd (n := n) h0 h1
  unfold spec_l1Cur_one.f
  rw [e]
  exact ⟨_, _, _, rfl, q0, q1⟩
theorem among_ok {s : List Int} (hs : Bys s) {p : Int} (sd : Int) {l : List Int} (hl : 0 < l.length) (h0 : 0 ≤ p) (h1 : p ≤ 3000000000000000000) :
    ∃ v p' sd', spec_l1Cur_among.f s p sd l = some (v, p', sd') ∧ v ∈ l ∧ 0 ≤ p' ∧ p' ≤ p + 2 := by
  obtain ⟨v, p', sd', e, hv, q0, q1⟩ := pick_ok hs sd (n := (l.length : Int)) h0 h1
  have hm : rd l v ∈ l := by
    unfold rd
    have : v.toNat < l.length := by omega
    rw [List.getD_eq_getElem?_getD, List.getElem?_eq_getElem this]
    exact List.getElem_mem this
  unfold spec_l1Cur_among.f
  rw [e]
  simp only [Option.bind_some]
  rw [if_pos (by omega), if_pos (by omega)]
  exact ⟨_, _, _, rfl, hm, q0, q1⟩
theorem strOf_size (l : List Int) : (strOfNums l).size = l.length := by simp [strOfNums, ByteArray.size]

def Dr {α : Type} (g : Nat → Option (α × Int × Int)) (p c : Int) (P : α → Prop) : Prop := ∃ v p' sd', Ev g (v, p', sd') ∧ P v ∧ 0 ≤ p' ∧ p' ≤ p + c
theorem key_l1 (s : List Int) (p sd : Int) : ∀ (d : Nat) (x : List Int), 12 - x.length ≤ d → x.length ≤ 12 →
    ∃ v, Ev (fun k => spec_l1Cur_key.l1 k x s p sd) (v, p, sd) ∧ v.size ≤ 12 := by
  intro d
  induction d with
  | zero =>
    intro x h1 h2
    refine ⟨strOfNums x, ev_succ ?_, by rw [strOf_size]; omega⟩
    simp only [spec_l1Cur_key.l1]
    exact ev_neg (by omega) (Ev.now _)
  | succ d ih =>
    intro x h1 h2
    by_cases c : (x.length : Int) < 12
    · obtain ⟨v, e, hv⟩ := ih (x ++ [97]) (by simp; omega) (by simp; omega)
      refine ⟨v, ev_succ ?_, hv⟩
      simp only [spec_l1Cur_key.l1]
      exact ev_pos c (ev_pos (by omega) e)
    · refine ⟨strOfNums x, ev_succ ?_, by rw [strOf_size]; omega⟩
      simp only [spec_l1Cur_key.l1]
      exact ev_neg c (Ev.now _)
theorem key_l0 {s : List Int} (hs : Bys s) : ∀ (n : Nat) (x : List Int) (p sd : Int), x.length + n ≤ 12 → 0 ≤ p → p + 2 * (n : Int) ≤ 2000000000000000000 →
    Dr (fun k => spec_l1Cur_key.l0 k x (n : Int) s p sd) p (2 * (n : Int) + 2) (fun v => v.size ≤ 12) := by
  intro n
  induction n with
  | zero =>
    intro x p sd hx h0 h1
    obtain ⟨v, p', sd', e, q0, q1⟩ := one_ok hs sd 12 h0 (by omega)
    by_cases c : v = true
    · obtain ⟨u, eu, hu⟩ := key_l1 s p' sd' 12 x (by omega) (by omega)
      refine ⟨u, p', sd', ev_succ ?_, hu, q0, by omega⟩
      simp only [spec_l1Cur_key.l0, e]
      exact ev_neg (by omega) (ev_bind _ (Ev.now _) (ev_pos c eu))
    · refine ⟨strOfNums x, p', sd', ev_succ ?_, (by rw [strOf_size]; omega : (strOfNums x).size ≤ 12), q0, by omega⟩
      simp only [spec_l1Cur_key.l0, e]
      exact ev_neg (by omega) (ev_bind _ (Ev.now _) (ev_neg c (Ev.now _)))
  | succ n ih =>
    intro x p sd hx h0 h1
    obtain ⟨v, p', sd', e, hv, q0, q1⟩ := pick_ok hs sd (n := 11) h0 (by omega)
    obtain ⟨u, p2, sd2, eu, hu, r0, r1⟩ := ih (x ++ [bt (⟨#[97, 97, 98, 98, 99, 120, 121, 122, 33, 125, 48]⟩ : ByteArray) v]) p' sd' (by simp; omega) q0 (by omega)
    refine ⟨u, p2, sd2, ev_succ ?_, hu, r0, by omega⟩
    simp only [spec_l1Cur_key.l0, e]
    refine ev_pos (by omega) (ev_bind _ (Ev.now _) (ev_pos hv.1 (ev_pos (by omega) (ev_pos (by omega) ?_))))
    rw [wdec (by omega)]
    exact eu
theorem key_ok {s : List Int} (hs : Bys s) {p : Int} (sd : Int) (h0 : 0 ≤ p) (h1 : p ≤ 1000000000000000000) : Dr (fun k => spec_l1Cur_key.f k s p sd) p 12 (fun v => v.size ≤ 12) := by
  obtain ⟨v, p', sd', e, hv, q0, q1⟩ := pick_ok hs sd (n := 4) h0 (by omega)
  obtain ⟨u, p2, sd2, eu, hu, r0, r1⟩ := key_l0 hs (v.toNat + 1) [] p' sd' (by simp; omega) q0 (by omega)
  refine ⟨u, p2, sd2, ?_, hu, r0, by omega⟩
  unfold spec_l1Cur_key.f
  rw [e]
  refine ev_bind _ (Ev.now _) ?_
  rw [w64 (by omega) (by omega), show 1 + v = ((v.toNat + 1 : Nat) : Int) from by omega]
  exact eu
def insK (s : ByteArray) : List ByteArray → List ByteArray
  | [] => [s]
  | q :: t => if lessS q s = true then q :: insK s t else if q = s then q :: t else s :: q :: t
theorem insK_len (s : ByteArray) : ∀ l, (insK s l).length ≤ l.length + 1
  | [] => by simp [insK]
  | q :: t => by
    have := insK_len s t
    unfold insK
    split
    · simp; omega
    · split <;> simp
theorem insK_mem (s : ByteArray) : ∀ l, ∀ x ∈ insK s l, x = s ∨ x ∈ l
  | [], x, h => by simp [insK] at h; exact .inl h
  | q :: t, x, h => by
    unfold insK at h
    split at h
    · rcases List.mem_cons.1 h with e | e
      · exact .inr (by simp [e])
      · rcases insK_mem s t x e with e | e
        · exact .inl e
        · exact .inr (by simp [e])
    · split at h
      · exact .inr h
      · rcases List.mem_cons.1 h with e | e
        · exact .inl e
        · exact .inr e
theorem putS_l0 (x0 : List ByteArray) (s : ByteArray) (hx : x0.length ≤ 1000000) : ∀ (t pre : List ByteArray), x0 = pre ++ t →
    Ev (fun k => spec_l1PutS.l0 k x0 s (pre.length : Int)) (pre ++ insK s t) := by
  intro t
  induction t with
  | nil =>
    intro pre h
    have hp : x0 = pre := by rw [h, List.append_nil]
    subst hp
    refine ev_succ ?_
    simp only [spec_l1PutS.l0]
    refine ev_neg (by omega) (ev_bind _ (Ev.now _) (ev_pos (by omega) (ev_pos (by omega) (ev_bind _ (Ev.now _) ?_))))
    rw [Int.toNat_natCast, List.take_length, List.nil_append]
    refine ev_pos (by simp; omega) (ev_bind _ (Ev.now _) (ev_pos (by omega) (ev_bind _ (Ev.now _) (ev_bind _ (Ev.now _) (ev_pos (by simp; omega) (ev_some ?_))))))
    simp [insK]
  | cons q t ih =>
    intro pre h
    have hm : ((pre.length : Nat) : Int) < (x0.length : Int) := by rw [h]; exact lt_mid
    have hg : rdOf ByteArray.empty x0 (pre.length : Int) = q := by rw [h]; exact rdOf_mid
    refine ev_succ ?_
    simp only [spec_l1PutS.l0, hg]
    refine ev_pos hm (ev_pos (by omega) ?_)
    unfold insK
    by_cases c : lessS q s = true
    · refine ev_pos c ?_
      rw [winc (by omega), if_pos c]
      have := ih (pre ++ [q]) (by rw [h]; simp)
      rw [len_one] at this
      simpa using this
    · refine ev_neg c ?_
      rw [if_neg c]
      by_cases d : q = s
      · refine ev_pos (tl_inj.2 d) (ev_some ?_)
        rw [if_pos d, h]
      · refine ev_neg (fun e => d (tl_inj.1 e)) (ev_bind _ (Ev.now _) (ev_pos (by omega) (ev_bind _ (Ev.now _) ?_)))
        have et : x0.take pre.length = pre := by rw [h]; simp
        have ed : x0.drop pre.length = q :: t := by rw [h]; simp
        have hl : x0.length = pre.length + (t.length + 1) := by rw [h]; simp
        rw [Int.toNat_natCast, et, ed, List.nil_append, if_neg d]
        refine ev_pos (by simp; omega) (ev_bind _ (Ev.now _) (ev_pos (by omega) (ev_bind _ (Ev.now _) (ev_bind _ (Ev.now _) (ev_pos (by simp; omega) (ev_some ?_))))))
        simp
theorem putS_f (l : List ByteArray) (s : ByteArray) (h : l.length ≤ 1000000) : Ev (fun k => spec_l1PutS.f k l s) (insK s l) := putS_l0 l s h l [] rfl
def Kys (m : Nat) (l : List ByteArray) : Prop := l.length ≤ m ∧ ∀ s ∈ l, s.size ≤ 13
theorem Kys.ins {m : Nat} {l : List ByteArray} (h : Kys m l) {s : ByteArray} (hs : s.size ≤ 13) : Kys (m + 1) (insK s l) :=
  ⟨by have := insK_len s l; have := h.1; omega, fun x hx => by exact (insK_mem s l x hx).elim (fun e => e ▸ hs) (h.2 x)⟩
theorem Kys.one {m : Nat} {l : List ByteArray} (h : Kys m l) {s : ByteArray} (hs : s.size ≤ 13) : Kys (m + 1) (l ++ [s]) :=
  ⟨by have := h.1; simp; omega, fun x hx => by exact (List.mem_append.1 hx).elim (h.2 x) (fun e => List.mem_singleton.1 e ▸ hs)⟩
theorem Kys.mono {m m' : Nat} {l : List ByteArray} (h : Kys m l) (hm : m ≤ m') : Kys m' l := ⟨Nat.le_trans h.1 hm, h.2⟩
theorem keys_l0 {s : List Int} (hs : Bys s) : ∀ (n m : Nat) (x : List ByteArray) (p sd : Int), Kys m x → m + n ≤ 1000 → 0 ≤ p → p + 12 * (n : Int) ≤ 500000000000000000 →
    Dr (fun k => spec_l1Cur_keys.l0 k x (n : Int) s p sd) p (12 * (n : Int)) (Kys (m + n)) := by
  intro n
  induction n with
  | zero =>
    intro m x p sd hx hm h0 h1
    refine ⟨x, p, sd, ev_succ ?_, hx, h0, by omega⟩
    simp only [spec_l1Cur_keys.l0]
    exact ev_neg (by omega) (Ev.now _)
  | succ n ih =>
    intro m x p sd hx hm h0 h1
    obtain ⟨v, p', sd', e, hv, q0, q1⟩ := key_ok hs sd h0 (by omega)
    have hl := hx.1
    obtain ⟨u, p2, sd2, eu, hu, r0, r1⟩ := ih (m + 1) (insK v x) p' sd' (hx.ins (by omega)) (by omega) q0 (by omega)
    refine ⟨u, p2, sd2, ev_succ ?_, hu.mono (by omega), r0, by omega⟩
    simp only [spec_l1Cur_keys.l0]
    refine ev_pos (by omega) (ev_bind _ e (ev_bind _ (putS_f x v (by omega)) ?_))
    rw [wdec (by omega)]
    exact eu
theorem keys_ok {s : List Int} (hs : Bys s) {p : Int} (sd : Int) {n : Nat} (hn : n ≤ 100) (h0 : 0 ≤ p) (h1 : p ≤ 400000000000000000) : Dr (fun k => spec_l1Cur_keys.f k s p sd (n : Int)) p (12 * (n : Int) + 2) (Kys n) := by
  obtain ⟨v, p', sd', e, hv, q0, q1⟩ := pick_ok hs sd (n := (n : Int) + 1) h0 (by omega)
  obtain ⟨u, p2, sd2, eu, hu, r0, r1⟩ := keys_l0 hs v.toNat 0 [] p' sd' ⟨by simp, by simp⟩ (by omega) q0 (by omega)
  refine ⟨u, p2, sd2, ?_, hu.mono (by omega), r0, by omega⟩
  unfold spec_l1Cur_keys.f
  rw [w64 (x := (n : Int) + 1) (by omega) (by omega), e]
  refine ev_bind _ (Ev.now _) ?_
  rw [show ((v.toNat : Nat) : Int) = v from by omega] at eu
  exact eu
end Go.Proofs.YtephjmmkggcmeaaQ
namespace Go.Proofs.YtephjmmkggcmeaaQ
open Go Go.RowKit Go.Proofs.YtephjmmkggcmeaaW.PrintWords Go.Proofs.YtephjmmkggcmeaaGp Go.Proofs.Ytephjmmkggcmeaa.PP

theorem Dr.mono {α : Type} {g : Nat → Option (α × Int × Int)} {p c c' : Int} {P P' : α → Prop} (h : Dr g p c P) (hc : c ≤ c') (hP : ∀ x, P x → P' x) : Dr g p c' P' := by
  obtain ⟨v, p', sd', e, hv, q0, q1⟩ := h
  exact ⟨v, p', sd', e, hP v hv, q0, by omega⟩
theorem seed9_ok {s : List Int} (hs : Bys s) {p : Int} (sd : Int) (h0 : 0 ≤ p) (h1 : p ≤ 1000000000000000000) :
    ∃ v p' sd', spec_l1Cur_seed9.f s p sd = some (v, p', sd') ∧ (-1 ≤ v ∧ v ≤ 10000) ∧ 0 ≤ p' ∧ p' ≤ p + 4 := by
  obtain ⟨v, p', sd', e, hv, q0, q1⟩ := pick_ok hs sd (n := 12) h0 (by omega)
  unfold spec_l1Cur_seed9.f
  rw [e]
  simp only [Option.bind_some]
  by_cases c : v = 0
  · obtain ⟨u, p2, sd2, eu, hu, r0, r1⟩ := among_ok hs sd' (l := [(-1), 9999, 10000]) (by simp) q0 (by omega)
    rw [if_pos c, eu]
    refine ⟨u, p2, sd2, rfl, ?_, r0, by omega⟩
    simp only [List.mem_cons, List.not_mem_nil, or_false] at hu
    omega
  · rw [if_neg c]
    by_cases d : v = 1
    · obtain ⟨u, p2, sd2, eu, hu, r0, r1⟩ := pick_ok hs sd' (n := 10000) q0 (by omega)
      rw [if_pos d, eu]
      exact ⟨u, p2, sd2, rfl, by omega, r0, by omega⟩
    · obtain ⟨u, p2, sd2, eu, hu, r0, r1⟩ := pick_ok hs sd' (n := 20) q0 (by omega)
      rw [if_neg d, eu]
      exact ⟨u, p2, sd2, rfl, by omega, r0, by omega⟩
theorem of_ok {s : List Int} (hs : Bys s) {p : Int} (sd : Int) {l : List ByteArray} (hl : 0 < l.length) (h0 : 0 ≤ p) (h1 : p ≤ 3000000000000000000) :
    ∃ v p' sd', spec_l1Cur_of.f s p sd l = some (v, p', sd') ∧ v ∈ l ∧ 0 ≤ p' ∧ p' ≤ p + 2 := by
  obtain ⟨v, p', sd', e, hv, q0, q1⟩ := pick_ok hs sd (n := (l.length : Int)) h0 h1
  have hm : rdOf ByteArray.empty l v ∈ l := by
    unfold rdOf
    have : v.toNat < l.length := by omega
    rw [List.getD_eq_getElem?_getD, List.getElem?_eq_getElem this]
    exact List.getElem_mem this
  unfold spec_l1Cur_of.f
  rw [e]
  simp only [Option.bind_some]
  rw [if_pos (by omega), if_pos (by omega)]
  exact ⟨_, _, _, rfl, hm, q0, q1⟩
theorem text_ok {s : List Int} (hs : Bys s) {p : Int} (sd : Int) (h0 : 0 ≤ p) (h1 : p ≤ 500000000000000000) : Dr (fun k => spec_l1Cur_text.f k s p sd) p 14 (fun v => v.size ≤ 13) := by
  obtain ⟨v, p', sd', e, hv, q0, q1⟩ := pick_ok hs sd (n := 16) h0 (by omega)
  obtain ⟨u, p2, sd2, eu, hu, r0, r1⟩ := key_ok hs sd' q0 (by omega)
  unfold spec_l1Cur_text.f
  rw [e]
  simp only [Option.bind_some]
  by_cases c0 : v = 0
  · exact ⟨_, p', sd', ev_pos c0 (Ev.now _), by decide, q0, by omega⟩
  · by_cases c1 : v = 1
    · have h1 : (⟨#[32]⟩ : ByteArray).size = 1 := rfl
      refine ⟨u ++ ⟨#[32]⟩, p2, sd2, ev_neg c0 (ev_pos c1 (ev_bind _ eu (ev_pos (by simp only []; omega) (Ev.now _)))), ?_, r0, by omega⟩
      show (u ++ ⟨#[32]⟩ : ByteArray).size ≤ 13
      rw [ByteArray.size_append]
      omega
    · by_cases c2 : v = 2
      · exact ⟨_, p', sd', ev_neg c0 (ev_neg c1 (ev_pos c2 (Ev.now _))), by decide, q0, by omega⟩
      · by_cases c3 : v = 3
        · obtain ⟨x, p3, sd3, ex, hx, t0, t1⟩ := of_ok hs sd' (l := [(⟨#[126]⟩ : ByteArray), (⟨#[125]⟩ : ByteArray), (⟨#[97, 126]⟩ : ByteArray), (⟨#[127]⟩ : ByteArray)]) (by simp) q0 (by omega)
          refine ⟨x, p3, sd3, ev_neg c0 (ev_neg c1 (ev_neg c2 (ev_pos c3 ?_))), ?_, t0, by omega⟩
          · rw [ex]; exact ev_bind _ (Ev.now _) (Ev.now _)
          · simp only [List.mem_cons, List.not_mem_nil, or_false] at hx
            rcases hx with rfl | rfl | rfl | rfl <;> decide
        · exact ⟨u, p2, sd2, ev_neg c0 (ev_neg c1 (ev_neg c2 (ev_neg c3 (ev_bind _ eu (Ev.now _))))), by omega, r0, by omega⟩
theorem many_l0 (s : List Int) (p sd : Int) : ∀ (d i m : Nat) (x : List ByteArray), Kys m x → m + d ≤ 1000 → i + d ≤ 1000 →
    ∃ v, Ev (fun k => spec_l1Cur_many.l0 k ((i + d : Nat) : Int) x (i : Int) s p sd) (v, p, sd) ∧ Kys (m + d) v := by
  intro d
  induction d with
  | zero =>
    intro i m x hx hm hi
    refine ⟨x, ev_succ ?_, hx⟩
    simp only [spec_l1Cur_many.l0]
    exact ev_neg (by omega) (Ev.now _)
  | succ d ih =>
    intro i m x hx hm hi
    have hl := hx.1
    have hz : (strOfNums [(wrap64 (97 + (wrap64 (Int.tdiv (i : Int) 10)))) % 256, (wrap64 (48 + (Int.tmod (i : Int) 10))) % 256]).size ≤ 13 := by rw [strOf_size]; simp
    obtain ⟨v, e, hv⟩ := ih (i + 1) (m + 1) (insK (strOfNums [(wrap64 (97 + (wrap64 (Int.tdiv (i : Int) 10)))) % 256, (wrap64 (48 + (Int.tmod (i : Int) 10))) % 256]) x) (hx.ins hz) (by omega) (by omega)
    refine ⟨v, ev_succ ?_, hv.mono (by omega)⟩
    simp only [spec_l1Cur_many.l0]
    refine ev_pos (by omega) (ev_bind _ (putS_f x _ (by omega)) ?_)
    rw [winc (by omega), show i + (d + 1) = i + 1 + d from by omega]
    exact e
theorem anyKeys_ok {s : List Int} (hs : Bys s) {p : Int} (sd : Int) {n : Nat} (hn : n ≤ 40) (h0 : 0 ≤ p) (h1 : p ≤ 100000000000000000) : Dr (fun k => spec_l1Cur_anyKeys.f k s p sd (n : Int)) p 600 (Kys 42) := by
  obtain ⟨ks, p', sd', e, hv, q0, q1⟩ := keys_ok hs sd (by omega : n ≤ 100) h0 (by omega)
  obtain ⟨v, p2, sd2, e2, hv2, r0, r1⟩ := pick_ok hs sd' (n := 14) q0 (by omega)
  have hl := hv.1
  unfold spec_l1Cur_anyKeys.f
  by_cases c0 : v = 0
  · obtain ⟨u, p3, sd3, eu, hu, t0, t1⟩ := text_ok hs sd2 r0 (by omega)
    refine ⟨ks ++ [u], p3, sd3, ev_bind _ e ?_, (hv.one hu).mono (by omega), t0, by omega⟩
    simp only [e2]
    exact ev_bind _ (Ev.now _) (ev_pos c0 (ev_bind _ eu (ev_pos (by omega) (Ev.now _))))
  · by_cases c1 : v = 1
    · by_cases c : (ks.length : Int) > 0
      · obtain ⟨u, p3, sd3, eu, hu, t0, t1⟩ := pick_ok hs sd2 (n := (ks.length : Int)) r0 (by omega)
        have hm : rdOf ByteArray.empty ks u ∈ ks := by
          unfold rdOf
          have : u.toNat < ks.length := by omega
          rw [List.getD_eq_getElem?_getD, List.getElem?_eq_getElem this]
          exact List.getElem_mem this
        refine ⟨ks ++ [rdOf ByteArray.empty ks u], p3, sd3, ev_bind _ e ?_, (hv.one (hv.2 _ hm)).mono (by omega), t0, by omega⟩
        simp only [e2]
        refine ev_bind _ (Ev.now _) (ev_neg c0 (ev_pos c1 (ev_pos c ?_)))
        simp only [eu]
        exact ev_bind _ (Ev.now _) (ev_pos (by omega) (ev_pos (by omega) (ev_pos (by omega) (Ev.now _))))
      · refine ⟨ks, p2, sd2, ev_bind _ e ?_, hv.mono (by omega), r0, by omega⟩
        simp only [e2]
        exact ev_bind _ (Ev.now _) (ev_neg c0 (ev_pos c1 (ev_neg c (Ev.now _))))
    · by_cases c2 : v = 2
      · obtain ⟨u, p3, sd3, eu, hu, t0, t1⟩ := pick_ok hs sd2 (n := 2) r0 (by omega)
        obtain ⟨y, ey, hy⟩ := many_l0 s p3 sd3 (40 + u.toNat) 0 0 [] ⟨by simp, by simp⟩ (by omega) (by omega)
        refine ⟨y, p3, sd3, ev_bind _ e ?_, hy.mono (by omega), t0, by omega⟩
        simp only [e2]
        refine ev_bind _ (Ev.now _) (ev_neg c0 (ev_neg c1 (ev_pos c2 ?_)))
        simp only [eu]
        refine ev_bind _ (Ev.now _) (ev_bind (y, p3, sd3) ?_ (Ev.now _))
        unfold spec_l1Cur_many.f
        simp only []
        rw [w64 (by omega) (by omega), show 40 + u = ((0 + (40 + u.toNat) : Nat) : Int) from by omega]
        exact ey
      · refine ⟨ks, p2, sd2, ev_bind _ e ?_, hv.mono (by omega), r0, by omega⟩
        simp only [e2]
        exact ev_bind _ (Ev.now _) (ev_neg c0 (ev_neg c1 (ev_neg c2 (Ev.now _))))
theorem big_f {l0 l1 : List Int} (h0 : l0.length ≤ maxLen) (h1 : l1.length ≤ maxLen) : ∃ b, laws_big.f l0 l1 = some b ∧ (b = false → (l0.length : Int) ≤ 1048576 ∧ (l1.length : Int) ≤ 1048576) := by
  rw [maxLen_eq] at h0 h1
  unfold laws_big.f
  by_cases c : (l0.length : Int) > 1048576
  · exact ⟨true, if_pos c, by simp⟩
  · refine ⟨_, if_neg c, fun h => ?_⟩
    rw [decide_eq_false_iff_not, w64 (by omega) (by omega)] at h
    omega
theorem bys {l : List Int} (h : (l.length : Int) ≤ 1048576) (hw : ∀ x ∈ l, (Lit.int .u8 x).wf = true) : Bys l := by
  refine ⟨h, fun x hx => ?_⟩
  have := hw x hx
  simp only [Lit.wf, Bool.and_eq_true, decide_eq_true_eq] at this
  exact this
end Go.Proofs.YtephjmmkggcmeaaQ
namespace Go.Proofs.YtephjmmkggcmeaaQ
open Go Go.RowKit Go.Proofs.YtephjmmkggcmeaaW.PrintWords Go.Proofs.YtephjmmkggcmeaaGp Go.Proofs.Ytephjmmkggcmeaa.PP

theorem spec_l1Has_l0 (x0 : List Int) (a : Int) (hl : (x0.length : Int) ≤ 9223372036854775806) : ∀ (t pre : List Int), x0 = pre ++ t →
    Ev (fun k => spec_l1Has.l0 k a x0 (x0.length : Int) (pre.length : Int)) (t.contains a) := by
  intro t
  induction t with
  | nil =>
    intro pre h
    refine ev_succ ?_
    simp only [spec_l1Has.l0]
    exact ev_neg (by rw [h]; exact not_lt_end) (ev_some (by simp))
  | cons x t ih =>
    intro pre h
    have hm : ((pre.length : Nat) : Int) < (x0.length : Int) := by rw [h]; exact lt_mid
    have hg : rd x0 (pre.length : Int) = x := by rw [h]; exact rd_mid
    refine ev_succ ?_
    simp only [spec_l1Has.l0, hg]
    refine ev_pos hm (ev_pos (by omega) (ev_pos hm ?_))
    by_cases c : x = a
    · exact ev_pos c (ev_some (by simp [c]))
    · refine ev_neg c ?_
      rw [winc (by omega)]
      have := ih (pre ++ [x]) (by rw [h]; simp)
      rw [len_one] at this
      have e : (x :: t).contains a = t.contains a := by simp [Ne.symm c]
      rw [e]
      exact this
theorem spec_l1Has_f (l : List Int) (a : Int) (hl : (l.length : Int) ≤ 9223372036854775806) : Ev (fun k => spec_l1Has.f k l a) (l.contains a) := by
  unfold spec_l1Has.f
  exact spec_l1Has_l0 l a hl l [] rfl
end Go.Proofs.YtephjmmkggcmeaaQ
namespace Go.Proofs.YtephjmmkggcmeaaQ.CK
open Classical

def el (ls : List (List Int)) (i : Nat) : List Int := ls.getD i []
def Adj (ls : List (List Int)) (i j : Nat) : Prop := ∃ x, x ∈ el ls i ∧ x ∈ el ls j
inductive Reach (ls : List (List Int)) : Nat → Nat → Prop
  | refl (i : Nat) : Reach ls i i
  | step {i j k : Nat} : Reach ls i j → k < ls.length → Adj ls j k → Reach ls i k
theorem Adj.symm {ls : List (List Int)} {i j : Nat} (h : Adj ls i j) : Adj ls j i := by
  obtain ⟨x, h1, h2⟩ := h
  exact ⟨x, h2, h1⟩
theorem Reach.trans {ls : List (List Int)} {i j k : Nat} (h : Reach ls i j) (h' : Reach ls j k) : Reach ls i k := by
  induction h' with
  | refl => exact h
  | step _ hk ha ih => exact .step ih hk ha
theorem Reach.lt {ls : List (List Int)} {i j : Nat} (h : Reach ls i j) (hi : i < ls.length) : j < ls.length := by
  cases h with
  | refl => exact hi
  | step _ hk _ => exact hk
theorem Reach.symm {ls : List (List Int)} {i j : Nat} (h : Reach ls i j) (hi : i < ls.length) : Reach ls j i := by
  induction h with
  | refl => exact .refl _
  | step h1 hk ha ih => exact (Reach.step (.refl _) (h1.lt hi) ha.symm).trans ih
def Cell (ls : List (List Int)) (i : Nat) (x : Int) : Prop := ∃ j, Reach ls i j ∧ x ∈ el ls j
noncomputable def comp (ls : List (List Int)) (i : Nat) : List Nat := (List.range ls.length).filter (fun j => decide (Reach ls i j))
def Fits (ls : List (List Int)) : Prop := ∀ i, i < ls.length → ∀ V : List Int, V.Nodup → (∀ x, x ∈ V ↔ Cell ls i x) → (comp ls i).length ≤ V.length
def Own (ls : List (List Int)) (m : Nat) (f : Nat → Int) : Prop := (∀ i, i < m → f i ∈ el ls i) ∧ ∀ i j, i < m → j < m → f i = f j → i = j
def Pairs (ls : List (List Int)) : Prop := ∀ i, i < ls.length → ∃ a b, el ls i = [a, b]

theorem countP_lt {α : Type} {p q : α → Bool} : ∀ {l : List α}, (∀ x ∈ l, p x = true → q x = true) → (∃ x ∈ l, q x = true ∧ p x = false) → l.countP p + 1 ≤ l.countP q
  | [], _, h => by obtain ⟨x, hx, _⟩ := h; simp at hx
  | y :: l, hm, h => by
    have hle : l.countP p ≤ l.countP q := List.countP_mono_left (fun x hx => hm x (by simp [hx]))
    rw [List.countP_cons, List.countP_cons]
    obtain ⟨x, hx, h1, h2⟩ := h
    rcases List.mem_cons.1 hx with rfl | hx
    · simp [h1, h2]; omega
    · have ih := countP_lt (fun x hx => hm x (by simp [hx])) ⟨x, hx, h1, h2⟩
      have hy := hm y (by simp)
      by_cases c : p y = true
      · simp [c, hy c]; omega
      · simp [c]; omega
noncomputable def cnt (n : Nat) (o : Nat → Int) (v : Int) : Nat := (List.range n).countP (fun i => decide (o i = v))
theorem countP_update {n : Nat} (p q : Nat → Bool) {d : Nat} (h : ∀ i, i ≠ d → p i = q i) (hd : d < n) : (List.range n).countP p + (if q d then 1 else 0) = (List.range n).countP q + (if p d then 1 else 0) := by
  induction n with
  | zero => omega
  | succ n ih =>
    rw [List.range_succ, List.countP_append, List.countP_append, List.countP_singleton, List.countP_singleton]
    by_cases c : d = n
    · subst c
      have e : (List.range d).countP p = (List.range d).countP q := List.countP_congr (fun i hi => by
        rw [List.mem_range] at hi
        rw [h i (by omega)])
      rw [e]; omega
    · have := ih (by omega)
      rw [h n (fun e => c e.symm)]
      omega
theorem cnt_le_one {n : Nat} {o : Nat → Int} (h : ∀ v, cnt n o v ≤ 1) : ∀ i j, i < n → j < n → o i = o j → i = j := by
  intro i j hi hj e
  by_cases c : i = j
  · exact c
  exfalso
  have h2 := countP_update (n := n) (fun q => decide (o q = o i)) (fun q => decide (o q = o i ∧ q ≠ i)) (d := i) (fun q hq => by simp [hq]) hi
  have h3 : 0 < (List.range n).countP (fun q => decide (o q = o i ∧ q ≠ i)) := List.countP_pos_iff.2 ⟨j, List.mem_range.2 hj, by simp [e]; exact fun e' => c e'.symm⟩
  have h4 := h (o i)
  unfold cnt at h4
  rw [show decide (o i = o i) = true from by simp, show decide (o i = o i ∧ i ≠ i) = false from by simp] at h2
  simp only [if_true, Bool.false_eq_true, if_false] at h2
  omega
theorem cnt_inj {n : Nat} {o : Nat → Int} (h : ∀ i j, i < n → j < n → o i = o j → i = j) (v : Int) : cnt n o v ≤ 1 := by
  induction n with
  | zero => simp [cnt]
  | succ n ih =>
    have hi := ih (fun i j hi hj => h i j (by omega) (by omega))
    unfold cnt at *
    rw [List.range_succ, List.countP_append, List.countP_singleton]
    by_cases c : o n = v
    · have : (List.range n).countP (fun i => decide (o i = v)) = 0 := by
        rw [List.countP_eq_zero]
        intro i hi' e
        rw [List.mem_range] at hi'
        have e2 := of_decide_eq_true e
        have := h i n (by omega) (by omega) (e2.trans c.symm)
        omega
      rw [this]; split <;> omega
    · simp [c]; exact hi
theorem sum_cnt {n : Nat} {o : Nat → Int} : ∀ {R : List Int}, R.Nodup → (R.map (cnt n o)).sum = (List.range n).countP (fun i => decide (o i ∈ R))
  | [], _ => by simp
  | v :: R, h => by
    rw [List.nodup_cons] at h
    rw [List.map_cons, List.sum_cons, sum_cnt h.2]
    unfold cnt
    generalize List.range n = l
    induction l with
    | nil => simp
    | cons i l ih =>
      simp only [List.countP_cons]
      by_cases c : o i = v
      · have : ¬ o i ∈ R := fun e => h.1 (c ▸ e)
        simp [c] at this ⊢
        simp [this]
        simp at ih
        omega
      · by_cases c2 : o i ∈ R <;> simp [c, c2] <;> simp at ih <;> omega
theorem sum_ge {g : Int → Nat} {u : Int} : ∀ {R : List Int}, R.Nodup → u ∈ R → g u = 2 → (∀ v ∈ R, 1 ≤ g v) → R.length + 1 ≤ (R.map g).sum
  | [], _, h, _, _ => by simp at h
  | v :: R, hn, h, h2, h1 => by
    rw [List.nodup_cons] at hn
    have base : ∀ R : List Int, (∀ v ∈ R, 1 ≤ g v) → R.length ≤ (R.map g).sum := fun R => by
      induction R with
      | nil => simp
      | cons v R ih =>
        intro h
        have := ih (fun v hv => h v (by simp [hv]))
        have := h v (by simp)
        simp; omega
    rcases List.mem_cons.1 h with rfl | h
    · have := base R (fun v hv => h1 v (by simp [hv]))
      simp; omega
    · have := sum_ge hn.2 h h2 (fun v hv => h1 v (by simp [hv]))
      have := h1 v (by simp)
      simp; omega

section
variable {ls : List (List Int)} {n : Nat}
def Twice (ls : List (List Int)) (n : Nat) (o : Nat → Int) (u : Int) : Prop := (∀ i, i < n → o i ∈ el ls i) ∧ cnt n o u = 2 ∧ ∀ v, v ≠ u → cnt n o v ≤ 1
def Path (ls : List (List Int)) (n : Nat) (o : Nat → Int) : Nat → Int → Int → Prop
  | 0, v, w => w = v
  | k + 1, v, w => ∃ d v', d < n ∧ o d = v ∧ v' ∈ el ls d ∧ Path ls n o k v' w
theorem Path.snoc {o : Nat → Int} : ∀ {k : Nat} {v w : Int}, Path ls n o k v w → ∀ {d : Nat} {x : Int}, d < n → o d = w → x ∈ el ls d → Path ls n o (k + 1) v x
  | 0, _, _, h, d, x, hd, ho, hx => ⟨d, x, hd, ho.trans h, hx, rfl⟩
  | _ + 1, _, _, ⟨e, v', he, ho', hv, hp⟩, _, _, hd, ho, hx => ⟨e, v', he, ho', hv, hp.snoc hd ho hx⟩
theorem path_other {o o' : Nat → Int} {d : Nat} {u : Int} (hd : o d = u) (ho : ∀ i, i ≠ d → o' i = o i) : ∀ (k : Nat) (x w : Int), Path ls n o k x w → Path ls n o' k x w ∨ ∃ j, j ≤ k ∧ Path ls n o j u w
  | 0, x, w, h => .inl h
  | k + 1, x, w, ⟨e, v', he, ho', hv, hp⟩ => by
    by_cases c : e = d
    · subst c
      have : x = u := ho'.symm.trans hd
      subst this
      exact .inr ⟨k + 1, Nat.le_refl _, e, v', he, ho', hv, hp⟩
    · rcases path_other hd ho k v' w hp with h | ⟨j, hj, h⟩
      · exact .inl ⟨e, v', he, (ho e c).trans ho', hv, h⟩
      · exact .inr ⟨j, by omega, h⟩
theorem cnt_switch {o : Nat → Int} {d : Nat} {v' : Int} (hd : d < n) (hne : v' ≠ o d) (w : Int) :
    cnt n (fun i => if i = d then v' else o i) w = if w = o d then cnt n o w - 1 else if w = v' then cnt n o w + 1 else cnt n o w := by
  have h := countP_update (n := n) (fun i => decide ((if i = d then v' else o i) = w)) (fun i => decide (o i = w)) (d := d) (fun i hi => by simp [hi]) hd
  unfold cnt
  show (List.range n).countP (fun i => decide ((if i = d then v' else o i) = w)) = _
  simp only [if_true, decide_eq_true_eq] at h
  by_cases c : w = o d
  · subst c
    rw [if_pos rfl] at h ⊢
    rw [if_neg hne] at h
    omega
  · rw [if_neg c]
    rw [if_neg (fun e => c e.symm)] at h
    by_cases c2 : w = v'
    · subst c2
      rw [if_pos rfl] at h ⊢
      omega
    · rw [if_neg c2]
      rw [if_neg (fun e => c2 e.symm)] at h
      omega
theorem Twice.switch {o : Nat → Int} {u : Int} (h : Twice ls n o u) (hno : ¬ ∃ f, Own ls n f) {d : Nat} {v' : Int} (hd : d < n) (ho : o d = u) (hv : v' ∈ el ls d) (hne : v' ≠ u) :
    cnt n o v' = 1 ∧ Twice ls n (fun i => if i = d then v' else o i) v' := by
  obtain ⟨h1, h2, h3⟩ := h
  subst ho
  have hc := cnt_switch (n := n) (o := o) hd hne
  have hin : ∀ i, i < n → (if i = d then v' else o i) ∈ el ls i := fun i hi => by
    by_cases c : i = d
    · subst c; simpa using hv
    · simpa [c] using h1 i hi
  have hle := h3 v' hne
  have h0 : cnt n o v' ≠ 0 := fun h0 => hno ⟨fun i => if i = d then v' else o i, hin, cnt_le_one (fun w => by
    rw [hc]
    split
    · rename_i e; rw [e, h2]; omega
    · split
      · rename_i e; rw [e, h0]; omega
      · rename_i e _; exact h3 w e)⟩
  have h11 : cnt n o v' = 1 := by omega
  refine ⟨h11, hin, ?_, fun w hw => ?_⟩
  · rw [hc, if_neg hne, if_pos rfl, h11]
  · rw [hc]
    by_cases e : w = o d
    · rw [if_pos e, e, h2]; omega
    · rw [if_neg e, if_neg hw]
      exact h3 w e
theorem Twice.full (hno : ¬ ∃ f, Own ls n f) : ∀ (k : Nat) (o : Nat → Int) (u : Int), Twice ls n o u → ∀ w, Path ls n o k u w → 1 ≤ cnt n o w := by
  intro k
  induction k using Nat.strongRecOn with
  | ind k ih =>
    intro o u h w hp
    cases k with
    | zero =>
      have hw : w = u := hp
      have := h.2.1
      rw [hw]; omega
    | succ k =>
      obtain ⟨d, v', hd, ho, hv, hp⟩ := hp
      by_cases c : v' = u
      · subst c
        exact ih k (by omega) o v' h w hp
      · obtain ⟨h1, h'⟩ := h.switch hno hd ho hv c
        rcases path_other (o' := fun i => if i = d then v' else o i) ho (fun i hi => by simp [hi]) k v' w hp with q | ⟨j, hj, q⟩
        · have := ih k (by omega) _ v' h' w q
          have hc := cnt_switch (n := n) (o := o) (v' := v') hd (by rw [ho]; exact c) w
          rw [ho] at hc
          by_cases e1 : w = u
          · have := h.2.1
            rw [e1]; omega
          · by_cases e2 : w = v'
            · rw [e2]; omega
            · rw [if_neg e1, if_neg e2] at hc
              omega
        · exact ih j (by omega) o u h w q
end

section
variable {ls : List (List Int)}
noncomputable def within (ls : List (List Int)) (S : List Int) : Nat := (List.range ls.length).countP (fun i => decide (∀ x ∈ el ls i, x ∈ S))
def Closed (ls : List (List Int)) (S : List Int) : Prop := ∀ i, i < ls.length → ∀ x ∈ el ls i, x ∈ S → ∀ y ∈ el ls i, y ∈ S
theorem nodup_le : ∀ {S V : List Int}, S.Nodup → (∀ x ∈ S, x ∈ V) → S.length ≤ V.length
  | [], _, _, _ => by simp
  | x :: S, V, hn, h => by
    rw [List.nodup_cons] at hn
    have hx := h x (by simp)
    have := nodup_le (S := S) (V := V.erase x) hn.2 (fun y hy => (List.mem_erase_of_ne (fun e => hn.1 (by rw [← e]; exact hy))).2 (h y (by simp [hy])))
    rw [List.length_erase_of_mem hx] at this
    have := List.length_pos_of_mem hx
    simp; omega
theorem grow (hp : Pairs ls) {m : Nat} {V : List Int} (hV : ∀ x, Cell ls m x → x ∈ V) : ∀ (d : Nat) (S : List Int), V.length - S.length ≤ d → S.Nodup → (∀ x ∈ S, Cell ls m x) → S.length + 1 ≤ within ls S →
    ∃ S', S'.Nodup ∧ (∀ x ∈ S, x ∈ S') ∧ (∀ x ∈ S', Cell ls m x) ∧ S'.length + 1 ≤ within ls S' ∧ Closed ls S' := by
  intro d
  induction d with
  | zero =>
    intro S hd hn hc hw
    refine ⟨S, hn, fun x h => h, hc, hw, ?_⟩
    intro i hi x hx hxS y hy
    apply Classical.byContradiction
    intro hyS
    have hcy : Cell ls m y := by
      obtain ⟨j, hj, hxj⟩ := hc x hxS
      exact ⟨i, .step hj hi ⟨x, hxj, hx⟩, hy⟩
    have h1 := nodup_le (S := y :: S) (V := V) (List.nodup_cons.2 ⟨hyS, hn⟩) (fun z hz => by
      rcases List.mem_cons.1 hz with rfl | hz
      · exact hV _ hcy
      · exact hV _ (hc z hz))
    simp at h1
    omega
  | succ d ih =>
    intro S hd hn hc hw
    by_cases hcl : Closed ls S
    · exact ⟨S, hn, fun x h => h, hc, hw, hcl⟩
    · unfold Closed at hcl
      simp only [Classical.not_forall] at hcl
      obtain ⟨i, hi, x, hx, hxS, y, hy, hyS⟩ := hcl
      have hcy : Cell ls m y := by
        obtain ⟨j, hj, hxj⟩ := hc x hxS
        exact ⟨i, .step hj hi ⟨x, hxj, hx⟩, hy⟩
      have hn' : (y :: S).Nodup := List.nodup_cons.2 ⟨hyS, hn⟩
      have hc' : ∀ z ∈ y :: S, Cell ls m z := fun z hz => by
        rcases List.mem_cons.1 hz with rfl | hz
        · exact hcy
        · exact hc z hz
      have hlen := nodup_le hn' (fun z hz => hV z (hc' z hz))
      have hgrow : within ls S + 1 ≤ within ls (y :: S) := by
        refine countP_lt (fun j _ h => ?_) ⟨i, List.mem_range.2 hi, ?_, ?_⟩
        · exact decide_eq_true (fun z hz => List.mem_cons_of_mem _ (of_decide_eq_true h z hz))
        · refine decide_eq_true (fun z hz => ?_)
          obtain ⟨a, b, e⟩ := hp i hi
          rw [e] at hx hy hz
          simp only [List.mem_cons, List.not_mem_nil, or_false] at hx hy hz
          have hxy : x ≠ y := fun e => hyS (e ▸ hxS)
          have : z = y ∨ z = x := by
            rcases hx with rfl | rfl <;> rcases hy with rfl | rfl <;> rcases hz with rfl | rfl <;> simp_all
          rcases this with rfl | rfl
          · exact List.mem_cons_self
          · exact List.mem_cons_of_mem _ hxS
        · exact decide_eq_false (fun h => hyS (h y hy))
      simp at hlen
      obtain ⟨S', a, b, c, d', e⟩ := ih (y :: S) (by simp; omega) hn' hc' (by simp; omega)
      exact ⟨S', a, fun z hz => b z (by simp [hz]), c, d', e⟩
theorem exists_nodup (p : Int → Prop) : ∀ L : List Int, ∃ V : List Int, V.Nodup ∧ ∀ x, x ∈ V ↔ x ∈ L ∧ p x
  | [] => ⟨[], by simp, by simp⟩
  | y :: L => by
    obtain ⟨V, h1, h2⟩ := exists_nodup p L
    by_cases c : p y ∧ ¬ y ∈ V
    · refine ⟨y :: V, List.nodup_cons.2 ⟨c.2, h1⟩, fun x => ?_⟩
      rw [List.mem_cons, List.mem_cons, h2]
      constructor
      · rintro (rfl | ⟨h, h'⟩)
        · exact ⟨.inl rfl, c.1⟩
        · exact ⟨.inr h, h'⟩
      · rintro ⟨rfl | h, h'⟩
        · exact .inl rfl
        · exact .inr ⟨h, h'⟩
    · refine ⟨V, h1, fun x => ?_⟩
      rw [List.mem_cons, h2]
      constructor
      · rintro ⟨h, h'⟩
        exact ⟨.inr h, h'⟩
      · rintro ⟨rfl | h, h'⟩
        · apply Classical.byContradiction
          intro hn
          exact c ⟨h', fun e => hn ((h2 _).1 e)⟩
        · exact ⟨h, h'⟩
theorem mem_el_flat {i : Nat} {x : Int} (h : x ∈ el ls i) : x ∈ ls.flatten := by
  unfold el at h
  rw [List.getD_eq_getElem?_getD] at h
  by_cases c : i < ls.length
  · rw [List.getElem?_eq_getElem c] at h
    exact List.mem_flatten.2 ⟨_, List.getElem_mem c, h⟩
  · rw [List.getElem?_eq_none (by omega)] at h
    simp at h
theorem own_step (hp : Pairs ls) (hF : Fits ls) {m : Nat} (hm : m < ls.length) {f : Nat → Int} (hf : Own ls m f) : ∃ f', Own ls (m + 1) f' := by
  apply Classical.byContradiction
  intro hno
  obtain ⟨a, b, hab⟩ := hp m hm
  have ha : a ∈ el ls m := by rw [hab]; simp
  have hin : ∀ i, i < m + 1 → (if i = m then a else f i) ∈ el ls i := fun i hi => by
    by_cases c : i = m
    · subst c; simpa using ha
    · simpa [c] using hf.1 i (by omega)
  have hcnt : ∀ v, cnt (m + 1) (fun i => if i = m then a else f i) v = cnt m f v + if a = v then 1 else 0 := fun v => by
    unfold cnt
    rw [List.range_succ, List.countP_append, List.countP_singleton]
    congr 1
    · exact List.countP_congr (fun i hi => by
        rw [List.mem_range] at hi
        simp [show i ≠ m by omega])
    · simp
  have hle := cnt_inj hf.2
  have h2 : cnt (m + 1) (fun i => if i = m then a else f i) a = 2 := by
    have hla := hle a
    have hne : cnt m f a ≠ 0 := fun h0 => hno ⟨_, hin, cnt_le_one (fun v => by
      rw [hcnt]
      by_cases c : a = v
      · subst c; simp [h0]
      · have := hle v; simp [c]; exact this)⟩
    rw [hcnt, if_pos rfl]; omega
  have hT : Twice ls (m + 1) (fun i => if i = m then a else f i) a := ⟨hin, h2, fun v hv => by
    rw [hcnt, if_neg (fun e => hv e.symm)]
    exact hle v⟩
  generalize (fun i => if i = m then a else f i) = o at hT h2 hin hcnt
  have hfull := fun k => Twice.full hno k o a hT
  obtain ⟨R, hRn, hR⟩ := exists_nodup (fun w => ∃ k, Path ls (m + 1) o k a w) ls.flatten
  have hRa : a ∈ R := (hR a).2 ⟨mem_el_flat ha, 0, rfl⟩
  have hRc : ∀ d, d < m + 1 → o d ∈ R → ∀ x ∈ el ls d, x ∈ R := fun d hd ho x hx => by
    obtain ⟨_, k, hk⟩ := (hR _).1 ho
    exact (hR x).2 ⟨mem_el_flat hx, k + 1, hk.snoc hd rfl hx⟩
  have hcell : ∀ (k : Nat) (v w : Int), Cell ls m v → Path ls (m + 1) o k v w → Cell ls m w := by
    intro k
    induction k with
    | zero =>
      intro v w hv hp
      have : w = v := hp
      rw [this]; exact hv
    | succ k ih =>
      rintro v w ⟨j, hj, hvj⟩ ⟨d, v', hd, ho, hv', hp⟩
      exact ih v' w ⟨d, .step hj (by omega) ⟨v, hvj, by have := hT.1 d hd; rw [ho] at this; exact this⟩, hv'⟩ hp
  have hsum := sum_ge (g := cnt (m + 1) o) hRn hRa h2 (fun v hv => by
    obtain ⟨_, k, hk⟩ := (hR v).1 hv
    exact hfull k v hk)
  rw [sum_cnt hRn] at hsum
  have hw : R.length + 1 ≤ within ls R := by
    refine Nat.le_trans hsum ?_
    unfold within
    have hsplit : List.range ls.length = List.range (m + 1) ++ (List.range' (m + 1) (ls.length - (m + 1))) := by
      have := List.range'_append_1 (s := 0) (m := m + 1) (n := ls.length - (m + 1))
      rw [Nat.zero_add, show m + 1 + (ls.length - (m + 1)) = ls.length from by omega] at this
      rw [List.range_eq_range', List.range_eq_range', this]
    rw [hsplit, List.countP_append]
    refine Nat.le_trans (List.countP_mono_left (fun i hi h => ?_)) (Nat.le_add_right _ _)
    exact decide_eq_true (hRc i (List.mem_range.1 hi) (of_decide_eq_true h))
  obtain ⟨S, hSn, hRS, hSc, hSw, hScl⟩ := grow hp (m := m) (V := ls.flatten) (fun x hx => by
    obtain ⟨j, _, h⟩ := hx
    exact mem_el_flat h) (ls.flatten.length) R (by omega) hRn (fun x hx => by
      obtain ⟨_, k, hk⟩ := (hR x).1 hx
      exact hcell k a x ⟨m, .refl _, ha⟩ hk) hw
  have hall : ∀ j, Reach ls m j → ∀ x ∈ el ls j, x ∈ S := by
    intro j hj
    induction hj with
    | refl => exact hScl m hm a ha (hRS a hRa)
    | step _ hk hadj ih =>
      obtain ⟨x, h1, h2⟩ := hadj
      exact hScl _ hk x h2 (ih x h1)
  have hfit := hF m hm S hSn (fun x => ⟨hSc x, fun ⟨j, hj, hx⟩ => hall j hj x hx⟩)
  have hle2 : within ls S ≤ (comp ls m).length := by
    unfold within comp
    rw [← List.countP_eq_length_filter]
    refine List.countP_mono_left (fun i hi h => decide_eq_true ?_)
    rw [List.mem_range] at hi
    obtain ⟨a', b', e⟩ := hp i hi
    have ha' : a' ∈ el ls i := by rw [e]; simp
    obtain ⟨j, hj, hx⟩ := hSc a' (of_decide_eq_true h a' ha')
    exact .step hj hi ⟨a', hx, ha'⟩
  omega
theorem own_of_fits (hp : Pairs ls) (hF : Fits ls) : ∃ f, Own ls ls.length f := by
  have : ∀ m, m ≤ ls.length → ∃ f, Own ls m f := by
    intro m
    induction m with
    | zero => exact fun _ => ⟨fun _ => 0, fun i hi => by omega, fun i j hi => by omega⟩
    | succ m ih =>
      intro h
      obtain ⟨f, hf⟩ := ih (by omega)
      exact own_step hp hF (by omega) hf
  exact this _ (Nat.le_refl _)
theorem own_count {f : Nat → Int} (hf : Own ls ls.length f) {is : List Nat} (hn : is.Nodup) (hi : ∀ i ∈ is, i < ls.length) {V : List Int} (hV : ∀ i ∈ is, ∀ x ∈ el ls i, x ∈ V) : is.length ≤ V.length := by
  have h1 : (is.map f).Nodup := by
    rw [List.Nodup, List.pairwise_map]
    exact List.Pairwise.imp_of_mem (fun {i j} hi' hj' hne e => hne (hf.2 i j (hi i hi') (hi j hj') e)) hn
  have := nodup_le h1 (V := V) (fun x hx => by
    obtain ⟨i, h, rfl⟩ := List.mem_map.1 hx
    exact hV i h _ (hf.1 i (hi i h)))
  simpa using this
theorem fits_of_own {f : Nat → Int} (hf : Own ls ls.length f) : Fits ls := fun i hi V hn hV => by
  refine own_count hf (List.nodup_range.filter _) (fun j hj => List.mem_range.1 (List.mem_filter.1 hj).1) (fun j hj x hx => (hV x).2 ⟨j, of_decide_eq_true (List.mem_filter.1 hj).2, hx⟩)
end
end Go.Proofs.YtephjmmkggcmeaaQ.CK
namespace Go.Proofs.YtephjmmkggcmeaaQ.CK
open Classical
section
variable {ls : List (List Int)}
noncomputable def heads (ls : List (List Int)) : List Nat := (List.range ls.length).filter (fun i => decide (∀ j, Reach ls i j → i ≤ j))
noncomputable def groupsC (ls : List (List Int)) : List (List Nat) := (heads ls).map (comp ls)
theorem mem_comp {i j : Nat} : j ∈ comp ls i ↔ j < ls.length ∧ Reach ls i j := by
  unfold comp
  rw [List.mem_filter, List.mem_range, decide_eq_true_eq]
theorem mem_heads {i : Nat} : i ∈ heads ls ↔ i < ls.length ∧ ∀ j, Reach ls i j → i ≤ j := by
  unfold heads
  rw [List.mem_filter, List.mem_range, decide_eq_true_eq]
theorem comp_eq {i j : Nat} (hi : i < ls.length) (h : Reach ls i j) : comp ls i = comp ls j := by
  unfold comp
  apply List.filter_congr
  intro k _
  rw [decide_eq_decide]
  exact ⟨fun h' => (h.symm hi).trans h', fun h' => h.trans h'⟩
theorem comp_nodup (i : Nat) : (comp ls i).Nodup := List.nodup_range.filter _
theorem comp_self {i : Nat} (hi : i < ls.length) : i ∈ comp ls i := mem_comp.2 ⟨hi, .refl _⟩
theorem head_of : ∀ (n j : Nat), j ≤ n → j < ls.length → ∃ i, i ∈ heads ls ∧ Reach ls i j := by
  intro n
  induction n with
  | zero =>
    intro j hj hl
    exact ⟨j, mem_heads.2 ⟨hl, fun k _ => by omega⟩, .refl _⟩
  | succ n ih =>
    intro j hj hl
    by_cases c : ∀ k, Reach ls j k → j ≤ k
    · exact ⟨j, mem_heads.2 ⟨hl, c⟩, .refl _⟩
    · simp only [Classical.not_forall] at c
      obtain ⟨k, hk, hlt⟩ := c
      obtain ⟨i, h1, h2⟩ := ih k (by omega) (hk.lt hl)
      exact ⟨i, h1, h2.trans (hk.symm hl)⟩
theorem head_uniq {i i' j : Nat} (h : i ∈ heads ls) (h' : i' ∈ heads ls) (hj : Reach ls i j) (hj' : Reach ls i' j) : i = i' := by
  obtain ⟨a1, a2⟩ := mem_heads.1 h
  obtain ⟨b1, b2⟩ := mem_heads.1 h'
  have := a2 i' (hj.trans (hj'.symm b1))
  have := b2 i (hj'.trans (hj.symm a1))
  omega
theorem heads_nodup : (heads ls).Nodup := List.nodup_range.filter _
theorem flat_mem {j : Nat} : j ∈ (groupsC ls).flatten ↔ j < ls.length := by
  rw [List.mem_flatten]
  constructor
  · rintro ⟨g, hg, hj⟩
    obtain ⟨i, _, rfl⟩ := List.mem_map.1 hg
    exact (mem_comp.1 hj).1
  · intro hj
    obtain ⟨i, h1, h2⟩ := head_of j j (Nat.le_refl _) hj
    exact ⟨comp ls i, List.mem_map.2 ⟨i, h1, rfl⟩, mem_comp.2 ⟨hj, h2⟩⟩
theorem flat_nodup : (groupsC ls).flatten.Nodup := by
  unfold List.Nodup
  rw [List.pairwise_flatten]
  refine ⟨fun g hg => ?_, ?_⟩
  · obtain ⟨i, _, rfl⟩ := List.mem_map.1 hg
    exact comp_nodup i
  · unfold groupsC
    rw [List.pairwise_map]
    refine List.Pairwise.imp_of_mem (fun {i i'} hi hi' hne x hx y hy e => ?_) heads_nodup
    subst e
    exact hne (head_uniq hi hi' (mem_comp.1 hx).2 (mem_comp.1 hy).2)
theorem nodup_leN : ∀ {S V : List Nat}, S.Nodup → (∀ x ∈ S, x ∈ V) → S.length ≤ V.length
  | [], _, _, _ => by simp
  | x :: S, V, hn, h => by
    rw [List.nodup_cons] at hn
    have hx := h x (by simp)
    have := nodup_leN (S := S) (V := V.erase x) hn.2 (fun y hy => (List.mem_erase_of_ne (fun e => hn.1 (by rw [← e]; exact hy))).2 (h y (by simp [hy])))
    rw [List.length_erase_of_mem hx] at this
    have := List.length_pos_of_mem hx
    simp; omega
theorem flat_len : (groupsC ls).flatten.length = ls.length := by
  have h1 := nodup_leN (flat_nodup (ls := ls)) (V := List.range ls.length) (fun x hx => List.mem_range.2 (flat_mem.1 hx))
  have h2 := nodup_leN (List.nodup_range (n := ls.length)) (V := (groupsC ls).flatten) (fun x hx => flat_mem.2 (List.mem_range.1 hx))
  rw [List.length_range] at h1 h2
  omega
theorem sum_len : ((groupsC ls).map List.length).sum = ls.length := by rw [← List.length_flatten, flat_len]
theorem heads_len : (groupsC ls).length ≤ ls.length := by
  unfold groupsC heads
  rw [List.length_map]
  exact Nat.le_trans (List.length_filter_le _ _) (by rw [List.length_range]; exact Nat.le_refl _)

structure Found (ls : List (List Int)) (i : Nat) (F : Nat → Prop) (todo : List Nat) : Prop where
  here : F i
  sound : ∀ j, F j → Reach ls i j ∧ j < ls.length
  sub : ∀ j ∈ todo, F j
  shut : ∀ j k, F j → j ∉ todo → k < ls.length → Adj ls j k → F k
theorem Found.all {i : Nat} {F : Nat → Prop} (h : Found ls i F []) : ∀ j, F j ↔ Reach ls i j := by
  intro j
  refine ⟨fun hj => (h.sound j hj).1, fun hj => ?_⟩
  induction hj with
  | refl => exact h.here
  | step h1 hk ha ih => exact h.shut _ _ ih (by simp) hk ha
end
end Go.Proofs.YtephjmmkggcmeaaQ.CK
namespace Go.Proofs.YtephjmmkggcmeaaQ.CK
open Classical

def shareB (a b : List Int) : Bool := a.any (fun n => b.contains n)
def scan (ls : List (List Int)) (p : List Int) (k : Int) : Nat → Nat → List Int → List Nat → List Int × List Nat
  | 0, _, o, t => (o, t)
  | m + 1, j, o, t => if (decide (o.getD j 0 < 0) && shareB (el ls j) p) = true then scan ls p k m (j + 1) (o.set j k) (t ++ [j]) else scan ls p k m (j + 1) o t
def bfs (ls : List (List Int)) (k : Int) : Nat → List Int → List Nat → List Int
  | 0, o, _ => o
  | _ + 1, o, [] => o
  | f + 1, o, i :: t => bfs ls k f (scan ls (el ls i) k ls.length 0 o (i :: t)).1 (scan ls (el ls i) k ls.length 0 o (i :: t)).2.tail
def outer (ls : List (List Int)) : Nat → Nat → List Int → Nat → List Int × Nat
  | 0, _, o, c => (o, c)
  | m + 1, i, o, c => if 0 ≤ o.getD i 0 then outer ls m (i + 1) o c else outer ls m (i + 1) (bfs ls (c : Int) (ls.length + 1) (o.set i (c : Int)) [i]) (c + 1)
def groupsG (ls : List (List Int)) : List (List Nat) :=
  (List.range (outer ls ls.length 0 (List.replicate ls.length (-1)) 0).2).map (fun (k : Nat) => (List.range ls.length).filter (fun i => decide ((outer ls ls.length 0 (List.replicate ls.length (-1)) 0).1.getD i 0 = (k : Int))))

section
variable {ls : List (List Int)}
theorem shareB_iff {i j : Nat} : shareB (el ls j) (el ls i) = true ↔ Adj ls j i := by
  unfold shareB Adj
  rw [List.any_eq_true]
  constructor
  · rintro ⟨x, h1, h2⟩
    exact ⟨x, h1, List.contains_iff_mem.1 h2⟩
  · rintro ⟨x, h1, h2⟩
    exact ⟨x, h1, List.contains_iff_mem.2 h2⟩
theorem getD_set {o : List Int} {j i : Nat} {v : Int} (h : j < o.length) : (o.set j v).getD i 0 = if j = i then v else o.getD i 0 := by
  rw [List.getD_eq_getElem?_getD]
  by_cases c : j = i
  · subst c
    rw [List.getElem?_set_self (by simpa using h), if_pos rfl]
    rfl
  · rw [List.getElem?_set_ne c, if_neg c, ← List.getD_eq_getElem?_getD]
theorem scan_ok (p : List Int) {k : Int} (hk : 0 ≤ k) : ∀ (m j : Nat) (o : List Int) (t : List Nat), j + m ≤ o.length →
    (scan ls p k m j o t).1.length = o.length ∧ (∀ q, (scan ls p k m j o t).1.getD q 0 = if j ≤ q ∧ q < j + m ∧ o.getD q 0 < 0 ∧ shareB (el ls q) p = true then k else o.getD q 0) ∧
    (scan ls p k m j o t).2 = t ++ (List.range' j m).filter (fun q => decide (o.getD q 0 < 0 ∧ shareB (el ls q) p = true))
  | 0, j, o, t, _ => ⟨rfl, fun q => by rw [if_neg (by omega)]; rfl, by simp [scan]⟩
  | m + 1, j, o, t, h => by
    simp only [scan]
    by_cases c : (decide (o.getD j 0 < 0) && shareB (el ls j) p) = true
    · rw [if_pos c]
      rw [Bool.and_eq_true, decide_eq_true_eq] at c
      obtain ⟨h1, h2, h3⟩ := scan_ok p hk m (j + 1) (o.set j k) (t ++ [j]) (by rw [List.length_set]; omega)
      rw [List.length_set] at h1
      refine ⟨h1, fun q => ?_, ?_⟩
      · rw [h2, getD_set (by omega)]
        by_cases e : j = q
        · subst e
          rw [if_neg (by omega), if_pos rfl, if_pos ⟨Nat.le_refl _, by omega, c⟩]
        · rw [if_neg e]
          by_cases g : j + 1 ≤ q ∧ q < j + 1 + m ∧ o.getD q 0 < 0 ∧ shareB (el ls q) p = true
          · rw [if_pos g, if_pos ⟨by omega, by omega, g.2.2⟩]
          · rw [if_neg g, if_neg (fun g' => g ⟨by omega, by omega, g'.2.2⟩)]
      · rw [h3, List.range'_succ, List.filter_cons, if_pos (by simpa using c), List.append_assoc, List.singleton_append]
        congr 2
        apply List.filter_congr
        intro q hq
        have := (List.mem_range'_1.1 hq).1
        rw [getD_set (by omega), if_neg (by omega)]
    · rw [if_neg c]
      obtain ⟨h1, h2, h3⟩ := scan_ok p hk m (j + 1) o t (by omega)
      rw [Bool.and_eq_true, decide_eq_true_eq] at c
      refine ⟨h1, fun q => ?_, ?_⟩
      · rw [h2]
        by_cases e : j = q
        · subst e
          rw [if_neg (by omega), if_neg (fun g => c g.2.2)]
        · by_cases g : j + 1 ≤ q ∧ q < j + 1 + m ∧ o.getD q 0 < 0 ∧ shareB (el ls q) p = true
          · rw [if_pos g, if_pos ⟨by omega, by omega, g.2.2⟩]
          · rw [if_neg g, if_neg (fun g' => g ⟨by omega, by omega, g'.2.2⟩)]
      · rw [h3, List.range'_succ, List.filter_cons, if_neg (by simpa using c)]
structure Bfs (ls : List (List Int)) (k : Int) (i : Nat) (o0 o : List Int) (t : List Nat) : Prop where
  len : o.length = ls.length
  rest : ∀ q, o.getD q 0 ≠ k → o.getD q 0 = o0.getD q 0
  found : Found ls i (fun q => q < ls.length ∧ o.getD q 0 = k) t
  nodup : t.Nodup
def freeN (o : List Int) (n : Nat) : Nat := (List.range n).countP (fun q => decide (o.getD q 0 < 0))
theorem bfs_step {k : Int} (hk : 0 ≤ k) {i : Nat} {o0 o : List Int} {a : Nat} {t : List Nat} (h : Bfs ls k i o0 o (a :: t)) (h0 : ∀ q, Reach ls i q → o0.getD q 0 < 0) :
    Bfs ls k i o0 (scan ls (el ls a) k ls.length 0 o (a :: t)).1 (scan ls (el ls a) k ls.length 0 o (a :: t)).2.tail ∧
    (scan ls (el ls a) k ls.length 0 o (a :: t)).2.tail.length + freeN (scan ls (el ls a) k ls.length 0 o (a :: t)).1 ls.length + 1 ≤ (a :: t).length + freeN o ls.length := by
  obtain ⟨s1, s2, s3⟩ := scan_ok (ls := ls) (el ls a) hk ls.length 0 o (a :: t) (by rw [h.len]; omega)
  have ha := h.found.sub a (by simp)
  have hra := h.found.sound a ha
  have htl : (scan ls (el ls a) k ls.length 0 o (a :: t)).2.tail = t ++ (List.range' 0 ls.length).filter (fun q => decide (o.getD q 0 < 0 ∧ shareB (el ls q) (el ls a) = true)) := by
    rw [s3, List.cons_append, List.tail_cons]
  have new : ∀ q, q < ls.length → o.getD q 0 < 0 → shareB (el ls q) (el ls a) = true → Reach ls i q := fun q hq _ h2 => .step hra.1 hq (shareB_iff.1 h2).symm
  refine ⟨⟨by rw [s1, h.len], fun q hq => ?_, ⟨?_, fun q hq => ?_, fun q hq => ?_, fun q r hq hqt hr hadj => ?_⟩, ?_⟩, ?_⟩
  · rw [s2] at hq ⊢
    by_cases c : 0 ≤ q ∧ q < 0 + ls.length ∧ o.getD q 0 < 0 ∧ shareB (el ls q) (el ls a) = true
    · rw [if_pos c] at hq; exact absurd rfl hq
    · rw [if_neg c] at hq ⊢; exact h.rest q hq
  · have hi := h.found.here
    refine ⟨hi.1, ?_⟩
    rw [s2]
    split
    · rfl
    · exact hi.2
  · obtain ⟨h1, h2⟩ := hq
    rw [s2] at h2
    by_cases c : 0 ≤ q ∧ q < 0 + ls.length ∧ o.getD q 0 < 0 ∧ shareB (el ls q) (el ls a) = true
    · exact ⟨new q h1 c.2.2.1 c.2.2.2, h1⟩
    · rw [if_neg c] at h2
      exact h.found.sound q ⟨h1, h2⟩
  · rw [htl, List.mem_append] at hq
    rcases hq with hq | hq
    · obtain ⟨h1, h2⟩ := h.found.sub q (by simp [hq])
      refine ⟨h1, ?_⟩
      rw [s2]
      split
      · rfl
      · exact h2
    · rw [List.mem_filter, List.mem_range'_1, decide_eq_true_eq] at hq
      refine ⟨by omega, ?_⟩
      rw [s2, if_pos ⟨hq.1.1, hq.1.2, hq.2⟩]
  · obtain ⟨h1, h2⟩ := hq
    refine ⟨hr, ?_⟩
    rw [htl, List.mem_append, not_or] at hqt
    rw [s2] at h2 ⊢
    by_cases c : 0 ≤ q ∧ q < 0 + ls.length ∧ o.getD q 0 < 0 ∧ shareB (el ls q) (el ls a) = true
    · exact absurd (List.mem_filter.2 ⟨List.mem_range'_1.2 ⟨c.1, c.2.1⟩, decide_eq_true c.2.2⟩) hqt.2
    · rw [if_neg c] at h2
      by_cases e : q = a
      · subst e
        by_cases g : o.getD r 0 < 0
        · rw [if_pos ⟨Nat.zero_le _, by omega, g, shareB_iff.2 hadj.symm⟩]
        · rw [if_neg (fun g' => g g'.2.2.1)]
          apply Classical.byContradiction
          intro hne
          have := h.rest r hne
          have h4 := h0 r (.step hra.1 hr hadj)
          omega
      · have := h.found.shut q r ⟨h1, h2⟩ (by simp [e, hqt.1]) hr hadj
        split
        · rfl
        · exact this.2
  · rw [htl]
    rw [List.nodup_append]
    have hn := List.nodup_cons.1 h.nodup
    refine ⟨hn.2, (List.nodup_range' (step := 1)).filter _, fun x hx y hy e => ?_⟩
    subst e
    rw [List.mem_filter, decide_eq_true_eq] at hy
    have := (h.found.sub x (by simp [hx])).2
    omega
  · rw [htl, List.length_append, List.length_cons]
    have hcnt : freeN (scan ls (el ls a) k ls.length 0 o (a :: t)).1 ls.length + ((List.range' 0 ls.length).filter (fun q => decide (o.getD q 0 < 0 ∧ shareB (el ls q) (el ls a) = true))).length = freeN o ls.length := by
      unfold freeN
      rw [← List.countP_eq_length_filter, ← List.range_eq_range']
      have : ∀ l : List Nat, (∀ q ∈ l, q < ls.length) → l.countP (fun q => decide ((scan ls (el ls a) k ls.length 0 o (a :: t)).1.getD q 0 < 0)) + l.countP (fun q => decide (o.getD q 0 < 0 ∧ shareB (el ls q) (el ls a) = true)) = l.countP (fun q => decide (o.getD q 0 < 0)) := fun l => by
        induction l with
        | nil => simp
        | cons q l ih =>
          intro hl
          have ih := ih (fun r hr => hl r (by simp [hr]))
          have hq := hl q (by simp)
          rw [List.countP_cons, List.countP_cons, List.countP_cons]
          by_cases c : o.getD q 0 < 0 ∧ shareB (el ls q) (el ls a) = true
          · have e1 : (scan ls (el ls a) k ls.length 0 o (a :: t)).1.getD q 0 = k := by rw [s2, if_pos ⟨Nat.zero_le _, by omega, c⟩]
            rw [e1, decide_eq_true c, decide_eq_true c.1, decide_eq_false (show ¬ k < 0 by omega)]
            simp only [if_true, Bool.false_eq_true, if_false]
            omega
          · have e1 : (scan ls (el ls a) k ls.length 0 o (a :: t)).1.getD q 0 = o.getD q 0 := by rw [s2, if_neg (fun g => c g.2.2)]
            rw [e1, decide_eq_false c]
            simp only [Bool.false_eq_true, if_false]
            omega
      exact this _ (fun q hq => List.mem_range.1 hq)
    omega
theorem bfs_ok {k : Int} (hk : 0 ≤ k) {i : Nat} {o0 : List Int} (h0 : ∀ q, Reach ls i q → o0.getD q 0 < 0) : ∀ (f : Nat) (o : List Int) (t : List Nat), Bfs ls k i o0 o t → t.length + freeN o ls.length < f → Bfs ls k i o0 (bfs ls k f o t) []
  | 0, _, _, _, hf => by omega
  | f + 1, o, [], h, _ => by simpa [bfs] using h
  | f + 1, o, a :: t, h, hf => by
    obtain ⟨h1, h2⟩ := bfs_step hk h h0
    simp only [bfs]
    exact bfs_ok hk h0 f _ _ h1 (by omega)
structure Outer (ls : List (List Int)) (i : Nat) (o : List Int) (c : Nat) : Prop where
  len : o.length = ls.length
  cnt : c = ((heads ls).filter (fun h => decide (h < i))).length
  told : ∀ (a h : Nat), ((heads ls).filter (fun h => decide (h < i)))[a]? = some h → ∀ q, q < ls.length → (o.getD q 0 = (a : Int) ↔ Reach ls h q)
  free : ∀ q, q < ls.length → (∀ h, h ∈ heads ls → h < i → ¬ Reach ls h q) → o.getD q 0 < 0
theorem heads_sorted : (heads ls).Pairwise (· < ·) := List.pairwise_lt_range.filter _
theorem filter_succ {l : List Nat} (hs : l.Pairwise (· < ·)) (i : Nat) : l.filter (fun h => decide (h < i + 1)) = l.filter (fun h => decide (h < i)) ++ (if i ∈ l then [i] else []) := by
  induction l with
  | nil => simp
  | cons x l ih =>
    rw [List.pairwise_cons] at hs
    have ih := ih hs.2
    rw [List.filter_cons, List.filter_cons]
    rcases Nat.lt_trichotomy x i with h | h | h
    · rw [if_pos (by simpa using by omega), if_pos (by simpa using h), ih, List.cons_append]
      congr 2
      have : (i ∈ x :: l) ↔ i ∈ l := by rw [List.mem_cons]; exact ⟨fun e => e.resolve_left (by omega), .inr⟩
      simp [this]
    · subst h
      have hn : l.filter (fun h => decide (h < x)) = [] := by
        rw [List.filter_eq_nil_iff]
        intro y hy
        have := hs.1 y hy
        simp; omega
      have hn2 : l.filter (fun h => decide (h < x + 1)) = [] := by
        rw [List.filter_eq_nil_iff]
        intro y hy
        have := hs.1 y hy
        simp; omega
      rw [if_pos (by simp), if_neg (by simp), hn, hn2, if_pos (by simp)]
      rfl
    · have hn : ∀ m, m ≤ i + 1 → l.filter (fun h => decide (h < m)) = [] := fun m hm => by
        rw [List.filter_eq_nil_iff]
        intro y hy
        have := hs.1 y hy
        simp; omega
      have : ¬ i ∈ x :: l := fun e => by
        rcases List.mem_cons.1 e with e | e
        · omega
        · have := hs.1 i e; omega
      rw [if_neg (by simpa using by omega), if_neg (by simpa using by omega), hn _ (Nat.le_refl _), hn _ (by omega), if_neg this]
      rfl
theorem outer_ok : ∀ (m i : Nat) (o : List Int) (c : Nat), i + m = ls.length → Outer ls i o c → Outer ls ls.length (outer ls m i o c).1 (outer ls m i o c).2
  | 0, i, o, c, h, H => by
    have : i = ls.length := by omega
    subst this
    exact H
  | m + 1, i, o, c, h, H => by
    simp only [outer]
    have hnth : ∀ (a hh : Nat), ((heads ls).filter (fun h => decide (h < i)))[a]? = some hh → hh ∈ heads ls ∧ hh < i := fun a hh e => by
      have := List.mem_of_getElem? e
      rw [List.mem_filter, decide_eq_true_eq] at this
      exact this
    by_cases g : 0 ≤ o.getD i 0
    · rw [if_pos g]
      have hnh : ¬ i ∈ heads ls := fun hi => by
        have : o.getD i 0 < 0 := H.free i (by omega) (fun h2 hh hlt hr => by
          have := head_uniq hi hh (.refl i) hr
          omega)
        omega
      have hf : (heads ls).filter (fun h => decide (h < i + 1)) = (heads ls).filter (fun h => decide (h < i)) := by
        rw [filter_succ heads_sorted, if_neg hnh, List.append_nil]
      refine outer_ok m (i + 1) o c (by omega) ⟨H.len, by rw [hf]; exact H.cnt, by rw [hf]; exact H.told, fun q hq hno => H.free q hq (fun h2 hh hlt => hno h2 hh (by omega))⟩
    · rw [if_neg g]
      have hi : i ∈ heads ls := by
        obtain ⟨h2, hh, hr⟩ := head_of (ls := ls) i i (Nat.le_refl _) (by omega)
        by_cases e : h2 = i
        · exact e ▸ hh
        · have hlt : h2 < i := by have := (mem_heads.1 hh).2 h2 (.refl _); have := (mem_heads.1 hh).2 i hr; omega
          have hm : h2 ∈ (heads ls).filter (fun h => decide (h < i)) := List.mem_filter.2 ⟨hh, by simpa using hlt⟩
          obtain ⟨a, ha⟩ := List.getElem?_of_mem hm
          have := (H.told a h2 ha i (by omega)).2 hr
          omega
      have h0 : ∀ q, Reach ls i q → o.getD q 0 < 0 := fun q hq => H.free q (hq.lt (by omega)) (fun h2 hh hlt hr => by
        have := head_uniq hi hh hq hr
        omega)
      have hset : ∀ q, (o.set i (c : Int)).getD q 0 = if i = q then (c : Int) else o.getD q 0 := fun q => getD_set (by rw [H.len]; omega)
      have hlt : ∀ q, q < ls.length → o.getD q 0 ≠ (c : Int) := fun q hq e => by
        by_cases r : ∀ h2, h2 ∈ heads ls → h2 < i → ¬ Reach ls h2 q
        · have := H.free q hq r; omega
        · simp only [Classical.not_forall, Classical.not_not] at r
          obtain ⟨h2, hh, hlt, hr⟩ := r
          have hm : h2 ∈ (heads ls).filter (fun h => decide (h < i)) := List.mem_filter.2 ⟨hh, by simpa using hlt⟩
          obtain ⟨a, ha⟩ := List.getElem?_of_mem hm
          have h3 := (H.told a h2 ha q hq).2 hr
          have h4 : a < c := by
            rw [H.cnt]
            exact (List.getElem?_eq_some_iff.1 ha).1
          omega
      have hB : Bfs ls (c : Int) i o (o.set i (c : Int)) [i] := by
        refine ⟨by rw [List.length_set, H.len], fun q hq => ?_, ⟨⟨by omega, by rw [hset, if_pos rfl]⟩, fun q hq => ?_, fun q hq => ?_, fun q r hq hqt => ?_⟩, by simp⟩
        · rw [hset] at hq ⊢
          by_cases e : i = q
          · rw [if_pos e] at hq; exact absurd rfl hq
          · rw [if_neg e]
        · obtain ⟨h1, h2⟩ := hq
          rw [hset] at h2
          by_cases e : i = q
          · subst e; exact ⟨.refl _, h1⟩
          · rw [if_neg e] at h2
            exact absurd h2 (hlt q h1)
        · rw [List.mem_singleton] at hq
          subst hq
          exact ⟨by omega, by rw [hset, if_pos rfl]⟩
        · obtain ⟨h1, h2⟩ := hq
          rw [hset, if_neg (fun e => hqt (by simp [e]))] at h2
          exact absurd h2 (hlt q h1)
      have hfree : freeN (o.set i (c : Int)) ls.length ≤ ls.length - 1 := by
        unfold freeN
        have : (List.range ls.length).countP (fun q => decide ((o.set i (c : Int)).getD q 0 < 0)) + 1 ≤ (List.range ls.length).countP (fun _ => true) := countP_lt (fun _ _ _ => rfl) ⟨i, List.mem_range.2 (by omega), rfl, by
          rw [hset, if_pos rfl]
          exact decide_eq_false (by omega)⟩
        rw [List.countP_true, List.length_range] at this
        omega
      obtain ⟨b1, b2, b3, _⟩ := bfs_ok (by omega) h0 (ls.length + 1) _ [i] hB (by simp; omega)
      have hall := b3.all
      generalize bfs ls (c : Int) (ls.length + 1) (o.set i (c : Int)) [i] = o' at b1 b2 hall
      have hf : (heads ls).filter (fun h => decide (h < i + 1)) = (heads ls).filter (fun h => decide (h < i)) ++ [i] := by
        rw [filter_succ heads_sorted, if_pos hi]
      refine outer_ok m (i + 1) o' (c + 1) (by omega) ⟨b1, by rw [hf, List.length_append, ← H.cnt]; rfl, fun a h2 ha q hq => ?_, fun q hq hno => ?_⟩
      · rw [hf, List.getElem?_append] at ha
        have hc := H.cnt
        by_cases l : a < ((heads ls).filter (fun h => decide (h < i))).length
        · rw [if_pos l] at ha
          rw [← H.told a h2 ha q hq]
          obtain ⟨hh, hlt2⟩ := hnth a h2 ha
          by_cases e : o'.getD q 0 = (c : Int)
          · have hr := (hall q).1 ⟨hq, e⟩
            have := h0 q hr
            constructor
            · intro e2; omega
            · intro e2; omega
          · rw [b2 q e]
        · rw [if_neg l] at ha
          have hac : a = c := by
            have := (List.getElem?_eq_some_iff.1 ha).1
            simp at this
            omega
          rw [show a - ((heads ls).filter (fun h => decide (h < i))).length = 0 from by omega] at ha
          have h2i : h2 = i := by simpa using ha.symm
          subst h2i
          rw [hac]
          exact ⟨fun e => (hall q).1 ⟨hq, e⟩, fun e => ((hall q).2 e).2⟩
      · have hne : o'.getD q 0 ≠ (c : Int) := fun e => hno i hi (by omega) ((hall q).1 ⟨hq, e⟩)
        rw [b2 q hne]
        exact H.free q hq (fun h2 hh hlt2 => hno h2 hh (by omega))
theorem groupsG_eq : groupsG ls = groupsC ls := by
  have H : Outer ls 0 (List.replicate ls.length (-1)) 0 := by
    have hn : (heads ls).filter (fun h => decide (h < 0)) = [] := by
      rw [List.filter_eq_nil_iff]
      intro y _; simp
    refine ⟨List.length_replicate, by rw [hn]; rfl, fun a h e => by rw [hn] at e; simp at e, fun q hq _ => ?_⟩
    rw [List.getD_eq_getElem?_getD, List.getElem?_replicate, if_pos hq]
    decide
  have F := outer_ok ls.length 0 _ 0 (by omega) H
  unfold groupsG groupsC
  generalize (outer ls ls.length 0 (List.replicate ls.length (-1)) 0) = r at F
  have hf : (heads ls).filter (fun h => decide (h < ls.length)) = heads ls := by
    rw [List.filter_eq_self]
    intro h hh
    simpa using (mem_heads.1 hh).1
  obtain ⟨_, f2, f3, _⟩ := F
  rw [hf] at f2 f3
  apply List.ext_getElem
  · rw [List.length_map, List.length_map, List.length_range, f2]
  · intro a h1 h2
    rw [List.length_map] at h2
    rw [List.getElem_map, List.getElem_map, List.getElem_range]
    unfold comp
    apply List.filter_congr
    intro q hq
    rw [decide_eq_decide]
    exact f3 a _ (List.getElem?_eq_getElem h2) q (List.mem_range.1 hq)
end
end Go.Proofs.YtephjmmkggcmeaaQ.CK
namespace Go.Proofs.YtephjmmkggcmeaaQ
open Go Go.RowKit Go.Proofs.YtephjmmkggcmeaaW.PrintWords Go.Proofs.YtephjmmkggcmeaaW.PrintMore Go.Proofs.YtephjmmkggcmeaaGp Go.Proofs.Ytephjmmkggcmeaa.PP
open CK (el)

theorem slices_Index_int_l0 (x0 : List Int) (a : Int) (hl : (x0.length : Int) ≤ 9223372036854775806) : ∀ (t pre : List Int), x0 = pre ++ t →
    ∃ r, Ev (fun k => slices_Index_int_int.l0 k x0 a (x0.length : Int) (pre.length : Int)) r ∧ decide (r ≥ 0) = t.contains a := by
  intro t
  induction t with
  | nil =>
    intro pre h
    refine ⟨-1, ev_succ ?_, by simp⟩
    simp only [slices_Index_int_int.l0]
    exact ev_neg (by rw [h]; exact not_lt_end) (Ev.now _)
  | cons x t ih =>
    intro pre h
    have hm : ((pre.length : Nat) : Int) < (x0.length : Int) := by rw [h]; exact lt_mid
    have hg : rd x0 (pre.length : Int) = x := by rw [h]; exact rd_mid
    by_cases c : a = x
    · refine ⟨(pre.length : Int), ev_succ ?_, by simp [c]⟩
      simp only [slices_Index_int_int.l0, hg]
      exact ev_pos hm (ev_pos (by omega) (ev_pos hm (ev_pos c (Ev.now _))))
    · obtain ⟨r, h1, h2⟩ := ih (pre ++ [x]) (by rw [h]; simp)
      rw [len_one] at h1
      refine ⟨r, ev_succ ?_, by rw [h2]; simp [c]⟩
      simp only [slices_Index_int_int.l0, hg]
      refine ev_pos hm (ev_pos (by omega) (ev_pos hm (ev_neg c ?_)))
      rw [winc (by omega)]
      exact h1
theorem slices_Contains_int_f (l : List Int) (a : Int) (hl : (l.length : Int) ≤ 9223372036854775806) : Ev (fun k => slices_Contains_int_int.f k l a) (l.contains a) := by
  obtain ⟨r, h1, h2⟩ := slices_Index_int_l0 l a hl l [] rfl
  unfold slices_Contains_int_int.f slices_Index_int_int.f
  refine ev_bind _ h1 (ev_some h2)
def zs (l : List Nat) : List Int := l.map fun (n : Nat) => (n : Int)
theorem zs_len (l : List Nat) : (zs l).length = l.length := by simp [zs]
theorem zs_snoc (l : List Nat) (n : Nat) : zs (l ++ [n]) = zs l ++ [(n : Int)] := by simp [zs]
theorem zs_tail (l : List Nat) : (zs l).drop 1 = zs l.tail := by cases l <;> simp [zs]
theorem zs_hd (a : Nat) (t : List Nat) : rd (zs (a :: t)) 0 = (a : Int) := by simp [zs, rd]
theorem zs_mem {l : List Nat} {n : Nat} : (n : Int) ∈ zs l ↔ n ∈ l := by
  unfold zs
  rw [List.mem_map]
  constructor
  · rintro ⟨a, h, e⟩
    have : a = n := by omega
    exact this ▸ h
  · intro h; exact ⟨n, h, rfl⟩
theorem zs_contains (l : List Nat) (n : Nat) : (zs l).contains (n : Int) = decide (n ∈ l) := by
  rw [Bool.eq_iff_iff, List.contains_iff_mem, zs_mem, decide_eq_true_eq]
theorem zs_get (l : List Nat) {i : Nat} (h : i < l.length) : rd (zs l) (i : Int) = (l[i] : Int) := by
  rw [rd_get (by rw [zs_len]; exact h)]
  simp [zs]
theorem rd_nat (l : List Int) (q : Nat) : rd l (q : Int) = l.getD q 0 := by simp [rd]
theorem rdll_nat (L : List (List Int)) (q : Nat) : rd_L3 L (q : Int) = el L q := by
  unfold rd_L3 el
  rw [Int.toNat_natCast]
theorem el_get {L : List (List Int)} {q : Nat} (h : q < L.length) : el L q = L[q] := by
  unfold el
  rw [List.getD_eq_getElem?_getD, List.getElem?_eq_getElem h]
  rfl
theorem el_len {L : List (List Int)} (hL : ∀ e ∈ L, e.length ≤ 1000) (q : Nat) : (el L q).length ≤ 1000 := by
  unfold el
  rw [List.getD_eq_getElem?_getD]
  cases h : L[q]? with
  | none => simp
  | some x => exact hL x (List.mem_of_getElem? h)
def prs (a n : Int) (l : List ByteArray) : List (List Int) := l.map fun s => [placeV a 0 s n, placeV a 1 s n]
theorem prs_len (a n : Int) (l : List ByteArray) : (prs a n l).length = l.length := by simp [prs]
theorem prs_el {a n : Int} {l : List ByteArray} {i : Nat} (h : i < l.length) : el (prs a n l) i = [placeV a 0 l[i] n, placeV a 1 l[i] n] := by
  rw [el_get (by rw [prs_len]; exact h)]
  simp [prs]
theorem prs_pairs (a n : Int) (l : List ByteArray) : CK.Pairs (prs a n l) := fun i hi => ⟨_, _, prs_el (by rwa [prs_len] at hi)⟩
theorem prs_two {a n : Int} {l : List ByteArray} : ∀ e ∈ prs a n l, e.length ≤ 1000 := by
  intro e he
  obtain ⟨s, _, rfl⟩ := List.mem_map.1 he
  simp
def keyedC (a : Int) (l : List ByteArray) (n : Int) : Bool := decide (0 ≤ a ∧ a ≤ 9999) && areKeysB l && decide (1 ≤ n ∧ n ≤ 64)
theorem keyedC_ok {a n : Int} {l : List ByteArray} (h : keyedC a l n = true) : (0 ≤ a ∧ a ≤ 9999) ∧ areKeysB l = true ∧ 1 ≤ n ∧ n ≤ 64 := by
  unfold keyedC at h
  simp only [Bool.and_eq_true, decide_eq_true_eq] at h
  exact ⟨h.1.1, h.1.2, h.2⟩
theorem keys_small {l : List ByteArray} (h : areKeysB l = true) : l.length ≤ 40 ∧ ∀ s ∈ l, s.size ≤ 1000 :=
  ⟨areKeysB_len h, fun s hs => by have := isKeyB_size (areKeysB_all h s hs); omega⟩
section
variable {a n : Int}
theorem spec_cuKeyed_f (a n : Int) {l : List ByteArray} (hl : l.length ≤ 1000) (hz : ∀ s ∈ l, s.size ≤ 1000) : Ev (fun k => spec_cuKeyed.f k a l n) (keyedC a l n) := by
  have hk := spec_biKeys_f l (by omega) (fun s hs => by have := hz s hs; omega)
  unfold spec_cuKeyed.f spec_cuSize.f keyedC
  simp only [spec_in, Option.bind_some]
  by_cases c : 0 ≤ a ∧ a ≤ 9999
  · rw [decide_eq_true c, Bool.true_and, if_pos rfl]
    simp only [Option.bind_some]
    by_cases d : 1 ≤ n ∧ n ≤ 64
    · rw [decide_eq_true d, Bool.and_true]
      exact ev_pos rfl (ev_bind _ hk (Ev.now _))
    · rw [decide_eq_false d, Bool.and_false]
      exact ev_neg (by simp) (Ev.now _)
  · rw [decide_eq_false c, Bool.false_and, Bool.false_and, if_neg (by simp)]
    simp only [Option.bind_some]
    exact ev_neg (by simp) (Ev.now _)
theorem spec_cuCells_f (ha : 0 ≤ a) (ha' : a ≤ 9999) (s : ByteArray) (hz : s.size ≤ 1000) : Ev (fun k => spec_cuCells.f k a s n) [placeV a 0 s n, placeV a 1 s n] := by
  unfold spec_cuCells.f
  exact ev_bind _ (spec_biPlace_f a 0 s n (by omega) ha (by omega) (by omega) (by omega)) (ev_bind _ (spec_biPlace_f a 1 s n (by omega) ha (by omega) (by omega) (by omega)) (Ev.now _))
theorem impl_cellsOf_f (ha : 0 ≤ a) (ha' : a ≤ 9999) (s : ByteArray) (hz : s.size ≤ 1000) : Ev (fun k => impl_cellsOf.f k a s n) (placeV a 0 s n, placeV a 1 s n) := by
  unfold impl_cellsOf.f
  exact ev_bind _ (impl_place_f a 0 s n (by omega) ha (by omega) (by omega) (by omega)) (ev_bind _ (impl_place_f a 1 s n (by omega) ha (by omega) (by omega) (by omega)) (Ev.now _))
theorem spec_cuPairs_f (ha : 0 ≤ a) (ha' : a ≤ 9999) {l : List ByteArray} (hl : l.length ≤ 1000) (hz : ∀ s ∈ l, s.size ≤ 1000) : Ev (fun k => spec_cuPairs.f k a l n) (prs a n l) := by
  have H : ∀ (t pre : List ByteArray), l = pre ++ t → Ev (fun k => spec_cuPairs.l0 k a n (prs a n pre) l (l.length : Int) (pre.length : Int)) (prs a n l) := by
    intro t
    induction t with
    | nil =>
      intro pre h
      have hp : l = pre := by rw [h, List.append_nil]
      subst hp
      refine ev_succ ?_
      simp only [spec_cuPairs.l0]
      exact ev_neg (by omega) (Ev.now _)
    | cons x t ih =>
      intro pre h
      have hm : ((pre.length : Nat) : Int) < (l.length : Int) := by rw [h]; exact lt_mid
      have hg : rdOf ByteArray.empty l (pre.length : Int) = x := by rw [h]; exact rdOf_mid
      refine ev_succ ?_
      simp only [spec_cuPairs.l0, hg]
      refine ev_pos hm (ev_pos (by omega) (ev_pos hm (ev_bind _ (spec_cuCells_f ha ha' x (hz x (by rw [h]; simp))) (ev_pos (by rw [prs_len]; omega) ?_))))
      rw [winc (by omega)]
      have := ih (pre ++ [x]) (by rw [h]; simp)
      rw [len_one] at this
      unfold prs at this ⊢
      rw [List.map_append, List.map_singleton] at this
      exact this
  unfold spec_cuPairs.f
  exact H l [] rfl
theorem impl_pairs_go (ha : 0 ≤ a) (ha' : a ≤ 9999) {l : List ByteArray} (hl : l.length ≤ 1000) (hz : ∀ s ∈ l, s.size ≤ 1000) : Ev (fun k => impl_pairs.l0 k a n [] l (l.length : Int) 0) (prs a n l, true) := by
  have H : ∀ (t pre : List ByteArray), l = pre ++ t → Ev (fun k => impl_pairs.l0 k a n (prs a n pre) l (l.length : Int) (pre.length : Int)) (prs a n l, true) := by
    intro t
    induction t with
    | nil =>
      intro pre h
      have hp : l = pre := by rw [h, List.append_nil]
      subst hp
      refine ev_succ ?_
      simp only [impl_pairs.l0]
      exact ev_neg (by omega) (Ev.now _)
    | cons x t ih =>
      intro pre h
      have hm : ((pre.length : Nat) : Int) < (l.length : Int) := by rw [h]; exact lt_mid
      have hg : rdOf ByteArray.empty l (pre.length : Int) = x := by rw [h]; exact rdOf_mid
      refine ev_succ ?_
      simp only [impl_pairs.l0, hg]
      refine ev_pos hm (ev_pos (by omega) (ev_pos hm (ev_bind _ (impl_cellsOf_f ha ha' x (hz x (by rw [h]; simp))) (ev_pos (by rw [prs_len]; omega) ?_))))
      rw [winc (by omega)]
      have := ih (pre ++ [x]) (by rw [h]; simp)
      rw [len_one] at this
      unfold prs at this ⊢
      rw [List.map_append, List.map_singleton] at this
      exact this
  exact H l [] rfl
theorem impl_pairs_f (a n : Int) {l : List ByteArray} (hl : l.length ≤ 1000) (hz : ∀ s ∈ l, s.size ≤ 1000) : Ev (fun k => impl_pairs.f k a l n) (if keyedC a l n = true then (prs a n l, true) else ([], false)) := by
  have hk := impl_AreKeys_f l (by omega) (fun s hs => by have := hz s hs; omega)
  have j1 : Ev (fun k => impl_pairs.j0 k a l n true) ([], false) := ev_succ (by simp only [impl_pairs.j0]; exact ev_pos (by trivial) (Ev.now _))
  unfold impl_pairs.f impl_isSeed.f impl_cellsOk.f keyedC
  simp only [impl_in, Option.bind_some]
  by_cases c : 0 ≤ a ∧ a ≤ 9999
  · rw [decide_eq_true c, Bool.true_and]
    refine ev_pos rfl (ev_bind _ hk ?_)
    by_cases e : areKeysB l = true
    · rw [e, Bool.true_and]
      refine ev_pos rfl ?_
      by_cases d : 1 ≤ n ∧ n ≤ 64
      · rw [decide_eq_true d, if_pos rfl]
        refine ev_succ ?_
        simp only [impl_pairs.j0]
        exact ev_neg (by simp) (impl_pairs_go c.1 c.2 hl hz)
      · rw [decide_eq_false d, if_neg (by simp)]
        exact j1
    · rw [Bool.eq_false_iff.2 e, Bool.false_and, if_neg (by simp)]
      exact ev_neg (by simp) j1
  · rw [decide_eq_false c, Bool.false_and, Bool.false_and, if_neg (by simp)]
    exact ev_neg (by simp) j1
end
theorem cells_ok {s : List Int} (hs : Bys s) {p : Int} (sd : Int) (h0 : 0 ≤ p) (h1 : p ≤ 100000000000000000) : ∃ v p' sd', spec_l1Cur_cells.f s p sd = some (v, p', sd') ∧ (-1 ≤ v ∧ v ≤ 65) ∧ 0 ≤ p' ∧ p' ≤ p + 10 := by
  obtain ⟨b, p1, sd1, e1, q0, q1⟩ := one_ok hs sd 10 h0 (by omega)
  unfold spec_l1Cur_cells.f
  rw [e1, Option.bind_some]
  by_cases c : b = true
  · obtain ⟨v, p2, sd2, e2, hv, r0, r1⟩ := among_ok hs sd1 (l := [(-1), 0, 64, 65]) (by simp) q0 (by omega)
    rw [if_pos c, e2]
    refine ⟨v, p2, sd2, rfl, ?_, r0, by omega⟩
    simp only [List.mem_cons, List.not_mem_nil, or_false] at hv
    omega
  · obtain ⟨v, p2, sd2, e2, hv, r0, r1⟩ := among_ok hs sd1 (l := [4, 8, 16, 64]) (by simp) q0 (by omega)
    obtain ⟨u, p3, sd3, e3, hu, s0, s1⟩ := pick_ok hs sd2 (n := v) r0 (by omega)
    rw [if_neg c, e2]
    simp only [Option.bind_some, e3]
    simp only [List.mem_cons, List.not_mem_nil, or_false] at hv
    refine ⟨_, p3, sd3, rfl, ?_, s0, by omega⟩
    rw [w64 (by omega) (by omega)]
    omega
theorem keyed_ok {s : List Int} (hs : Bys s) {p : Int} (sd : Int) (h0 : 0 ≤ p) (h1 : p ≤ 10000000000000000) :
    ∃ a l n p' sd', Ev (fun k => spec_l1Cur_keyed.f k s p sd) (a, l, n, p', sd') ∧ (-1 ≤ a ∧ a ≤ 10000) ∧ Kys 42 l ∧ (-1 ≤ n ∧ n ≤ 65) ∧ 0 ≤ p' ∧ p' ≤ p + 700 := by
  obtain ⟨a, p1, sd1, e1, ha, q0, q1⟩ := seed9_ok hs sd h0 (by omega)
  obtain ⟨v, p2, sd2, e2, hv, r0, r1⟩ := among_ok hs sd1 (l := [3, 5, 8, 12]) (by simp) q0 (by omega)
  simp only [List.mem_cons, List.not_mem_nil, or_false] at hv
  obtain ⟨l, p3, sd3, e3, hk, s0, s1⟩ := anyKeys_ok hs sd2 (n := v.toNat) (by omega) r0 (by omega)
  obtain ⟨n, p4, sd4, e4, hn, t0, t1⟩ := cells_ok hs sd3 s0 (by omega)
  obtain ⟨b, p5, sd5, e5, u0, u1⟩ := one_ok hs sd4 2 t0 (by omega)
  obtain ⟨m, p6, sd6, e6, hm, v0, v1⟩ := pick_ok hs sd5 (n := 4) u0 (by omega)
  rw [Int.toNat_of_nonneg (by omega)] at e3
  unfold spec_l1Cur_keyed.f
  simp only [e1, e2, Option.bind_some]
  by_cases c : b = true
  · refine ⟨a, l, wrap64 ((l.length : Int) + m), p6, sd6, ev_bind _ e3 ?_, ha, hk, ?_, v0, by omega⟩
    · simp only [e4, e5, Option.bind_some]
      refine ev_pos c ?_
      rw [e6]
      exact Ev.now _
    · have := hk.1
      rw [w64 (by omega) (by omega)]
      omega
  · refine ⟨a, l, n, p5, sd5, ev_bind _ e3 ?_, ha, hk, hn, u0, by omega⟩
    simp only [e4, e5, Option.bind_some]
    exact ev_neg c (Ev.now _)
end Go.Proofs.YtephjmmkggcmeaaQ
namespace Go.Proofs.YtephjmmkggcmeaaQ
open Go Go.RowKit Go.Proofs.YtephjmmkggcmeaaW.PrintWords Go.Proofs.YtephjmmkggcmeaaW.PrintMore Go.Proofs.YtephjmmkggcmeaaGp Go.Proofs.Ytephjmmkggcmeaa.PP
open CK (el shareB scan bfs outer groupsG groupsC freeN)

section
variable {L : List (List Int)}
theorem idx_val (hL : ∀ e ∈ L, e.length ≤ 1000) {a : Nat} {tt : List Nat} (h1 : a < L.length) (x0 : List Int) (hx : x0.length ≤ 1000) : ∀ (t pre : List Int), x0 = pre ++ t →
    ∃ r : Int, Ev (fun k => slices_IndexFunc_int_int_at_impl_groups_1.l0 k x0 (x0.length : Int) (pre.length : Int) L (zs (a :: tt))) r ∧ decide (r ≥ 0) = shareB t (el L a) := by
  have hlen := el_len hL a
  have hz : (0 : Int) < ((zs (a :: tt)).length : Int) := by rw [zs_len, List.length_cons]; omega
  intro t
  induction t with
  | nil =>
    intro pre h
    refine ⟨-1, ev_succ ?_, rfl⟩
    simp only [slices_IndexFunc_int_int_at_impl_groups_1.l0]
    exact ev_neg (by rw [h]; exact not_lt_end) (Ev.now _)
  | cons x t ih =>
    intro pre h
    have hm : ((pre.length : Nat) : Int) < (x0.length : Int) := by rw [h]; exact lt_mid
    have hxr : rd x0 (pre.length : Int) = x := by rw [h]; exact rd_mid
    have hc := slices_Contains_int_f (el L a) x (by omega)
    have e1 : Ev (fun k => impl_groups_1.f k x L (zs (a :: tt))) ((el L a).contains x) := by
      unfold impl_groups_1.f
      simp only [zs_hd, rdll_nat]
      exact ev_pos (by omega) (ev_pos (by omega) (ev_pos (by omega) (ev_bind _ hc (Ev.now _))))
    by_cases c : (el L a).contains x = true
    · refine ⟨(pre.length : Int), ev_succ ?_, ?_⟩
      · simp only [slices_IndexFunc_int_int_at_impl_groups_1.l0, hxr]
        exact ev_pos hm (ev_pos (by omega) (ev_pos hm (ev_bind _ e1 (ev_pos c (Ev.now _)))))
      · unfold shareB
        rw [List.any_cons, c, Bool.true_or]
        exact decide_eq_true (by omega)
    · obtain ⟨r, hr, hd⟩ := ih (pre ++ [x]) (by rw [h]; simp)
      rw [len_one] at hr
      refine ⟨r, ev_succ ?_, ?_⟩
      · simp only [slices_IndexFunc_int_int_at_impl_groups_1.l0, hxr]
        rw [winc (by omega)]
        exact ev_pos hm (ev_pos (by omega) (ev_pos hm (ev_bind _ e1 (ev_neg c hr))))
      · rw [hd]
        unfold shareB
        rw [List.any_cons, Bool.eq_false_iff.2 c, Bool.false_or]
theorem cont_val (hL : ∀ e ∈ L, e.length ≤ 1000) {a : Nat} {tt : List Nat} (h1 : a < L.length) (x0 : List Int) (hx : x0.length ≤ 1000) : Ev (fun k => slices_ContainsFunc_int_int_at_impl_groups_1.f k x0 L (zs (a :: tt))) (shareB x0 (el L a)) := by
  obtain ⟨r, hr, hd⟩ := idx_val hL (tt := tt) h1 x0 hx x0 [] rfl
  rw [← hd]
  unfold slices_ContainsFunc_int_int_at_impl_groups_1.f slices_IndexFunc_int_int_at_impl_groups_1.f
  exact ev_bind _ hr (Ev.now _)
theorem scan_len {k : Int} (p : List Int) : ∀ (m j : Nat) (o : List Int) (t : List Nat), (scan L p k m j o t).1.length = o.length
  | 0, _, _, _ => rfl
  | m + 1, j, o, t => by
    rw [scan]
    split
    · rw [scan_len p m]; simp
    · rw [scan_len p m]
theorem scan_mem {k : Int} (p : List Int) {n : Nat} : ∀ (m j : Nat) (o : List Int) (t : List Nat), j + m ≤ n → (∀ x ∈ t, x < n) → ∀ x ∈ (scan L p k m j o t).2, x < n
  | 0, _, _, _, _, h => h
  | m + 1, j, o, t, e, h => by
    rw [scan]
    split
    · exact scan_mem p m (j + 1) _ _ (by omega) (fun x hx => by
        rcases List.mem_append.1 hx with hx | hx
        · exact h x hx
        · rw [List.mem_singleton.1 hx]; omega)
    · exact scan_mem p m (j + 1) _ _ (by omega) h
theorem free_set {o : List Int} {j n : Nat} {k : Int} (hk : 0 ≤ k) (hj : j < n) (hl : o.length = n) (h : o.getD j 0 < 0) : freeN (o.set j k) n + 1 = freeN o n := by
  have := CK.countP_update (n := n) (fun q => decide ((o.set j k).getD q 0 < 0)) (fun q => decide (o.getD q 0 < 0)) (d := j) (fun i hi => by rw [CK.getD_set (by omega), if_neg (Ne.symm hi)]) hj
  rw [if_pos (by simpa using h), if_neg (by simp only [decide_eq_true_eq]; rw [CK.getD_set (by omega), if_pos rfl]; omega)] at this
  exact this
theorem scan_free {k : Int} (hk : 0 ≤ k) (p : List Int) {n : Nat} : ∀ (m j : Nat) (o : List Int) (t : List Nat), j + m ≤ n → o.length = n → (scan L p k m j o t).2.length + freeN (scan L p k m j o t).1 n = t.length + freeN o n
  | 0, _, _, _, _, _ => rfl
  | m + 1, j, o, t, e, h => by
    rw [scan]
    split
    · rename_i c
      rw [Bool.and_eq_true, decide_eq_true_eq] at c
      have := free_set hk (by omega : j < n) h c.1
      rw [scan_free hk p m (j + 1) _ _ (by omega) (by rw [List.length_set]; exact h), List.length_append, List.length_singleton]
      omega
    · exact scan_free hk p m (j + 1) _ _ (by omega) h
theorem bfs_len {k : Int} : ∀ (f : Nat) (o : List Int) (t : List Nat), (bfs L k f o t).length = o.length
  | 0, _, _ => rfl
  | _ + 1, _, [] => rfl
  | f + 1, o, i :: t => by rw [bfs, bfs_len f, scan_len]
theorem gv_l3 (hn : L.length ≤ 1000) (hL : ∀ e ∈ L, e.length ≤ 1000) {m i a : Nat} (ha : a < L.length) {X R : List (List Int)} : ∀ (d j : Nat) (o : List Int) (t : List Nat), j + d = L.length → o.length = L.length → t.length + freeN o L.length ≤ 3000 →
    Ev (fun k => impl_groups.l2 k X (scan L (el L a) (m : Int) d j o (a :: t)).1 (m : Int) (L.length : Int) (i : Int) L (zs (scan L (el L a) (m : Int) d j o (a :: t)).2.tail)) R →
    Ev (fun k => impl_groups.l3 k X o (m : Int) (L.length : Int) (i : Int) (L.length : Int) (j : Int) L (zs (a :: t))) R := by
  intro d
  induction d with
  | zero =>
    intro j o t hj ho hf H
    refine ev_succ ?_
    simp only [impl_groups.l3]
    refine ev_neg (by omega) (ev_pos (by rw [zs_len, List.length_cons]; omega) ?_)
    rw [← zs_tail] at H
    exact H
  | succ d ih =>
    intro j o t hj ho hf H
    have hz : (zs (a :: t)).length = t.length + 1 := by simp [zs]
    have hb := cont_val hL (tt := t) ha (el L j) (el_len hL j)
    rw [scan] at H
    refine ev_succ ?_
    simp only [impl_groups.l3, Int.toNat_natCast, rd_nat, rdll_nat, ← zs_snoc]
    rw [winc (by omega)]
    by_cases c : o.getD j 0 < 0
    · by_cases cb : shareB (el L j) (el L a) = true
      · rw [if_pos (by rw [Bool.and_eq_true, decide_eq_true_eq]; exact ⟨c, cb⟩)] at H
        have hfs := free_set (k := (m : Int)) (by omega) (by omega : j < L.length) ho c
        have h1 := ih (j + 1) (o.set j (m : Int)) (t ++ [j]) (by omega) (by rw [List.length_set]; exact ho) (by rw [List.length_append, List.length_singleton]; omega) H
        exact ev_pos (by omega) (ev_pos (by omega) (ev_pos (by omega) (ev_pos c (ev_pos (by omega) (ev_bind _ hb (ev_pos cb (ev_pos (by omega) h1)))))))
      · rw [if_neg (by rw [Bool.and_eq_true]; exact fun g => cb g.2)] at H
        exact ev_pos (by omega) (ev_pos (by omega) (ev_pos (by omega) (ev_pos c (ev_pos (by omega) (ev_bind _ hb (ev_neg cb (ih (j + 1) o t (by omega) ho hf H)))))))
    · rw [if_neg (by rw [Bool.and_eq_true, decide_eq_true_eq]; exact fun g => c g.1)] at H
      exact ev_pos (by omega) (ev_pos (by omega) (ev_pos (by omega) (ev_neg c (ih (j + 1) o t (by omega) ho hf H))))
theorem gv_l2 (hn : L.length ≤ 1000) (hL : ∀ e ∈ L, e.length ≤ 1000) {m i : Nat} (hi : i ≤ 1000) {X R : List (List Int)} (hX : X.length ≤ 1000) : ∀ (f : Nat) (o : List Int) (t : List Nat), f ≤ 2000 → t.length + freeN o L.length < f → o.length = L.length → (∀ x ∈ t, x < L.length) →
    Ev (fun k => impl_groups.l1 k (X ++ [[]]) (bfs L (m : Int) f o t) (L.length : Int) ((i + 1 : Nat) : Int) L) R →
    Ev (fun k => impl_groups.l2 k X o (m : Int) (L.length : Int) (i : Int) L (zs t)) R := by
  intro f
  induction f with
  | zero => intro o t _ h; omega
  | succ f ih =>
    intro o t hf h ho ht H
    cases t with
    | nil =>
      refine ev_succ ?_
      simp only [impl_groups.l2]
      rw [winc (by omega)]
      exact ev_neg (by simp [zs]) (ev_pos (by omega) H)
    | cons a t =>
      have ha := ht a List.mem_cons_self
      have hz : (zs (a :: t)).length = t.length + 1 := by simp [zs]
      rw [bfs] at H
      have hfr := scan_free (L := L) (k := (m : Int)) (by omega) (el L a) L.length 0 o (a :: t) (by omega) ho
      have hle : 0 < (scan L (el L a) (m : Int) L.length 0 o (a :: t)).2.length := by
        have hg : ∀ (d j : Nat) (o : List Int) (t : List Nat), 0 < t.length → 0 < (scan L (el L a) (m : Int) d j o t).2.length := by
          intro d
          induction d with
          | zero => intro j o t h; exact h
          | succ d ih =>
            intro j o t h
            rw [scan]
            split
            · exact ih _ _ _ (by simp)
            · exact ih _ _ _ h
        exact hg _ _ _ _ (by simp)
      refine ev_succ ?_
      simp only [impl_groups.l2]
      refine ev_pos (by omega) (gv_l3 hn hL ha L.length 0 o t (by omega) ho (by simp only [List.length_cons] at h; omega) (ih _ _ (by omega) ?_ (by rw [scan_len]; exact ho) (fun x hx => scan_mem _ _ _ _ _ (by omega) ht x (List.mem_of_mem_tail hx)) H))
      rw [List.length_tail]
      simp only [List.length_cons] at h hfr ⊢
      omega
theorem gv_l1 (hn : L.length ≤ 1000) (hL : ∀ e ∈ L, e.length ≤ 1000) {R : List (List Int)} : ∀ (d i c : Nat) (o : List Int), i + d = L.length → c ≤ i → o.length = L.length →
    Ev (fun k => impl_groups.l4 k (List.replicate (outer L d i o c).2 []) (outer L d i o c).1 (L.length : Int) 0) R →
    Ev (fun k => impl_groups.l1 k (List.replicate c []) o (L.length : Int) (i : Int) L) R := by
  intro d
  induction d with
  | zero =>
    intro i c o hi hc ho H
    refine ev_succ ?_
    simp only [impl_groups.l1, outer] at H ⊢
    rw [← ho] at H ⊢
    exact ev_neg (by omega) H
  | succ d ih =>
    intro i c o hi hc ho H
    rw [outer] at H
    refine ev_succ ?_
    simp only [impl_groups.l1, Int.toNat_natCast, List.length_replicate, rd_nat]
    by_cases g : 0 ≤ o.getD i 0
    · rw [if_pos g] at H
      rw [winc (by omega)]
      exact ev_pos (by omega) (ev_pos (by omega) (ev_pos (by omega) (ev_pos g (ih (i + 1) c o (by omega) (by omega) ho H))))
    · rw [if_neg g] at H
      have hfr := free_set (k := (c : Int)) (by omega) (by omega : i < L.length) ho (by omega)
      have hfl : freeN o L.length ≤ L.length := by
        have := List.countP_le_length (p := fun q => decide (o.getD q 0 < 0)) (l := List.range L.length)
        rw [List.length_range] at this
        exact this
      refine ev_pos (by omega) (ev_pos (by omega) (ev_pos (by omega) (ev_neg g ?_)))
      have h1 := ih (i + 1) (c + 1) _ (by omega) (by omega) (by rw [bfs_len, List.length_set]; exact ho) H
      rw [List.replicate_succ'] at h1
      exact gv_l2 hn hL (by omega) (by simp; omega) (L.length + 1) (o.set i (c : Int)) [i] (by omega) (by simp; omega) (by rw [List.length_set]; exact ho) (fun x hx => by rw [List.mem_singleton.1 hx]; omega) h1
theorem gv_l4 {m n : Nat} {o : List Int} (hn : n ≤ 1000) (hmn : m ≤ n) (ho : o.length = n) (hof : ∀ q, q < n → 0 ≤ o.getD q 0 ∧ o.getD q 0 < (m : Int)) : ∀ (d i : Nat), i + d = n →
    Ev (fun k => impl_groups.l4 k ((List.range m).map fun (q : Nat) => zs ((List.range i).filter fun x => decide (o.getD x 0 = (q : Int)))) o (n : Int) (i : Int))
      ((List.range m).map fun (q : Nat) => zs ((List.range n).filter fun x => decide (o.getD x 0 = (q : Int)))) := by
  intro d
  induction d with
  | zero =>
    intro i hi
    obtain rfl : i = n := by omega
    refine ev_succ ?_
    simp only [impl_groups.l4]
    exact ev_neg (by omega) (Ev.now _)
  | succ d ih =>
    intro i hi
    obtain ⟨o0, o1⟩ := hof i (by omega)
    obtain ⟨q, hq⟩ : ∃ q : Nat, o.getD i 0 = (q : Int) := ⟨(o.getD i 0).toNat, by omega⟩
    have h1 := ih (i + 1) (by omega)
    have hl : ∀ x : Nat, ((List.range m).map fun (q : Nat) => zs ((List.range x).filter fun x => decide (o.getD x 0 = (q : Int)))).length = m := by simp
    have hset : ((List.range m).map fun (q : Nat) => zs ((List.range i).filter fun x => decide (o.getD x 0 = (q : Int)))).set q (el ((List.range m).map fun (q : Nat) => zs ((List.range i).filter fun x => decide (o.getD x 0 = (q : Int)))) q ++ [(i : Int)]) = (List.range m).map fun (q : Nat) => zs ((List.range (i + 1)).filter fun x => decide (o.getD x 0 = (q : Int))) := by
      apply List.ext_getElem
      · simp
      · intro a ha hb
        rw [hl] at hb
        rw [List.getElem_set]
        by_cases e : q = a
        · subst e
          rw [if_pos rfl, List.getElem_map, List.getElem_range, List.range_succ, List.filter_append, List.filter_cons, if_pos (by simpa using hq), List.filter_nil, zs_snoc]
          congr 1
          unfold el
          rw [List.getD_eq_getElem?_getD, List.getElem?_eq_getElem (by rw [hl]; exact hb), Option.getD_some, List.getElem_map, List.getElem_range]
        · rw [if_neg e, List.getElem_map, List.getElem_map, List.getElem_range, List.range_succ, List.filter_append, List.filter_cons, if_neg (by simp only [decide_eq_true_eq, hq]; omega), List.filter_nil, List.append_nil]
    refine ev_succ ?_
    have hle : (el ((List.range m).map fun (q : Nat) => zs ((List.range i).filter fun x => decide (o.getD x 0 = (q : Int)))) q).length ≤ 1000 := by
      refine el_len (fun e he => ?_) q
      obtain ⟨x, _, rfl⟩ := List.mem_map.1 he
      rw [zs_len]
      have := List.length_filter_le (fun y => decide (o.getD y 0 = (x : Int))) (List.range i)
      rw [List.length_range] at this
      omega
    simp only [impl_groups.l4, rd_nat, hq, rdll_nat, Int.toNat_natCast, hset]
    rw [winc (by omega)]
    refine ev_pos (by omega) (ev_pos (by omega) (ev_pos (by omega) (ev_pos (by omega) (ev_pos (by rw [hl]; omega) (ev_pos (by omega) h1)))))
theorem gv_l0 {n : Nat} (hn : n ≤ 1000) {R : List (List Int)} (H : Ev (fun k => impl_groups.l1 k [] (List.replicate n (-1)) (L.length : Int) 0 L) R) : ∀ (d i : Nat) (o : List Int), i + d = n → o.length = n → (∀ p : Nat, p < i → o.getD p 0 = -1) →
    Ev (fun k => impl_groups.l0 k [] o (n : Int) (i : Int) L) R := by
  intro d
  induction d with
  | zero =>
    intro i o hi hl hz
    have e : o = List.replicate n (-1) := by
      apply List.ext_getElem
      · simpa using hl
      · intro a ha hb
        have := hz a (by omega)
        rw [List.getD_eq_getElem?_getD, List.getElem?_eq_getElem ha, Option.getD_some] at this
        rw [this, List.getElem_replicate]
    subst e
    refine ev_succ ?_
    simp only [impl_groups.l0]
    exact ev_neg (by omega) H
  | succ d ih =>
    intro i o hi hl hz
    have h1 := ih (i + 1) (o.set i (-1)) (by omega) (by rw [List.length_set]; exact hl) (fun p hp => by
      rw [CK.getD_set (by omega)]
      split
      · rfl
      · exact hz p (by omega))
    refine ev_succ ?_
    simp only [impl_groups.l0, Int.toNat_natCast]
    rw [winc (by omega)]
    exact ev_pos (by omega) (ev_pos (by omega) (ev_pos (by omega) h1))
theorem impl_groups_val (hn : L.length ≤ 1000) (hL : ∀ e ∈ L, e.length ≤ 1000) : Ev (fun k => impl_groups.f k L) ((groupsC L).map zs) := by
  have H : CK.Outer L 0 (List.replicate L.length (-1)) 0 := by
    have hn : (CK.heads L).filter (fun h => decide (h < 0)) = [] := by
      rw [List.filter_eq_nil_iff]
      intro y _; simp
    refine ⟨List.length_replicate, by rw [hn]; rfl, fun a h e => by rw [hn] at e; simp at e, fun q hq _ => ?_⟩
    rw [List.getD_eq_getElem?_getD, List.getElem?_replicate, if_pos hq]
    decide
  have F := CK.outer_ok L.length 0 _ 0 (by omega) H
  have hG := CK.groupsG_eq (ls := L)
  unfold groupsG at hG
  have hcl : (outer L L.length 0 (List.replicate L.length (-1)) 0).2 ≤ L.length := by
    have h1 := CK.heads_len (ls := L)
    rw [← hG, List.length_map, List.length_range] at h1
    exact h1
  have hrg : ∀ q, q < L.length → 0 ≤ (outer L L.length 0 (List.replicate L.length (-1)) 0).1.getD q 0 ∧ (outer L L.length 0 (List.replicate L.length (-1)) 0).1.getD q 0 < ((outer L L.length 0 (List.replicate L.length (-1)) 0).2 : Int) := by
    intro q hq
    obtain ⟨h, h1, h2⟩ := CK.head_of q q (Nat.le_refl _) hq
    have hf : (CK.heads L).filter (fun h => decide (h < L.length)) = CK.heads L := by
      rw [List.filter_eq_self]
      intro h hh
      simpa using (CK.mem_heads.1 hh).1
    obtain ⟨_, f2, f3, _⟩ := F
    rw [hf] at f2 f3
    obtain ⟨a, ha, e⟩ := List.mem_iff_getElem.1 h1
    have := (f3 a h (by rw [List.getElem?_eq_getElem ha, e]) q hq).2 h2
    omega
  have h4 := gv_l4 (m := (outer L L.length 0 (List.replicate L.length (-1)) 0).2) (n := L.length) (o := (outer L L.length 0 (List.replicate L.length (-1)) 0).1) hn hcl F.len hrg L.length 0 (by omega)
  have e0 : ((List.range (outer L L.length 0 (List.replicate L.length (-1)) 0).2).map fun (q : Nat) => zs ((List.range 0).filter fun x => decide ((outer L L.length 0 (List.replicate L.length (-1)) 0).1.getD x 0 = (q : Int)))) = List.replicate (outer L L.length 0 (List.replicate L.length (-1)) 0).2 [] := by
    apply List.ext_getElem
    · simp
    · intro a ha hb
      simp [zs]
  rw [e0] at h4
  have h1 := gv_l1 hn hL L.length 0 0 (List.replicate L.length (-1)) (by omega) (Nat.le_refl _) (by simp) h4
  have h0 := gv_l0 (L := L) hn h1 L.length 0 (List.replicate L.length 0) (by omega) (by simp) (fun p hp => absurd hp (by omega))
  have e1 : (groupsC L).map zs = (List.range (outer L L.length 0 (List.replicate L.length (-1)) 0).2).map fun (q : Nat) => zs ((List.range L.length).filter fun x => decide ((outer L L.length 0 (List.replicate L.length (-1)) 0).1.getD x 0 = (q : Int))) := by
    rw [← hG, List.map_map]
    rfl
  rw [e1]
  unfold impl_groups.f
  simp only [Int.toNat_natCast, List.length_replicate, Option.bind_some]
  exact ev_pos (by omega) (ev_pos (by omega) h0)
end
end Go.Proofs.YtephjmmkggcmeaaQ
namespace Go.Proofs.YtephjmmkggcmeaaQ.CK
open Classical
section
variable {ls : List (List Int)}
theorem el_set_self {i : Nat} (h : i < ls.length) (p : List Int) : el (ls.set i p) i = p := by
  unfold el
  rw [List.getD_eq_getElem?_getD, List.getElem?_set_self (by simpa using h)]
  rfl
theorem el_set_ne {i j : Nat} (h : i ≠ j) (p : List Int) : el (ls.set i p) j = el ls j := by
  unfold el
  rw [List.getD_eq_getElem?_getD, List.getElem?_set_ne h, ← List.getD_eq_getElem?_getD]
theorem Pairs.set (hp : Pairs ls) (i : Nat) (a b : Int) : Pairs (ls.set i [a, b]) := by
  intro j hj
  rw [List.length_set] at hj
  by_cases c : i = j
  · subst c
    exact ⟨a, b, el_set_self hj _⟩
  · rw [el_set_ne c]
    exact hp j hj
theorem fits_set {f : Nat → Int} (hf : Own ls ls.length f) (i : Nat) : Fits (ls.set i [f i, f i]) := by
  have hO : Own (ls.set i [f i, f i]) (ls.set i [f i, f i]).length f := by
    rw [List.length_set]
    refine ⟨fun j hj => ?_, hf.2⟩
    by_cases c : i = j
    · subst c
      rw [el_set_self hj]; simp
    · rw [el_set_ne c]
      exact hf.1 j hj
  exact fits_of_own hO
theorem fits_step (hp : Pairs ls) (hF : Fits ls) {i : Nat} (hi : i < ls.length) {a b : Int} (e : el ls i = [a, b]) (hn : ¬ Fits (ls.set i [a, a])) : Fits (ls.set i [b, b]) := by
  obtain ⟨f, hf⟩ := own_of_fits hp hF
  have hm := hf.1 i hi
  have hset := fits_set hf i
  rw [e] at hm
  simp only [List.mem_cons, List.not_mem_nil, or_false] at hm
  rcases hm with h | h
  · rw [h] at hset; exact absurd hset hn
  · rw [h] at hset; exact hset
noncomputable def greedy : Nat → Nat → List (List Int) → List Int
  | 0, _, _ => []
  | m + 1, i, ls =>
    let a := (el ls i).getD 0 0
    let b := (el ls i).getD 1 0
    let lo := if a ≤ b then a else b
    let hi := if a ≤ b then b else a
    if Fits (ls.set i [lo, lo]) then lo :: greedy m (i + 1) (ls.set i [lo, lo]) else hi :: greedy m (i + 1) (ls.set i [hi, hi])
theorem greedy_len : ∀ (m i : Nat) (ls : List (List Int)), (greedy m i ls).length = m
  | 0, _, _ => rfl
  | m + 1, i, ls => by
    simp only [greedy]
    have h := greedy_len m (i + 1)
    by_cases c : Fits (ls.set i [if (el ls i).getD 0 0 ≤ (el ls i).getD 1 0 then (el ls i).getD 0 0 else (el ls i).getD 1 0, if (el ls i).getD 0 0 ≤ (el ls i).getD 1 0 then (el ls i).getD 0 0 else (el ls i).getD 1 0])
    · rw [if_pos c, List.length_cons, h]
    · rw [if_neg c, List.length_cons, h]
theorem pair_sorted {p : List Int} {a b : Int} (e : p = [a, b]) : (p.getD 0 0 = a ∧ p.getD 1 0 = b) := by subst e; exact ⟨rfl, rfl⟩
theorem greedy_fits : ∀ (m i : Nat) (ls : List (List Int)), i + m = ls.length → Pairs ls → Fits ls → ∃ ls' : List (List Int), ls'.length = ls.length ∧ Fits ls' ∧ (∀ j, j < i → el ls' j = el ls j) ∧ ∀ j, j < m → el ls' (i + j) = [(greedy m i ls).getD j 0, (greedy m i ls).getD j 0] ∧ (greedy m i ls).getD j 0 ∈ el ls (i + j)
  | 0, i, ls, _, _, hF => ⟨ls, rfl, hF, fun _ _ => rfl, fun j hj => by omega⟩
  | m + 1, i, ls, h, hp, hF => by
    obtain ⟨a, b, e⟩ := hp i (by omega)
    obtain ⟨e1, e2⟩ := pair_sorted e
    have step : ∀ c : Int, c ∈ el ls i → Fits (ls.set i [c, c]) → greedy (m + 1) i ls = c :: greedy m (i + 1) (ls.set i [c, c]) → ∃ ls' : List (List Int), ls'.length = ls.length ∧ Fits ls' ∧ (∀ j, j < i → el ls' j = el ls j) ∧ ∀ j, j < m + 1 → el ls' (i + j) = [(greedy (m + 1) i ls).getD j 0, (greedy (m + 1) i ls).getD j 0] ∧ (greedy (m + 1) i ls).getD j 0 ∈ el ls (i + j) := fun c hc hfc hg => by
      obtain ⟨ls', l1, l2, l3, l4⟩ := greedy_fits m (i + 1) (ls.set i [c, c]) (by rw [List.length_set]; omega) (hp.set i c c) hfc
      rw [List.length_set] at l1
      refine ⟨ls', l1, l2, fun j hj => ?_, fun j hj => ?_⟩
      · rw [l3 j (by omega), el_set_ne (by omega)]
      · rw [hg]
        cases j with
        | zero =>
          rw [Nat.add_zero, l3 i (by omega), el_set_self (by omega)]
          exact ⟨rfl, hc⟩
        | succ j =>
          obtain ⟨q1, q2⟩ := l4 j (by omega)
          rw [show i + 1 + j = i + (j + 1) from by omega] at q1 q2
          rw [el_set_ne (by omega)] at q2
          exact ⟨q1, q2⟩
    have hlo : (if a ≤ b then a else b) ∈ el ls i := by rw [e]; split <;> simp
    have hhi : (if a ≤ b then b else a) ∈ el ls i := by rw [e]; split <;> simp
    by_cases c : Fits (ls.set i [if a ≤ b then a else b, if a ≤ b then a else b])
    · exact step _ hlo c (by simp only [greedy, e1, e2]; rw [if_pos c])
    · refine step _ hhi ?_ (by simp only [greedy, e1, e2]; rw [if_neg c])
      by_cases hab : a ≤ b
      · rw [if_pos hab] at c ⊢
        exact fits_step hp hF (by omega) e c
      · rw [if_neg hab] at c ⊢
        obtain ⟨f, hf⟩ := own_of_fits hp hF
        have hm := hf.1 i (by omega)
        have hset := fits_set hf i
        rw [e] at hm
        simp only [List.mem_cons, List.not_mem_nil, or_false] at hm
        rcases hm with h' | h'
        · rw [h'] at hset; exact hset
        · rw [h'] at hset; exact absurd hset c
theorem greedy_places (hp : Pairs ls) (hF : Fits ls) : (greedy ls.length 0 ls).Nodup ∧ ∀ j, j < ls.length → (greedy ls.length 0 ls).getD j 0 ∈ el ls j := by
  obtain ⟨ls', l1, l2, _, l4⟩ := greedy_fits ls.length 0 ls (by omega) hp hF
  have hp' : Pairs ls' := fun j hj => by
    have := (l4 j (by omega)).1
    rw [Nat.zero_add] at this
    exact ⟨_, _, this⟩
  obtain ⟨f, hf⟩ := own_of_fits hp' l2
  have hfv : ∀ j, j < ls.length → f j = (greedy ls.length 0 ls).getD j 0 := fun j hj => by
    have h1 := hf.1 j (by omega)
    have h2 := (l4 j hj).1
    rw [Nat.zero_add] at h2
    rw [h2] at h1
    simpa using h1
  refine ⟨?_, fun j hj => by have := (l4 j hj).2; rwa [Nat.zero_add] at this⟩
  unfold List.Nodup
  rw [List.pairwise_iff_getElem]
  intro i j hi hj hlt e
  rw [greedy_len] at hi hj
  have := hf.2 i j (by omega) (by omega) (by
    rw [hfv i hi, hfv j hj, List.getD_eq_getElem?_getD, List.getD_eq_getElem?_getD, List.getElem?_eq_getElem (by rw [greedy_len]; exact hi), List.getElem?_eq_getElem (by rw [greedy_len]; exact hj)]
    exact e)
  omega
end
end Go.Proofs.YtephjmmkggcmeaaQ.CK
namespace Go.Proofs.YtephjmmkggcmeaaQ.CK
open Classical

def putN : List Nat → Nat → List Nat
  | [], n => [n]
  | x :: t, n => if x < n then x :: putN t n else if x = n then x :: t else n :: x :: t
theorem mem_putN {l : List Nat} {n x : Nat} : x ∈ putN l n ↔ x ∈ l ∨ x = n := by
  induction l with
  | nil => simp [putN]
  | cons y t ih =>
    rw [putN]
    split
    · rw [List.mem_cons, ih, List.mem_cons]
      constructor
      · rintro (h | h | h)
        · exact .inl (.inl h)
        · exact .inl (.inr h)
        · exact .inr h
      · rintro ((h | h) | h)
        · exact .inl h
        · exact .inr (.inl h)
        · exact .inr (.inr h)
    · split
      · rename_i e
        subst e
        constructor
        · exact .inl
        · rintro (h | h)
          · exact h
          · rw [h]; exact List.mem_cons_self
      · rw [List.mem_cons]
        constructor
        · rintro (h | h)
          · exact .inr h
          · exact .inl h
        · rintro (h | h)
          · exact .inr h
          · exact .inl h
theorem sorted_putN {l : List Nat} (n : Nat) (h : l.Pairwise (· < ·)) : (putN l n).Pairwise (· < ·) := by
  induction l with
  | nil => simp [putN]
  | cons y t ih =>
    rw [List.pairwise_cons] at h
    rw [putN]
    split
    · rename_i c
      rw [List.pairwise_cons]
      refine ⟨fun x hx => ?_, ih h.2⟩
      rcases mem_putN.1 hx with hx | hx
      · exact h.1 x hx
      · omega
    · split
      · rw [List.pairwise_cons]; exact h
      · rename_i c1 c2
        rw [List.pairwise_cons, List.pairwise_cons]
        refine ⟨fun x hx => ?_, h⟩
        rcases List.mem_cons.1 hx with hx | hx
        · omega
        · have := h.1 x hx; omega
theorem putN_len {l : List Nat} {n : Nat} (h : n ∉ l) : (putN l n).length = l.length + 1 := by
  induction l with
  | nil => rfl
  | cons y t ih =>
    rw [List.mem_cons, not_or] at h
    rw [putN]
    split
    · rw [List.length_cons, ih h.2, List.length_cons]
    · rw [if_neg (fun e => h.1 e.symm)]
      rfl
theorem sorted_eq : ∀ {l m : List Nat}, l.Pairwise (· < ·) → m.Pairwise (· < ·) → (∀ x, x ∈ l ↔ x ∈ m) → l = m
  | [], [], _, _, _ => rfl
  | [], y :: m, _, _, h => absurd ((h y).2 List.mem_cons_self) (by simp)
  | x :: l, [], _, _, h => absurd ((h x).1 List.mem_cons_self) (by simp)
  | x :: l, y :: m, hl, hm, h => by
    rw [List.pairwise_cons] at hl hm
    have hxy : x = y := by
      have h1 := (h x).1 List.mem_cons_self
      have h2 := (h y).2 List.mem_cons_self
      rcases List.mem_cons.1 h1 with e | h1
      · exact e
      · rcases List.mem_cons.1 h2 with e | h2
        · exact e.symm
        · have := hl.1 y h2
          have := hm.1 x h1
          omega
    subst hxy
    rw [sorted_eq hl.2 hm.2 (fun z => ?_)]
    constructor
    · intro hz
      rcases List.mem_cons.1 ((h z).1 (List.mem_cons_of_mem _ hz)) with e | h'
      · have := hl.1 z hz; omega
      · exact h'
    · intro hz
      rcases List.mem_cons.1 ((h z).2 (List.mem_cons_of_mem _ hz)) with e | h'
      · have := hm.1 z hz; omega
      · exact h'
section
variable {ls : List (List Int)}
noncomputable def passG (ls : List (List Int)) : Nat → Nat → List Nat → Bool → List Nat × Bool
  | 0, _, o, g => (o, g)
  | m + 1, i, o, g => if i ∉ o ∧ ∃ k ∈ o, Adj ls k i then passG ls m (i + 1) (putN o i) true else passG ls m (i + 1) o g
noncomputable def growG (ls : List (List Int)) : Nat → List Nat → List Nat
  | 0, o => o
  | f + 1, o => if (passG ls ls.length 0 o false).2 = true then growG ls f (passG ls ls.length 0 o false).1 else (passG ls ls.length 0 o false).1
structure Part (ls : List (List Int)) (i : Nat) (o : List Nat) : Prop where
  srt : o.Pairwise (· < ·)
  sub : ∀ j ∈ o, j < ls.length ∧ Reach ls i j
  first : i ∈ o
theorem Part.put {i j : Nat} {o : List Nat} (h : Part ls i o) (hj : j < ls.length) {k : Nat} (hk : k ∈ o) (ha : Adj ls k j) : Part ls i (putN o j) :=
  ⟨sorted_putN j h.srt, fun x hx => by
    rcases mem_putN.1 hx with hx | rfl
    · exact h.sub x hx
    · exact ⟨hj, .step (h.sub k hk).2 hj ha⟩, mem_putN.2 (.inl h.first)⟩
theorem passG_part {q : Nat} : ∀ (m i : Nat) (o : List Nat) (g : Bool), i + m = ls.length → Part ls q o → Part ls q (passG ls m i o g).1 ∧ o.length ≤ (passG ls m i o g).1.length ∧ ((passG ls m i o g).2 = true → g = true ∨ o.length < (passG ls m i o g).1.length)
  | 0, _, _, g, _, h => ⟨h, Nat.le_refl _, fun h => .inl h⟩
  | m + 1, i, o, g, e, h => by
    rw [passG]
    split
    · rename_i c
      obtain ⟨c1, k, hk, ha⟩ := c
      obtain ⟨h1, h2, h3⟩ := passG_part m (i + 1) (putN o i) true (by omega) (h.put (by omega) hk ha)
      rw [putN_len c1] at h2
      exact ⟨h1, by omega, fun _ => .inr (by omega)⟩
    · exact passG_part m (i + 1) o g (by omega) h
theorem passG_false : ∀ (m i : Nat) (o : List Nat) (g : Bool), (passG ls m i o g).2 = false → (passG ls m i o g).1 = o ∧ g = false ∧ ∀ j, i ≤ j → j < i + m → j ∉ o → ¬ ∃ k ∈ o, Adj ls k j
  | 0, i, o, g, h => ⟨rfl, h, fun j h1 h2 => by omega⟩
  | m + 1, i, o, g, h => by
    rw [passG] at h ⊢
    split
    · rename_i c
      rw [if_pos c] at h
      have := (passG_false m (i + 1) (putN o i) true h).2.1
      cases this
    · rename_i c
      rw [if_neg c] at h
      obtain ⟨h1, h2, h3⟩ := passG_false m (i + 1) o g h
      refine ⟨h1, h2, fun j a b hj hk => ?_⟩
      by_cases e : j = i
      · subst e; exact c ⟨hj, hk⟩
      · exact h3 j (by omega) (by omega) hj hk
theorem part_len {i : Nat} {o : List Nat} (h : Part ls i o) : o.length ≤ ls.length := by
  have hn : o.Nodup := h.srt.imp (fun h => Nat.ne_of_lt h)
  have := nodup_leN hn (V := List.range ls.length) (fun x hx => List.mem_range.2 (h.sub x hx).1)
  simpa using this
theorem comp_sorted (i : Nat) : (comp ls i).Pairwise (· < ·) := List.pairwise_lt_range.filter _
theorem part_closed {i : Nat} {o : List Nat} (h : Part ls i o) (hc : ∀ j, j < ls.length → j ∉ o → ¬ ∃ k ∈ o, Adj ls k j) : o = comp ls i := by
  refine sorted_eq h.srt (comp_sorted i) (fun x => ?_)
  rw [mem_comp]
  constructor
  · exact h.sub x
  · rintro ⟨hl, hr⟩
    clear hl
    induction hr with
    | refl => exact h.first
    | @step j k h1 hk ha ih =>
      by_cases e : k ∈ o
      · exact e
      · exact absurd ⟨j, ih, ha⟩ (hc k hk e)
theorem growG_comp {i : Nat} : ∀ (f : Nat) (o : List Nat), Part ls i o → ls.length < f + o.length → growG ls f o = comp ls i
  | 0, o, h, hf => by have := part_len h; omega
  | f + 1, o, h, hf => by
    obtain ⟨h1, h2, h3⟩ := passG_part ls.length 0 o false (by omega) h
    rw [growG]
    by_cases c : (passG ls ls.length 0 o false).2 = true
    · rw [if_pos c]
      rcases h3 c with e | h3
      · cases e
      · exact growG_comp f _ h1 (by omega)
    · rw [if_neg c]
      obtain ⟨e1, _, e2⟩ := passG_false ls.length 0 o false (by simpa using c)
      rw [e1]
      exact part_closed h (fun j hj hn => e2 j (by omega) (by omega) hn)
theorem part_one {i : Nat} (hi : i < ls.length) : Part ls i [i] := ⟨by simp, fun j hj => by rw [List.mem_singleton] at hj; subst hj; exact ⟨hi, .refl _⟩, by simp⟩
theorem growG_one {i : Nat} (hi : i < ls.length) : growG ls ls.length [i] = comp ls i := growG_comp _ _ (part_one hi) (by simp)
theorem comp_head {i : Nat} (hi : i < ls.length) : (comp ls i).headD 0 = i ↔ i ∈ heads ls := by
  have hs := comp_sorted (ls := ls) i
  have hm := comp_self (ls := ls) hi
  constructor
  · intro h
    refine mem_heads.2 ⟨hi, fun j hj => ?_⟩
    have hj' : j ∈ comp ls i := mem_comp.2 ⟨hj.lt hi, hj⟩
    cases hc : comp ls i with
    | nil => rw [hc] at hm; cases hm
    | cons x t =>
      rw [hc] at h hj' hs
      simp only [List.headD_cons] at h
      subst h
      rw [List.pairwise_cons] at hs
      rcases List.mem_cons.1 hj' with e | h'
      · omega
      · have := hs.1 j h'; omega
  · intro h
    obtain ⟨_, h2⟩ := mem_heads.1 h
    cases hc : comp ls i with
    | nil => rw [hc] at hm; cases hm
    | cons x t =>
      have hx : x ∈ comp ls i := by rw [hc]; exact List.mem_cons_self
      have := h2 x (mem_comp.1 hx).2
      rw [hc] at hm hs
      rw [List.pairwise_cons] at hs
      simp only [List.headD_cons]
      rcases List.mem_cons.1 hm with e | h'
      · exact e.symm
      · have := hs.1 i h'; omega
end
end Go.Proofs.YtephjmmkggcmeaaQ.CK
namespace Go.Proofs.YtephjmmkggcmeaaQ.CK
open Classical

def nubZ : List Int → List Int
  | [] => []
  | x :: t => if t.contains x then nubZ t else x :: nubZ t
theorem mem_nubZ {l : List Int} {x : Int} : x ∈ nubZ l ↔ x ∈ l := by
  induction l with
  | nil => simp [nubZ]
  | cons y t ih =>
    rw [nubZ]
    split
    · rename_i c
      rw [ih, List.mem_cons]
      refine ⟨.inr, fun h => ?_⟩
      rcases h with rfl | h
      · simpa using c
      · exact h
    · rw [List.mem_cons, List.mem_cons, ih]
theorem nodup_nubZ (l : List Int) : (nubZ l).Nodup := by
  induction l with
  | nil => simp [nubZ]
  | cons y t ih =>
    rw [nubZ]
    split
    · exact ih
    · rename_i c
      rw [List.nodup_cons]
      exact ⟨fun h => c (by simpa using mem_nubZ.1 h), ih⟩
theorem nodup_len {S V : List Int} (hS : S.Nodup) (hV : V.Nodup) (h : ∀ x, x ∈ S ↔ x ∈ V) : S.length = V.length :=
  Nat.le_antisymm (nodup_le hS (fun x hx => (h x).1 hx)) (nodup_le hV (fun x hx => (h x).2 hx))
theorem nubZ_len {l V : List Int} (hV : V.Nodup) (h : ∀ x, x ∈ V ↔ x ∈ l) : (nubZ l).length = V.length :=
  nodup_len (nodup_nubZ l) hV (fun x => mem_nubZ.trans (h x).symm)
section
variable {ls : List (List Int)}
def cellsL (ls : List (List Int)) (is : List Nat) : List Int := is.flatMap (el ls)
def wideN (ls : List (List Int)) (is : List Nat) : Nat := (nubZ (cellsL ls is)).length
theorem mem_cellsL {is : List Nat} {x : Int} : x ∈ cellsL ls is ↔ ∃ i ∈ is, x ∈ el ls i := by simp [cellsL]
theorem cell_comp {i : Nat} (hi : i < ls.length) (x : Int) : Cell ls i x ↔ x ∈ cellsL ls (comp ls i) := by
  rw [mem_cellsL]
  constructor
  · rintro ⟨j, hr, hx⟩
    exact ⟨j, mem_comp.2 ⟨hr.lt hi, hr⟩, hx⟩
  · rintro ⟨j, hj, hx⟩
    exact ⟨j, (mem_comp.1 hj).2, hx⟩
def crowdedB (ls : List (List Int)) (g : List Nat) : Bool := decide (wideN ls g < g.length)
theorem fits_iff : Fits ls ↔ ∀ g ∈ groupsC ls, g.length ≤ wideN ls g := by
  constructor
  · intro h g hg
    obtain ⟨i, hi, rfl⟩ := List.mem_map.1 hg
    have hl := (mem_heads.1 hi).1
    exact h i hl _ (nodup_nubZ _) (fun x => by rw [mem_nubZ]; exact (cell_comp hl x).symm)
  · intro h i hi V hV hx
    obtain ⟨q, hq, hr⟩ := head_of (ls := ls) i i (Nat.le_refl _) hi
    have hql := (mem_heads.1 hq).1
    rw [← comp_eq hql hr]
    have := h _ (List.mem_map.2 ⟨q, hq, rfl⟩)
    rw [wideN, nubZ_len hV (fun x => by rw [hx, cell_comp hi, ← comp_eq hql hr])] at this
    exact this
def mostOf (ls : List (List Int)) (gs : List (List Nat)) : Nat := (gs.map fun g => min g.length (wideN ls g)).sum
theorem mostOf_le (gs : List (List Nat)) : mostOf ls gs ≤ (gs.map List.length).sum := by
  induction gs with
  | nil => simp [mostOf]
  | cons g gs ih =>
    simp only [mostOf, List.map_cons, List.sum_cons] at ih ⊢
    omega
theorem mostOf_lt {gs : List (List Nat)} : mostOf ls gs < (gs.map List.length).sum ↔ ∃ g ∈ gs, wideN ls g < g.length := by
  induction gs with
  | nil => simp [mostOf]
  | cons g gs ih =>
    have hle := mostOf_le (ls := ls) gs
    have e : mostOf ls (g :: gs) = min g.length (wideN ls g) + mostOf ls gs := rfl
    simp only [e, List.map_cons, List.sum_cons, List.mem_cons]
    constructor
    · intro h
      by_cases c : wideN ls g < g.length
      · exact ⟨g, .inl rfl, c⟩
      · obtain ⟨g', h1, h2⟩ := ih.1 (by omega)
        exact ⟨g', .inr h1, h2⟩
    · rintro ⟨g', rfl | h1, h2⟩
      · omega
      · have := ih.2 ⟨g', h1, h2⟩
        omega
noncomputable def mostC (ls : List (List Int)) : Nat := mostOf ls (groupsC ls)
theorem mostC_le : mostC ls ≤ ls.length := by have := mostOf_le (ls := ls) (groupsC ls); rwa [sum_len] at this
theorem mostC_lt : mostC ls < ls.length ↔ ¬ Fits ls := by
  rw [fits_iff, mostC]
  have := mostOf_lt (ls := ls) (gs := groupsC ls)
  rw [sum_len] at this
  rw [this]
  constructor
  · rintro ⟨g, h1, h2⟩ h
    have := h g h1; omega
  · intro h
    simp only [Classical.not_forall, Nat.not_le] at h
    obtain ⟨g, h1, h2⟩ := h
    exact ⟨g, h1, h2⟩
theorem mostC_eq : mostC ls = ls.length ↔ Fits ls := by
  have := mostC_le (ls := ls)
  have := mostC_lt (ls := ls)
  constructor
  · intro h
    apply Classical.byContradiction
    intro c
    have := this.2 c
    omega
  · intro h
    by_cases c : mostC ls < ls.length
    · exact absurd h (this.1 c)
    · omega
noncomputable def crowdC (ls : List (List Int)) : Option (List Nat) := (groupsC ls).find? (crowdedB ls)
theorem crowdC_none : crowdC ls = none ↔ Fits ls := by
  rw [crowdC, List.find?_eq_none, fits_iff]
  constructor
  · intro h g hg
    have := h g hg
    simp only [crowdedB, decide_eq_true_eq] at this
    omega
  · intro h g hg
    have := h g hg
    simp only [crowdedB, decide_eq_true_eq]
    omega
theorem crowdC_some {g : List Nat} (h : crowdC ls = some g) : g ∈ groupsC ls ∧ wideN ls g < g.length := by
  refine ⟨List.mem_of_find?_eq_some h, ?_⟩
  have := List.find?_some h
  simpa [crowdedB] using this
theorem mem_groupsC {g : List Nat} (h : g ∈ groupsC ls) : g.Pairwise (· < ·) ∧ (∀ j ∈ g, j < ls.length) ∧ g ≠ [] := by
  obtain ⟨i, hi, rfl⟩ := List.mem_map.1 h
  have hl := (mem_heads.1 hi).1
  exact ⟨comp_sorted i, fun j hj => (mem_comp.1 hj).1, fun e => by have := comp_self (ls := ls) hl; rw [e] at this; cases this⟩
end
end Go.Proofs.YtephjmmkggcmeaaQ.CK
namespace Go.Proofs.YtephjmmkggcmeaaQ
open Go Go.RowKit Go.Proofs.YtephjmmkggcmeaaW.PrintWords Go.Proofs.YtephjmmkggcmeaaW.PrintMore Go.Proofs.YtephjmmkggcmeaaGp Go.Proofs.Ytephjmmkggcmeaa.PP
open CK (el comp heads groupsC putN passG growG Adj Pairs)
open Classical

def insI (s : Int) : List Int → List Int
  | [] => [s]
  | q :: t => if q < s then q :: insI s t else if q = s then q :: t else s :: q :: t
theorem insI_len (s : Int) : ∀ l, (insI s l).length ≤ l.length + 1
  | [] => by simp [insI]
  | q :: t => by
    have := insI_len s t
    unfold insI
    split
    · simp; omega
    · split <;> simp
theorem put_l0 (x0 : List Int) (s : Int) (hx : x0.length ≤ 1000000) : ∀ (t pre : List Int), x0 = pre ++ t →
    Ev (fun k => spec_l1Put.l0 k x0 s (pre.length : Int)) (pre ++ insI s t) := by
  intro t
  induction t with
  | nil =>
    intro pre h
    have hp : x0 = pre := by rw [h, List.append_nil]
    subst hp
    refine ev_succ ?_
    simp only [spec_l1Put.l0]
    refine ev_neg (by omega) (ev_bind _ (Ev.now _) (ev_pos (by omega) (ev_pos (by omega) (ev_bind _ (Ev.now _) ?_))))
    rw [Int.toNat_natCast, List.take_length, List.nil_append]
    refine ev_pos (by simp; omega) (ev_bind _ (Ev.now _) (ev_pos (by omega) (ev_bind _ (Ev.now _) (ev_bind _ (Ev.now _) (ev_pos (by simp; omega) (ev_some ?_))))))
    simp [insI]
  | cons q t ih =>
    intro pre h
    have hm : ((pre.length : Nat) : Int) < (x0.length : Int) := by rw [h]; exact lt_mid
    have hg : rd x0 (pre.length : Int) = q := by rw [h]; exact rd_mid
    refine ev_succ ?_
    simp only [spec_l1Put.l0, hg]
    refine ev_pos hm (ev_pos (by omega) ?_)
    unfold insI
    by_cases c : q < s
    · refine ev_pos c ?_
      rw [winc (by omega), if_pos c]
      have := ih (pre ++ [q]) (by rw [h]; simp)
      rw [len_one] at this
      simpa using this
    · refine ev_neg c ?_
      rw [if_neg c]
      by_cases d : q = s
      · refine ev_pos d (ev_some ?_)
        rw [if_pos d, h]
      · refine ev_neg d (ev_bind _ (Ev.now _) (ev_pos (by omega) (ev_bind _ (Ev.now _) ?_)))
        have et : x0.take pre.length = pre := by rw [h]; simp
        have ed : x0.drop pre.length = q :: t := by rw [h]; simp
        have hl : x0.length = pre.length + (t.length + 1) := by rw [h]; simp
        rw [Int.toNat_natCast, et, ed, List.nil_append, if_neg d]
        refine ev_pos (by simp; omega) (ev_bind _ (Ev.now _) (ev_pos (by omega) (ev_bind _ (Ev.now _) (ev_bind _ (Ev.now _) (ev_pos (by simp; omega) (ev_some ?_))))))
        simp
theorem put_f (l : List Int) (s : Int) (h : l.length ≤ 1000000) : Ev (fun k => spec_l1Put.f k l s) (insI s l) := put_l0 l s h l [] rfl
theorem zs_put (l : List Nat) (n : Nat) : insI (n : Int) (zs l) = zs (putN l n) := by
  induction l with
  | nil => rfl
  | cons x t ih =>
    have e : zs (x :: t) = (x : Int) :: zs t := rfl
    rw [e, insI, putN]
    by_cases c : x < n
    · rw [if_pos c, if_pos (by omega), ih]; rfl
    · rw [if_neg c, if_neg (by omega)]
      by_cases d : x = n
      · rw [if_pos d, if_pos (by omega)]; rfl
      · rw [if_neg d, if_neg (by omega)]; rfl
section
variable {L : List (List Int)}
theorem adj_pair {k i : Nat} {a b : Int} (h : el L i = [a, b]) : Adj L k i ↔ ((el L k).contains a = true ∨ (el L k).contains b = true) := by
  unfold Adj
  rw [h, List.contains_iff_mem, List.contains_iff_mem]
  constructor
  · rintro ⟨x, h1, h2⟩
    rcases List.mem_cons.1 h2 with rfl | h2
    · exact .inl h1
    · rw [List.mem_singleton.1 h2] at h1; exact .inr h1
  · rintro (h | h)
    · exact ⟨a, h, by simp⟩
    · exact ⟨b, h, by simp⟩
theorem cg_in {o s : List Nat} {i : Nat} (ho : o.length ≤ 2000) (hs : s.length ≤ 2000) (hin : i ∈ o) (p : List Int) {g : Bool} {R : List Int} (hi : i ≤ 1000)
    (H : Ev (fun k => spec_cuGroup.l1 k L (zs o) g L (L.length : Int) ((i + 1 : Nat) : Int)) R) : ∀ (t pre : List Nat), s = pre ++ t →
    Ev (fun k => spec_cuGroup.l2 k L (zs o) g (i : Int) p L (L.length : Int) (i : Int) (zs s) ((zs s).length : Int) (pre.length : Int)) R := by
  have hz : (zs s).length = s.length := zs_len s
  intro t
  induction t with
  | nil =>
    intro pre h
    have hp : s = pre := by rw [h, List.append_nil]
    subst hp
    refine ev_succ ?_
    simp only [spec_cuGroup.l2]
    rw [winc (i := i) (by omega)]
    exact ev_neg (by omega) H
  | cons x t ih =>
    intro pre h
    have hm : pre.length < s.length := by rw [h]; simp
    have h1 := ih (pre ++ [x]) (by rw [h]; simp)
    rw [len_one] at h1
    have hc := spec_l1Has_f (zs o) (i : Int) (by rw [zs_len]; omega)
    rw [zs_contains, decide_eq_true hin] at hc
    refine ev_succ ?_
    simp only [spec_cuGroup.l2]
    rw [winc (i := pre.length) (by omega)]
    exact ev_pos (by omega) (ev_pos (by omega) (ev_pos (by omega) (ev_bind _ hc (ev_pos rfl h1))))
theorem cg_l2 (hL : ∀ e ∈ L, e.length ≤ 1000) {o : List Nat} {i : Nat} (ho : o.length ≤ 1000) (hlt : ∀ k ∈ o, k < L.length) (hin : i ∉ o) {a b : Int} (he : el L i = [a, b]) {g : Bool} {R : List Int} (hi : i ≤ 1000)
    (H1 : (∃ k ∈ o, Adj L k i) → Ev (fun k => spec_cuGroup.l1 k L (zs (putN o i)) true L (L.length : Int) ((i + 1 : Nat) : Int)) R)
    (H2 : (¬ ∃ k ∈ o, Adj L k i) → Ev (fun k => spec_cuGroup.l1 k L (zs o) g L (L.length : Int) ((i + 1 : Nat) : Int)) R) : ∀ (t pre : List Nat), o = pre ++ t → (∀ k ∈ pre, ¬ Adj L k i) →
    Ev (fun k => spec_cuGroup.l2 k L (zs o) g (i : Int) [a, b] L (L.length : Int) (i : Int) (zs o) ((zs o).length : Int) (pre.length : Int)) R := by
  have hz : (zs o).length = o.length := zs_len o
  intro t
  induction t with
  | nil =>
    intro pre h hpre
    have hp : o = pre := by rw [h, List.append_nil]
    subst hp
    refine ev_succ ?_
    simp only [spec_cuGroup.l2]
    rw [winc (i := i) (by omega)]
    exact ev_neg (by omega) (H2 (fun ⟨k, hk, ha⟩ => hpre k hk ha))
  | cons x t ih =>
    intro pre h hpre
    have hm : pre.length < o.length := by rw [h]; simp
    have hx : rd (zs o) (pre.length : Int) = (x : Int) := by
      rw [zs_get o hm]
      simp [h]
    have hxo : x ∈ o := by rw [h]; simp
    have hxl := hlt x hxo
    have hc := spec_l1Has_f (zs o) (i : Int) (by rw [zs_len]; omega)
    rw [zs_contains, decide_eq_false hin] at hc
    have hel := el_len hL x
    have ha := spec_l1Has_f (el L x) a (by omega)
    have hb := spec_l1Has_f (el L x) b (by omega)
    have hput := put_f (zs o) (i : Int) (by rw [zs_len]; omega)
    rw [zs_put] at hput
    have hgo : Adj L x i → Ev (fun k => spec_cuGroup.l2 k L (zs (putN o i)) true (i : Int) [a, b] L (L.length : Int) (i : Int) (zs o) ((zs o).length : Int) ((pre.length + 1 : Nat) : Int)) R := fun had => by
      have := cg_in (o := putN o i) (s := o) (i := i) (by rw [CK.putN_len hin]; omega) (by omega) (CK.mem_putN.2 (.inr rfl)) [a, b] hi (H1 ⟨x, hxo, had⟩) t (pre ++ [x]) (by rw [h]; simp)
      rw [len_one] at this
      exact this
    refine ev_succ ?_
    simp only [spec_cuGroup.l2, hx, rdll_nat]
    rw [winc (i := pre.length) (by omega)]
    refine ev_pos (by omega) (ev_pos (by omega) (ev_pos (by omega) (ev_bind _ hc (ev_neg (by simp) (ev_pos (by omega) (ev_pos (by omega) (ev_pos (by simp) ?_)))))))
    refine ev_bind _ ha ?_
    by_cases c1 : (el L x).contains a = true
    · exact ev_pos c1 (ev_bind _ hput (hgo ((adj_pair he).2 (.inl c1))))
    · refine ev_neg c1 (ev_pos (by simp) (ev_bind _ hb ?_))
      by_cases c2 : (el L x).contains b = true
      · exact ev_pos c2 (ev_bind _ hput (hgo ((adj_pair he).2 (.inr c2))))
      · have h1 := ih (pre ++ [x]) (by rw [h]; simp) (fun k hk => by
          rcases List.mem_append.1 hk with hk | hk
          · exact hpre k hk
          · rw [List.mem_singleton.1 hk, adj_pair he]
            exact fun h => h.elim c1 c2)
        rw [len_one] at h1
        exact ev_neg c2 h1
theorem cg_l1 (hp : Pairs L) (hn : L.length ≤ 1000) (hL : ∀ e ∈ L, e.length ≤ 1000) {q : Nat} {R : List Int} : ∀ (d i : Nat) (o : List Nat) (g : Bool), i + d = L.length → CK.Part L q o →
    Ev (fun k => spec_cuGroup.l0 k L (zs (passG L d i o g).1) (passG L d i o g).2) R →
    Ev (fun k => spec_cuGroup.l1 k L (zs o) g L (L.length : Int) (i : Int)) R := by
  intro d
  induction d with
  | zero =>
    intro i o g hi hP H
    refine ev_succ ?_
    simp only [spec_cuGroup.l1, passG] at H ⊢
    exact ev_neg (by omega) H
  | succ d ih =>
    intro i o g hi hP H
    obtain ⟨a, b, he⟩ := hp i (by omega)
    have hlen := CK.part_len hP
    rw [passG] at H
    refine ev_succ ?_
    simp only [spec_cuGroup.l1, rdll_nat, he]
    refine ev_pos (by omega) (ev_pos (by omega) (ev_pos (by omega) ?_))
    by_cases c : i ∈ o
    · rw [if_neg (fun h => h.1 c)] at H
      exact cg_in (by omega) (by omega) c [a, b] (by omega) (ih (i + 1) o g (by omega) hP H) o [] rfl
    · by_cases e : ∃ k ∈ o, Adj L k i
      · rw [if_pos ⟨c, e⟩] at H
        obtain ⟨k, hk, ha⟩ := e
        exact cg_l2 hL (by omega) (fun k hk => (hP.sub k hk).1) c he (by omega) (fun _ => ih (i + 1) (putN o i) true (by omega) (hP.put (by omega) hk ha) H) (fun h => absurd ⟨k, hk, ha⟩ h) o [] rfl (fun k hk => by cases hk)
      · rw [if_neg (fun h => e h.2)] at H
        exact cg_l2 hL (by omega) (fun k hk => (hP.sub k hk).1) c he (by omega) (fun h => absurd h e) (fun _ => ih (i + 1) o g (by omega) hP H) o [] rfl (fun k hk => by cases hk)
theorem cg_l0 (hp : Pairs L) (hn : L.length ≤ 1000) (hL : ∀ e ∈ L, e.length ≤ 1000) {q : Nat} : ∀ (f : Nat) (o : List Nat), CK.Part L q o → L.length < f + o.length →
    Ev (fun k => spec_cuGroup.l0 k L (zs o) true) (zs (growG L f o)) := by
  intro f
  induction f with
  | zero => intro o h hf; have := CK.part_len h; omega
  | succ f ih =>
    intro o h hf
    obtain ⟨h1, h2, h3⟩ := CK.passG_part L.length 0 o false (by omega) h
    refine ev_succ ?_
    simp only [spec_cuGroup.l0]
    refine ev_pos (by trivial) (cg_l1 hp hn hL L.length 0 o false (by omega) h ?_)
    rw [growG]
    by_cases c : (passG L L.length 0 o false).2 = true
    · rw [if_pos c, c]
      refine ih _ h1 ?_
      rcases h3 c with e | h3
      · cases e
      · omega
    · rw [if_neg c, Bool.eq_false_iff.2 c]
      refine ev_succ ?_
      simp only [spec_cuGroup.l0]
      exact ev_neg (by simp) (Ev.now _)
theorem spec_cuGroup_f (hp : Pairs L) (hn : L.length ≤ 1000) (hL : ∀ e ∈ L, e.length ≤ 1000) {i : Nat} (hi : i < L.length) : Ev (fun k => spec_cuGroup.f k L (i : Int)) (zs (comp L i)) := by
  unfold spec_cuGroup.f
  have := cg_l0 hp hn hL (q := i) L.length [i] (CK.part_one hi) (by simp)
  rw [CK.growG_one hi] at this
  exact this
theorem spec_cuGroups_f (hp : Pairs L) (hn : L.length ≤ 1000) (hL : ∀ e ∈ L, e.length ≤ 1000) : Ev (fun k => spec_cuGroups.f k L) ((groupsC L).map zs) := by
  have H : ∀ (d i : Nat), i + d = L.length → Ev (fun k => spec_cuGroups.l0 k L ((((List.range i).filter fun x => decide (x ∈ heads L)).map (comp L)).map zs) (L.length : Int) (i : Int)) ((((List.range L.length).filter fun x => decide (x ∈ heads L)).map (comp L)).map zs) := by
    intro d
    induction d with
    | zero =>
      intro i hi
      obtain rfl : i = L.length := by omega
      refine ev_succ ?_
      simp only [spec_cuGroups.l0]
      exact ev_neg (by omega) (Ev.now _)
    | succ d ih =>
      intro i hi
      have hil : i < L.length := by omega
      have h1 := ih (i + 1) (by omega)
      have hg := spec_cuGroup_f hp hn hL hil
      have hm := CK.comp_self hil
      have hh := CK.comp_head hil
      have hlen : ((((List.range i).filter fun x => decide (x ∈ heads L)).map (comp L)).map zs).length ≤ i := by
        rw [List.length_map, List.length_map]
        have := List.length_filter_le (fun x => decide (x ∈ heads L)) (List.range i)
        rwa [List.length_range] at this
      have hpos : 0 < (zs (comp L i)).length := by rw [zs_len]; exact List.length_pos_of_mem hm
      have h0 : rd (zs (comp L i)) 0 = ((comp L i).headD 0 : Nat) := by
        cases hc : comp L i with
        | nil => rw [hc] at hm; cases hm
        | cons x t => rfl
      rw [List.range_succ, List.filter_append, List.map_append, List.map_append] at h1
      refine ev_succ ?_
      simp only [spec_cuGroups.l0]
      rw [winc (by omega)]
      refine ev_pos (by omega) (ev_bind _ hg (ev_pos (by omega) ?_))
      by_cases c : i ∈ heads L
      · rw [List.filter_cons, if_pos (by simpa using c), List.filter_nil] at h1
        exact ev_pos (by rw [h0]; have := hh.2 c; omega) (ev_pos (by omega) h1)
      · rw [List.filter_cons, if_neg (by simpa using c), List.filter_nil, List.map_nil, List.map_nil, List.append_nil] at h1
        exact ev_neg (by rw [h0]; intro e; exact c (hh.1 (by omega))) h1
  have e : (List.range L.length).filter (fun x => decide (x ∈ heads L)) = heads L := by
    have : ∀ x ∈ List.range L.length, decide (x ∈ heads L) = decide (∀ j, CK.Reach L x j → x ≤ j) := fun x hx => by
      rw [decide_eq_decide, CK.mem_heads]
      exact ⟨fun h => h.2, fun h => ⟨List.mem_range.1 hx, h⟩⟩
    unfold heads
    refine List.filter_congr (fun x hx => ?_)
    have := this x hx
    unfold heads at this
    exact this
  have h := H L.length 0 (by omega)
  unfold spec_cuGroups.f groupsC
  rw [e] at h
  exact h
end
end Go.Proofs.YtephjmmkggcmeaaQ
namespace Go.Proofs.YtephjmmkggcmeaaQ
open Go Go.RowKit Go.Proofs.YtephjmmkggcmeaaW.PrintWords Go.Proofs.YtephjmmkggcmeaaW.PrintMore Go.Proofs.YtephjmmkggcmeaaGp Go.Proofs.Ytephjmmkggcmeaa.PP
open CK (el groupsC Pairs wideN cellsL mostOf mostC)

def Small (L : List (List Int)) : Prop := ∀ i, ∀ x ∈ el L i, 0 ≤ x ∧ x ≤ 1000
theorem mem_nubI {l : List Int} {x : Int} : x ∈ nubI l ↔ x ∈ l := by
  induction l with
  | nil => simp [nubI]
  | cons y t ih =>
    rw [nubI]
    split
    · rename_i c
      rw [ih, List.mem_cons]
      refine ⟨.inr, fun h => h.elim (fun e => ?_) id⟩
      rw [e]; simpa using c
    · rw [List.mem_cons, List.mem_cons, ih]
theorem nodup_nubI (l : List Int) : (nubI l).Nodup := by
  induction l with
  | nil => simp [nubI]
  | cons y t ih =>
    rw [nubI]
    split
    · exact ih
    · rename_i c
      rw [List.nodup_cons]
      exact ⟨fun h => c (by simpa using mem_nubI.1 h), ih⟩
theorem okC_small {x : Int} (h : 0 ≤ x ∧ x ≤ 1000) : okC x = true := by
  unfold okC
  rw [Bool.and_eq_true, decide_eq_true_eq, decide_eq_true_eq]
  omega
section
variable {L : List (List Int)}
theorem impl_cellCount_f (hp : Pairs L) (hs : Small L) {g : List Nat} (hg : ∀ i ∈ g, i < L.length) (hl : g.length ≤ 1000000) : Ev (fun k => impl_cellCount.f k L (zs g)) ((wideN L g : Nat) : Int) := by
  have H : ∀ (t pre : List Nat) (S : List Int), g = pre ++ t → (∀ x, x ∈ S ↔ x ∈ cellsL L pre) → Ev (fun k => impl_cellCount.l0 k L S (zs g) ((zs g).length : Int) (pre.length : Int)) ((wideN L g : Nat) : Int) := by
    have hz : (zs g).length = g.length := zs_len g
    intro t
    induction t with
    | nil =>
      intro pre S h hS
      have hp : g = pre := by rw [h, List.append_nil]
      subst hp
      have e : (nubI S).length = wideN L g := by
        unfold wideN
        exact (CK.nubZ_len (nodup_nubI S) (fun x => mem_nubI.trans (hS x))).symm
      refine ev_succ ?_
      simp only [impl_cellCount.l0]
      exact ev_neg (by omega) (ev_some (by rw [e]))
    | cons x t ih =>
      intro pre S h hS
      have hm : pre.length < g.length := by rw [h]; simp
      have hx : rd (zs g) (pre.length : Int) = (x : Int) := by
        rw [zs_get g hm]
        simp [h]
      have hxl := hg x (by rw [h]; simp)
      obtain ⟨a, b, he⟩ := hp x hxl
      have ha := okC_small (hs x a (by rw [he]; simp))
      have hb := okC_small (hs x b (by rw [he]; simp))
      have h1 := ih (pre ++ [x]) (b :: a :: S) (by rw [h]; simp) (fun y => by
        rw [CK.mem_cellsL, List.mem_cons, List.mem_cons, hS, CK.mem_cellsL]
        constructor
        · rintro (e | e | ⟨i, hi, hy⟩)
          · exact ⟨x, by simp, by rw [he, e]; simp⟩
          · exact ⟨x, by simp, by rw [he, e]; simp⟩
          · exact ⟨i, List.mem_append_left _ hi, hy⟩
        · rintro ⟨i, hi, hy⟩
          rcases List.mem_append.1 hi with hi | hi
          · exact .inr (.inr ⟨i, hi, hy⟩)
          · rw [List.mem_singleton.1 hi, he] at hy
            rcases List.mem_cons.1 hy with e | hy
            · exact .inr (.inl e)
            · exact .inl (List.mem_singleton.1 hy))
      rw [len_one] at h1
      have r0 : rd [a, b] 0 = a := rfl
      have r1 : rd [a, b] 1 = b := rfl
      refine ev_succ ?_
      simp only [impl_cellCount.l0, hx, rdll_nat, he, r0, r1]
      rw [winc (i := pre.length) (by omega)]
      exact ev_pos (by omega) (ev_pos (by omega) (ev_pos (by omega) (ev_pos (by omega) (ev_pos (by omega) (ev_pos (by simp) (ev_pos (by simp) (ev_pos ha (ev_pos hb h1))))))))
  unfold impl_cellCount.f
  exact ev_pos (by rw [zs_len]; exact hl) (H g [] [] rfl (fun x => by simp [cellsL]))
theorem group_ok {g : List Nat} (h : g ∈ groupsC L) : (∀ i ∈ g, i < L.length) ∧ g.length ≤ L.length := by
  obtain ⟨i, hi, rfl⟩ := List.mem_map.1 h
  exact ⟨fun j hj => (CK.mem_comp.1 hj).1, by
    have := CK.nodup_leN (CK.comp_nodup (ls := L) i) (V := List.range L.length) (fun x hx => List.mem_range.2 (CK.mem_comp.1 hx).1)
    rwa [List.length_range] at this⟩
theorem zl_len (G : List (List Nat)) : (G.map zs).length = G.length := List.length_map _
theorem el_map {G : List (List Nat)} {q : Nat} (h : q < G.length) : el (G.map zs) q = zs G[q] := by
  rw [el_get (by rw [zl_len]; exact h), List.getElem_map]
theorem most_l0 (hp : Pairs L) (hs : Small L) (hn : L.length ≤ 1000) {G : List (List Nat)} (hG : ∀ g ∈ G, (∀ i ∈ g, i < L.length) ∧ g.length ≤ L.length) (hGl : G.length ≤ 1000) : ∀ (t pre : List (List Nat)), G = pre ++ t →
    Ev (fun k => impl_MostPlaced.l0 k L ((mostOf L pre : Nat) : Int) (G.map zs) ((G.map zs).length : Int) (pre.length : Int)) (((mostOf L G : Nat) : Int), true) := by
  have hz : (G.map zs).length = G.length := zl_len G
  intro t
  induction t with
  | nil =>
    intro pre h
    have hp : G = pre := by rw [h, List.append_nil]
    subst hp
    refine ev_succ ?_
    simp only [impl_MostPlaced.l0]
    exact ev_neg (by omega) (Ev.now _)
  | cons g t ih =>
    intro pre h
    have hm : pre.length < G.length := by rw [h]; simp
    have hgG : g ∈ G := by rw [h]; simp
    obtain ⟨g1, g2⟩ := hG g hgG
    have he : el (G.map zs) pre.length = zs g := by
      rw [el_map hm]
      simp [h]
    have hc := impl_cellCount_f hp hs g1 (by omega)
    have h1 := ih (pre ++ [g]) (by rw [h]; simp)
    have hle := CK.mostOf_le (ls := L) pre
    have hsum : (pre.map List.length).sum ≤ 1000 * pre.length := by
      have : ∀ P : List (List Nat), (∀ p ∈ P, p.length ≤ 1000) → (P.map List.length).sum ≤ 1000 * P.length := by
        intro P
        induction P with
        | nil => intro _; simp
        | cons p P ihP =>
          intro hP
          have a1 := hP p List.mem_cons_self
          have a2 := ihP (fun q hq => hP q (List.mem_cons_of_mem _ hq))
          simp only [List.map_cons, List.sum_cons, List.length_cons]
          omega
      exact this pre (fun p hp => by have := (hG p (by rw [h]; exact List.mem_append_left _ hp)).2; omega)
    have em : mostOf L (pre ++ [g]) = mostOf L pre + min g.length (wideN L g) := by
      unfold mostOf
      rw [List.map_append, List.sum_append]
      simp
    rw [len_one, em] at h1
    have hw : wrap64 (((mostOf L pre : Nat) : Int) + mn ((wideN L g : Nat) : Int) ((zs g).length : Int)) = ((mostOf L pre + min g.length (wideN L g) : Nat) : Int) := by
      rw [zs_len]
      have hmn : mn ((wideN L g : Nat) : Int) (g.length : Int) = ((min g.length (wideN L g) : Nat) : Int) := by unfold mn; split <;> omega
      rw [hmn, w64 (by omega) (by omega)]
      omega
    refine ev_succ ?_
    simp only [impl_MostPlaced.l0, rdll_nat, he]
    rw [winc (i := pre.length) (by omega)]
    refine ev_pos (by omega) (ev_pos (by omega) (ev_pos (by omega) (ev_bind _ hc ?_)))
    rw [hw]
    exact h1
end
section
variable {a n : Int} {l : List ByteArray}
theorem place_small (h : keyedC a l n = true) (s : ByteArray) {c : Int} : 0 ≤ placeV a c s n ∧ placeV a c s n ≤ 1000 := by
  obtain ⟨_, _, h3, h4⟩ := keyedC_ok h
  have := placeV_range a c s h3 (by omega)
  omega
theorem prs_small (h : keyedC a l n = true) : Small (prs a n l) := by
  intro i x hx
  by_cases c : i < l.length
  · rw [prs_el c] at hx
    rcases List.mem_cons.1 hx with e | hx
    · rw [e]; exact place_small h _
    · rw [List.mem_singleton.1 hx]; exact place_small h _
  · unfold el at hx
    rw [List.getD_eq_getElem?_getD, List.getElem?_eq_none (by rw [prs_len]; omega)] at hx
    cases hx
theorem impl_MostPlaced_f (h : keyedC a l n = true) : Ev (fun k => impl_MostPlaced.f k a l n) (((mostC (prs a n l) : Nat) : Int), true) := by
  obtain ⟨h1, h2, h3⟩ := keyedC_ok h
  obtain ⟨hl, hz⟩ := keys_small h2
  have hpf := impl_pairs_f a n (l := l) (by omega) hz
  rw [if_pos h] at hpf
  have hpl := prs_len a n l
  have hgr := impl_groups_val (L := prs a n l) (by omega) prs_two
  have hgl := CK.heads_len (ls := prs a n l)
  unfold impl_MostPlaced.f
  refine ev_bind _ hpf (ev_pos rfl (ev_bind _ hgr ?_))
  exact most_l0 (prs_pairs a n l) (prs_small h) (by omega) (fun g hg => group_ok hg) (by omega) _ [] rfl
end
end Go.Proofs.YtephjmmkggcmeaaQ
namespace Go.Proofs.YtephjmmkggcmeaaQ
open Go Go.RowKit Go.Proofs.YtephjmmkggcmeaaW.PrintWords Go.Proofs.YtephjmmkggcmeaaGp Go.Proofs.Ytephjmmkggcmeaa.PP

theorem goesI_iff : ∀ (l S : List Int), goesI S l = true ↔ l.Nodup ∧ ∀ x ∈ l, x ∉ S
  | [], S => by simp [goesI]
  | x :: t, S => by
    rw [goesI, Bool.and_eq_true, goesI_iff t (x :: S)]
    simp only [Bool.not_eq_true', List.contains_eq_mem, decide_eq_false_iff_not, List.nodup_cons, List.mem_cons, not_or]
    constructor
    · rintro ⟨h1, h2, h3⟩
      refine ⟨⟨fun h => (h3 x h).1 rfl, h2⟩, fun y hy => ?_⟩
      rcases hy with rfl | hy
      · exact h1
      · exact (h3 y hy).2
    · rintro ⟨⟨h1, h2⟩, h3⟩
      exact ⟨h3 x (.inl rfl), h2, fun y hy => ⟨fun e => h1 (e ▸ hy), h3 y (.inr hy)⟩⟩
def nodB (l : List Int) : Bool := goesI [] l
theorem nodB_iff {l : List Int} : nodB l = true ↔ l.Nodup := by unfold nodB; rw [goesI_iff]; simp
end Go.Proofs.YtephjmmkggcmeaaQ
namespace Go.Proofs.YtephjmmkggcmeaaQ
open Go Go.RowKit Go.Proofs.YtephjmmkggcmeaaW.PrintWords Go.Proofs.YtephjmmkggcmeaaW.PrintMore Go.Proofs.YtephjmmkggcmeaaGp Go.Proofs.Ytephjmmkggcmeaa.PP
open CK (el groupsC Pairs wideN cellsL mostOf mostC Fits greedy)
open Classical

theorem mem_insI {s x : Int} : ∀ {l : List Int}, x ∈ insI s l ↔ x ∈ l ∨ x = s
  | [] => by simp [insI]
  | q :: t => by
    rw [insI]
    split
    · rw [List.mem_cons, mem_insI, List.mem_cons, or_assoc]
    · split
      · rename_i e
        rw [List.mem_cons]
        exact ⟨.inl, fun h => h.elim id (fun h => .inl (h.trans e.symm))⟩
      · rw [List.mem_cons, List.mem_cons]
        exact ⟨fun h => h.elim .inr .inl, fun h => h.elim .inr .inl⟩
theorem sorted_insI {s : Int} : ∀ {l : List Int}, l.Pairwise (· < ·) → (insI s l).Pairwise (· < ·)
  | [], _ => by simp [insI]
  | q :: t, h => by
    rw [List.pairwise_cons] at h
    rw [insI]
    split
    · rename_i c
      rw [List.pairwise_cons]
      refine ⟨fun x hx => ?_, sorted_insI h.2⟩
      rcases mem_insI.1 hx with hx | rfl
      · exact h.1 x hx
      · exact c
    · split
      · exact List.pairwise_cons.2 h
      · rw [List.pairwise_cons]
        refine ⟨fun x hx => ?_, List.pairwise_cons.2 h⟩
        rcases List.mem_cons.1 hx with rfl | hx
        · omega
        · have := h.1 x hx; omega
section
variable {L : List (List Int)}
theorem spec_cuWide_f (hp : Pairs L) {g : List Nat} (hg : ∀ i ∈ g, i < L.length) (hl : g.length ≤ 10000) : Ev (fun k => spec_cuWide.f k L (zs g)) ((wideN L g : Nat) : Int) := by
  have hz : (zs g).length = g.length := zs_len g
  have H : ∀ (t pre : List Nat) (S : List Int), g = pre ++ t → S.Pairwise (· < ·) → S.length ≤ 2 * pre.length → (∀ x, x ∈ S ↔ x ∈ cellsL L pre) → Ev (fun k => spec_cuWide.l0 k L S (zs g) ((zs g).length : Int) (pre.length : Int)) ((wideN L g : Nat) : Int) := by
    intro t
    induction t with
    | nil =>
      intro pre S h hs hsl hS
      have hp : g = pre := by rw [h, List.append_nil]
      subst hp
      have e : S.length = wideN L g := by
        unfold wideN
        exact (CK.nubZ_len (hs.imp (fun h => Int.ne_of_lt h)) hS).symm
      refine ev_succ ?_
      simp only [spec_cuWide.l0]
      exact ev_neg (by omega) (ev_some (by rw [e]))
    | cons x t ih =>
      intro pre S h hs hsl hS
      have hm : pre.length < g.length := by rw [h]; simp
      have hx : rd (zs g) (pre.length : Int) = (x : Int) := by
        rw [zs_get g hm]
        simp [h]
      have hxl := hg x (by rw [h]; simp)
      obtain ⟨a, b, he⟩ := hp x hxl
      have pa := put_f S a (by omega)
      have la := insI_len a S
      have pb := put_f (insI a S) b (by omega)
      have lb := insI_len b (insI a S)
      have h1 := ih (pre ++ [x]) (insI b (insI a S)) (by rw [h]; simp) (sorted_insI (sorted_insI hs)) (by rw [List.length_append, List.length_singleton]; omega) (fun y => by
        rw [CK.mem_cellsL, mem_insI, mem_insI, hS, CK.mem_cellsL]
        constructor
        · rintro ((⟨i, hi, hy⟩ | e) | e)
          · exact ⟨i, List.mem_append_left _ hi, hy⟩
          · exact ⟨x, by simp, by rw [he, e]; simp⟩
          · exact ⟨x, by simp, by rw [he, e]; simp⟩
        · rintro ⟨i, hi, hy⟩
          rcases List.mem_append.1 hi with hi | hi
          · exact .inl (.inl ⟨i, hi, hy⟩)
          · rw [List.mem_singleton.1 hi, he] at hy
            rcases List.mem_cons.1 hy with e | hy
            · exact .inl (.inr e)
            · exact .inr (List.mem_singleton.1 hy))
      rw [len_one] at h1
      have r0 : rd [a, b] 0 = a := rfl
      have r1 : rd [a, b] 1 = b := rfl
      refine ev_succ ?_
      simp only [spec_cuWide.l0, hx, rdll_nat, he, r0, r1]
      rw [winc (i := pre.length) (by omega)]
      exact ev_pos (by omega) (ev_pos (by omega) (ev_pos (by omega) (ev_pos (by omega) (ev_pos (by omega) (ev_pos (by simp) (ev_bind _ pa (ev_pos (by simp) (ev_bind _ pb h1))))))))
  unfold spec_cuWide.f
  exact H g [] [] rfl (by simp) (by simp) (fun x => by simp [cellsL])
theorem least_f (a b : Int) : spec_l1Least.f a b = some (if a < b then a else b) := by
  unfold spec_l1Least.f
  split <;> rfl
theorem mostN_f (a b : Int) : spec_l1Most.f a b = some (if a > b then a else b) := by
  unfold spec_l1Most.f
  split <;> rfl
theorem spec_cuMost_f (hp : Pairs L) (hn : L.length ≤ 1000) (hL : ∀ e ∈ L, e.length ≤ 1000) : Ev (fun k => spec_cuMost.f k L) ((mostC L : Nat) : Int) := by
  have hGl := CK.heads_len (ls := L)
  have hz : ((groupsC L).map zs).length = (groupsC L).length := zl_len _
  have H : ∀ (t pre : List (List Nat)), groupsC L = pre ++ t → Ev (fun k => spec_cuMost.l0 k L ((mostOf L pre : Nat) : Int) ((groupsC L).map zs) (((groupsC L).map zs).length : Int) (pre.length : Int)) ((mostC L : Nat) : Int) := by
    intro t
    induction t with
    | nil =>
      intro pre h
      have hp : groupsC L = pre := by rw [h, List.append_nil]
      refine ev_succ ?_
      simp only [spec_cuMost.l0]
      rw [← hp]
      exact ev_neg (by omega) (Ev.now _)
    | cons g t ih =>
      intro pre h
      have hm : pre.length < (groupsC L).length := by rw [h]; simp
      have hgG : g ∈ groupsC L := by rw [h]; simp
      obtain ⟨g1, g2⟩ := group_ok hgG
      have he : el ((groupsC L).map zs) pre.length = zs g := by
        rw [el_map hm]
        simp [h]
      have hc := spec_cuWide_f hp g1 (by omega)
      have h1 := ih (pre ++ [g]) (by rw [h]; simp)
      have hle := CK.mostOf_le (ls := L) pre
      have hsm : (pre.map List.length).sum = pre.flatten.length := by rw [List.length_flatten]
      have hfl := CK.flat_len (ls := L)
      rw [h, List.flatten_append, List.length_append] at hfl
      have em : mostOf L (pre ++ [g]) = mostOf L pre + min g.length (wideN L g) := by
        unfold mostOf
        rw [List.map_append, List.sum_append]
        simp
      rw [len_one, em] at h1
      have hmin : (if ((zs g).length : Int) < ((wideN L g : Nat) : Int) then ((zs g).length : Int) else ((wideN L g : Nat) : Int)) = ((min g.length (wideN L g) : Nat) : Int) := by
        rw [zs_len]; split <;> omega
      refine ev_succ ?_
      simp only [spec_cuMost.l0, rdll_nat, he, least_f]
      rw [winc (i := pre.length) (by omega)]
      refine ev_pos (by omega) (ev_pos (by omega) (ev_pos (by omega) (ev_bind _ hc (ev_bind _ (Ev.now _) ?_))))
      rw [hmin, w64 (by omega) (by omega), show ((mostOf L pre : Nat) : Int) + ((min g.length (wideN L g) : Nat) : Int) = ((mostOf L pre + min g.length (wideN L g) : Nat) : Int) from by omega]
      exact h1
  unfold spec_cuMost.f
  exact ev_bind _ (spec_cuGroups_f hp hn hL) (H _ [] rfl)
theorem two_set {F : List (List Int)} (hF : ∀ e ∈ F, e.length ≤ 1000) (i : Nat) (a b : Int) : ∀ e ∈ F.set i [a, b], e.length ≤ 1000 := fun e he => by
  rcases List.mem_or_eq_of_mem_set he with h | h
  · exact hF e h
  · rw [h]; simp
theorem place_l0 (hn : L.length ≤ 1000) : ∀ (d i : Nat) (F : List (List Int)) (acc : List Int), i + d = L.length → F.length = L.length → Pairs F → (∀ e ∈ F, e.length ≤ 1000) → (∀ j, i ≤ j → el F j = el L j) → acc.length = i →
    Ev (fun k => spec_cuPlace.l0 k L F acc L (L.length : Int) (i : Int)) (acc ++ greedy d i F, true) := by
  intro d
  induction d with
  | zero =>
    intro i F acc hi hl hp hF hj ha
    refine ev_succ ?_
    simp only [spec_cuPlace.l0, greedy, List.append_nil]
    exact ev_neg (by omega) (Ev.now _)
  | succ d ih =>
    intro i F acc hi hl hp hF hj ha
    obtain ⟨a, b, he⟩ := hp i (by omega)
    have heL : el L i = [a, b] := by rw [← hj i (Nat.le_refl _)]; exact he
    have g0 : (el F i).getD 0 0 = a := by rw [he]; rfl
    have g1 : (el F i).getD 1 0 = b := by rw [he]; rfl
    have r0 : rd [a, b] 0 = a := rfl
    have r1 : rd [a, b] 1 = b := rfl
    rw [greedy]
    simp only [g0, g1]
    generalize hlo : (if a ≤ b then a else b) = lo
    generalize hhi : (if a ≤ b then b else a) = hi2
    have elo : (if a < b then a else b) = lo := by rw [← hlo]; split <;> split <;> omega
    have ehi : (if a > b then a else b) = hi2 := by rw [← hhi]; split <;> split <;> omega
    have hm := spec_cuMost_f (L := F.set i [lo, lo]) (hp.set i lo lo) (by rw [List.length_set]; omega) (two_set hF i lo lo)
    have hml := CK.mostC_lt (ls := F.set i [lo, lo])
    have hset : ∀ v : Int, ∀ j, i + 1 ≤ j → el (F.set i [v, v]) j = el L j := fun v j hji => by rw [CK.el_set_ne (by omega), hj j (by omega)]
    have s1 : ∀ v : Int, Ev (fun k => spec_cuPlace.l0 k L (F.set i [v, v]) (acc ++ [v]) L (L.length : Int) ((i + 1 : Nat) : Int)) (acc ++ [v] ++ greedy d (i + 1) (F.set i [v, v]), true) := fun v =>
      ih (i + 1) (F.set i [v, v]) (acc ++ [v]) (by omega) (by rw [List.length_set]; exact hl) (hp.set i v v) (two_set hF i v v) (hset v) (by simp [ha])
    rw [List.length_set, hl] at hml
    refine ev_succ ?_
    simp only [spec_cuPlace.l0, rdll_nat, heL, r0, r1, least_f, mostN_f, elo, ehi, Int.toNat_natCast]
    rw [winc (i := i) (by omega)]
    refine ev_pos (by omega) (ev_pos (by omega) (ev_pos (by omega) (ev_pos (by simp) (ev_pos (by simp) (ev_bind _ (Ev.now _) (ev_pos (by omega) (ev_bind _ (Ev.now _) (ev_bind _ hm ?_))))))))
    simp only [List.set_set]
    by_cases c : Fits (F.set i [lo, lo])
    · rw [if_pos c]
      refine ev_neg (fun h => (hml.1 (by omega)) c) (ev_pos (by omega) ?_)
      have := s1 lo
      rw [List.append_assoc] at this
      exact this
    · rw [if_neg c]
      refine ev_pos (by have := hml.2 c; omega) (ev_bind _ (Ev.now _) (ev_pos (by omega) ?_))
      have := s1 hi2
      rw [List.append_assoc] at this
      exact this
noncomputable def placeC (L : List (List Int)) : List Int × Bool := if Fits L then (greedy L.length 0 L, true) else ([], false)
theorem spec_cuPlace_f (hp : Pairs L) (hn : L.length ≤ 1000) (hL : ∀ e ∈ L, e.length ≤ 1000) : Ev (fun k => spec_cuPlace.f k L) (placeC L) := by
  have hm := spec_cuMost_f hp hn hL
  have hml := CK.mostC_lt (ls := L)
  unfold spec_cuPlace.f placeC
  refine ev_bind _ hm ?_
  by_cases c : Fits L
  · rw [if_pos c]
    refine ev_neg (fun h => (hml.1 (by omega)) c) (ev_bind _ (Ev.now _) (ev_pos (by simp; omega) ?_))
    have := place_l0 hn L.length 0 L [] (by omega) rfl hp hL (fun _ _ => rfl) rfl
    exact this
  · rw [if_neg c]
    exact ev_pos (by have := hml.2 c; omega) (Ev.now _)
def IsPl (L : List (List Int)) (pl : List Int) : Prop := pl.length = L.length ∧ pl.Nodup ∧ ∀ j, j < L.length → pl.getD j 0 ∈ el L j
theorem distinct_ok {l : List Int} (hl : l.length ≤ 1000000) (hr : ∀ x ∈ l, -1000000 ≤ x ∧ x ≤ 1000000) : impl_distinct.f l = some (nodB l) := by
  unfold impl_distinct.f
  refine if_pos ⟨hl, ?_⟩
  rw [List.all_eq_true]
  intro x hx
  have := hr x hx
  simp [okI]
  omega
theorem impl_isPlacement_f (hn : L.length ≤ 1000) (hL : ∀ e ∈ L, e.length ≤ 1000) {pl : List Int} (hr : ∀ x ∈ pl, -1000000 ≤ x ∧ x ≤ 1000000) : Ev (fun k => impl_isPlacement.f k L pl) (decide (IsPl L pl)) := by
  have jt : Ev (fun k => impl_isPlacement.j0 k L pl true) false := ev_succ (by simp only [impl_isPlacement.j0]; exact ev_pos (by trivial) (Ev.now _))
  have H : pl.length = L.length → ∀ (d i : Nat), i + d = pl.length → Ev (fun k => impl_isPlacement.l0 k L pl (pl.length : Int) (i : Int)) (decide (∀ j, i ≤ j → j < L.length → pl.getD j 0 ∈ el L j)) := by
    intro hlen d
    induction d with
    | zero =>
      intro i hi
      refine ev_succ ?_
      simp only [impl_isPlacement.l0]
      exact ev_neg (by omega) (ev_some (decide_eq_true (fun j h1 h2 => by omega)).symm)
    | succ d ih =>
      intro i hi
      have h1 := ih (i + 1) (by omega)
      have hc := slices_Contains_int_f (el L i) (pl.getD i 0) (by have := el_len hL i; omega)
      refine ev_succ ?_
      simp only [impl_isPlacement.l0, rd_nat, rdll_nat]
      rw [winc (i := i) (by omega)]
      refine ev_pos (by omega) (ev_pos (by omega) (ev_pos (by omega) (ev_pos (by omega) (ev_bind _ hc ?_))))
      by_cases c : (el L i).contains (pl.getD i 0) = true
      · refine ev_pos c ?_
        rw [show (decide (∀ j, i ≤ j → j < L.length → pl.getD j 0 ∈ el L j)) = decide (∀ j, i + 1 ≤ j → j < L.length → pl.getD j 0 ∈ el L j) from by
          rw [decide_eq_decide]
          refine ⟨fun h j h1 h2 => h j (by omega) h2, fun h j h1 h2 => ?_⟩
          by_cases e : j = i
          · subst e; exact List.contains_iff_mem.1 c
          · exact h j (by omega) h2]
        exact h1
      · exact ev_neg c (ev_some (decide_eq_false (fun h => c (List.contains_iff_mem.2 (h i (Nat.le_refl _) (by omega))))).symm)
  unfold impl_isPlacement.f
  by_cases e : pl.length = L.length
  · refine ev_pos (by omega) ?_
    rw [distinct_ok (by omega) hr]
    refine ev_bind _ (Ev.now _) ?_
    by_cases c : pl.Nodup
    · rw [nodB_iff.2 c]
      refine ev_succ ?_
      simp only [impl_isPlacement.j0]
      refine ev_neg (by simp) ?_
      have := H e pl.length 0 (by omega)
      rw [show decide (IsPl L pl) = decide (∀ j, 0 ≤ j → j < L.length → pl.getD j 0 ∈ el L j) from by
        rw [decide_eq_decide]
        exact ⟨fun h j _ h2 => h.2.2 j h2, fun h => ⟨e, c, fun j hj => h j (by omega) hj⟩⟩]
      exact this
    · rw [Bool.eq_false_iff.2 (fun h => c (nodB_iff.1 h)), decide_eq_false (fun h : IsPl L pl => c h.2.1)]
      exact jt
  · rw [decide_eq_false (fun h : IsPl L pl => e h.1)]
    exact ev_neg (by omega) jt
theorem getD_lt {pl : List Int} {j : Nat} (h : j < pl.length) : pl.getD j 0 = pl[j] := by rw [List.getD_eq_getElem?_getD, List.getElem?_eq_getElem h]; rfl
theorem IsPl.small (h : Small L) {pl : List Int} (hp : IsPl L pl) : ∀ x ∈ pl, 0 ≤ x ∧ x ≤ 1000 := by
  intro x hx
  obtain ⟨i, hi, e⟩ := List.mem_iff_getElem.1 hx
  have := hp.2.2 i (by rw [← hp.1]; exact hi)
  rw [getD_lt hi, e] at this
  exact h i x this
theorem placeC_pl (hp : Pairs L) (h : Fits L) : IsPl L (placeC L).1 := by
  obtain ⟨h1, h2⟩ := CK.greedy_places hp h
  unfold placeC
  rw [if_pos h]
  exact ⟨CK.greedy_len _ _ _, h1, h2⟩
end
end Go.Proofs.YtephjmmkggcmeaaQ
namespace Go.Proofs.YtephjmmkggcmeaaQ
open Go Go.RowKit Go.Proofs.YtephjmmkggcmeaaW.PrintWords Go.Proofs.YtephjmmkggcmeaaW.PrintMore Go.Proofs.YtephjmmkggcmeaaGp Go.Proofs.Ytephjmmkggcmeaa.PP
open CK (el groupsC Pairs wideN cellsL mostOf mostC Fits greedy crowdC crowdedB)

def risF (lo hi : Int) : Option Int → List Int → Bool
  | _, [] => true
  | p, x :: t => decide (lo ≤ x ∧ x ≤ hi) && (match p with | none => true | some q => decide (q < x)) && risF lo hi (some x) t
theorem last_int {pre : List Int} (h : 0 < pre.length) : ∃ q p, pre = q ++ [p] := by
  rcases List.eq_nil_or_concat pre with e | ⟨q, p, e⟩
  · rw [e] at h; simp at h
  · exact ⟨q, p, by rw [e]; simp⟩
theorem rd_last {pre t : List Int} {p s : Int} : rd ((pre ++ [p]) ++ s :: t) ((pre.length : Nat) : Int) = p := by simp [rd]
theorem rising_cast : ∀ (n : Int) (p : Option Int) (l : List Int), risF 0 n p l = true → (∀ x ∈ l, 0 ≤ x ∧ x ≤ n) ∧ l.Pairwise (· < ·) ∧ ∀ q, p = some q → ∀ x ∈ l, q < x
  | n, p, [], _ => by simp
  | n, p, x :: t, h => by
    simp only [risF, Bool.and_eq_true, decide_eq_true_eq] at h
    obtain ⟨⟨h1, h2⟩, h3⟩ := h
    obtain ⟨g1, g2, g3⟩ := rising_cast n (some x) t h3
    refine ⟨fun y hy => ?_, List.pairwise_cons.2 ⟨g3 x rfl, g2⟩, fun q hq y hy => ?_⟩
    · rcases List.mem_cons.1 hy with rfl | hy
      · exact h1
      · exact g1 y hy
    · subst hq
      simp only [decide_eq_true_eq] at h2
      rcases List.mem_cons.1 hy with rfl | hy
      · exact h2
      · have := g3 x rfl y hy; omega
theorem impl_indices_l0 (n : Int) (hn : 0 ≤ n) (hn' : n ≤ 1000000) (x0 : List Int) (hl : (x0.length : Int) ≤ 9223372036854775806) : ∀ (t pre : List Int), x0 = pre ++ t →
    Ev (fun k => impl_indicesOk.l0 k x0 n x0 (x0.length : Int) (pre.length : Int)) (risF 0 (n - 1) pre.getLast? t && decide ((x0.length : Int) > 0)) := by
  intro t
  induction t with
  | nil =>
    intro pre h
    refine ev_succ ?_
    simp only [impl_indicesOk.l0]
    exact ev_neg (by rw [h]; exact not_lt_end) (ev_some (by simp [risF]))
  | cons x t ih =>
    intro pre h
    have hm : ((pre.length : Nat) : Int) < (x0.length : Int) := by rw [h]; exact lt_mid
    have hg : rd x0 (pre.length : Int) = x := by rw [h]; exact rd_mid
    have next := ih (pre ++ [x]) (by rw [h]; simp)
    rw [len_one, List.getLast?_append, List.getLast?_singleton, Option.some_or] at next
    refine ev_succ ?_
    simp only [impl_indicesOk.l0, hg]
    rw [w64 (x := n - 1) (by omega) (by omega), impl_in]
    refine ev_pos hm (ev_pos (by omega) (ev_pos hm (ev_bind _ (Ev.now _) ?_)))
    rw [winc (by omega)]
    unfold risF
    by_cases c : 0 ≤ x ∧ x ≤ n - 1
    · rw [decide_eq_true c, Bool.true_and]
      refine ev_pos rfl ?_
      by_cases p0 : 0 < pre.length
      · obtain ⟨q, p, rfl⟩ := last_int p0
        have hq : rd x0 (q.length : Int) = p := by rw [h]; exact rd_last
        have hlen : (q ++ [p]).length = q.length + 1 := by simp
        rw [hlen] at hm next ⊢
        rw [List.getLast?_append, List.getLast?_singleton, Option.some_or, wdec (by omega)]
        refine ev_pos (by omega) (ev_pos (by omega) (ev_pos (by omega) ?_))
        rw [hq]
        by_cases d : p < x
        · simp only [decide_eq_true d, Bool.true_and]
          exact ev_neg (by omega) next
        · simp only [decide_eq_false d, Bool.false_and]
          exact ev_pos (by omega) (Ev.now _)
      · have : pre = [] := List.length_eq_zero_iff.1 (by omega)
        subst this
        simp only [List.getLast?_nil, Bool.true_and]
        exact ev_neg (by simp) next
    · rw [decide_eq_false c]
      exact ev_neg (by simp) (ev_some (by simp))
theorem impl_indices_f (n : Int) (hn : 0 ≤ n) (hn' : n ≤ 1000000) (l : List Int) (hl : (l.length : Int) ≤ 9223372036854775806) : Ev (fun k => impl_indicesOk.f k l n) (risF 0 (n - 1) none l && decide ((l.length : Int) > 0)) := by
  unfold impl_indicesOk.f
  exact impl_indices_l0 n hn hn' l hl l [] rfl
theorem ris_zs {n : Nat} {l : List Int} (h : risF 0 ((n : Int) - 1) none l = true) : ∃ g, l = zs g ∧ (∀ i ∈ g, i < n) ∧ g.Pairwise (· < ·) := by
  obtain ⟨h1, h2, _⟩ := rising_cast _ _ _ h
  refine ⟨l.map Int.toNat, ?_, ?_, ?_⟩
  · unfold zs
    rw [List.map_map]
    have : ∀ x ∈ l, ((fun (n : Nat) => (n : Int)) ∘ Int.toNat) x = x := fun x hx => by
      have := h1 x hx
      simp only [Function.comp]
      omega
    rw [List.map_congr_left this, List.map_id']
  · intro i hi
    obtain ⟨x, hx, rfl⟩ := List.mem_map.1 hi
    have := h1 x hx
    omega
  · rw [List.pairwise_map]
    refine List.Pairwise.imp_of_mem (fun {a b} ha hb hab => ?_) h2
    have := h1 a ha
    have := h1 b hb
    omega
theorem zs_ris : ∀ (n : Nat) (p : Option Int) (S : List Nat), S.Pairwise (· < ·) → (∀ x ∈ S, x < n) → (∀ q, p = some q → ∀ x ∈ S, q < (x : Int)) → risF 0 ((n : Int) - 1) p (zs S) = true
  | n, p, [], _, _, _ => rfl
  | n, p, x :: t, hp, hl, hq => by
    rw [List.pairwise_cons] at hp
    have ih := zs_ris n (some (x : Int)) t hp.2 (fun y hy => hl y (by simp [hy])) (fun q e y hy => by cases e; have := hp.1 y hy; omega)
    have hx := hl x (by simp)
    have e : zs (x :: t) = (x : Int) :: zs t := rfl
    have hb : decide (0 ≤ (x : Int) ∧ (x : Int) ≤ (n : Int) - 1) = true := decide_eq_true (by omega)
    rw [e]
    cases p with
    | none => simp only [risF, ih, hb, Bool.and_true]
    | some q => simp only [risF, ih, hb, decide_eq_true (hq q rfl x (by simp)), Bool.and_true]
open Classical
section
variable {L : List (List Int)}
theorem idx_crowd (hp : Pairs L) (hs : Small L) {G : List (List Nat)} (hG : ∀ g ∈ G, (∀ i ∈ g, i < L.length) ∧ g.length ≤ 1000) (hGl : G.length ≤ 1000) : ∀ (t pre : List (List Nat)), G = pre ++ t →
    ∃ r : Int, Ev (fun k => slices_IndexFunc_int_int_at_impl_placed_1.l0 k (G.map zs) ((G.map zs).length : Int) (pre.length : Int) L) r ∧ decide (r ≥ 0) = t.any (crowdedB L) := by
  have hz : (G.map zs).length = G.length := zl_len G
  intro t
  induction t with
  | nil =>
    intro pre h
    have hp : G = pre := by rw [h, List.append_nil]
    subst hp
    refine ⟨-1, ev_succ ?_, rfl⟩
    simp only [slices_IndexFunc_int_int_at_impl_placed_1.l0]
    exact ev_neg (by omega) (Ev.now _)
  | cons g t ih =>
    intro pre h
    have hm : pre.length < G.length := by rw [h]; simp
    have he : el (G.map zs) pre.length = zs g := by
      rw [el_map hm]
      simp [h]
    obtain ⟨g1, g2⟩ := hG g (by rw [h]; simp)
    have hc := impl_cellCount_f hp hs g1 (by omega)
    have e1 : Ev (fun k => impl_placed_1.f k (zs g) L) (crowdedB L g) := by
      unfold impl_placed_1.f
      refine ev_bind _ hc (ev_some ?_)
      unfold crowdedB
      rw [zs_len, decide_eq_decide]
      omega
    by_cases c : crowdedB L g = true
    · refine ⟨(pre.length : Int), ev_succ ?_, ?_⟩
      · simp only [slices_IndexFunc_int_int_at_impl_placed_1.l0, rdll_nat, he]
        exact ev_pos (by omega) (ev_pos (by omega) (ev_pos (by omega) (ev_bind _ e1 (ev_pos c (Ev.now _)))))
      · rw [List.any_cons, c, Bool.true_or]
        exact decide_eq_true (by omega)
    · obtain ⟨r, h1, h2⟩ := ih (pre ++ [g]) (by rw [h]; simp)
      rw [len_one] at h1
      refine ⟨r, ev_succ ?_, ?_⟩
      · simp only [slices_IndexFunc_int_int_at_impl_placed_1.l0, rdll_nat, he]
        rw [winc (i := pre.length) (by omega)]
        exact ev_pos (by omega) (ev_pos (by omega) (ev_pos (by omega) (ev_bind _ e1 (ev_neg c h1))))
      · rw [h2, List.any_cons, Bool.eq_false_iff.2 c, Bool.false_or]
theorem impl_placed_f (hp : Pairs L) (hs : Small L) (hn : L.length ≤ 1000) (hL : ∀ e ∈ L, e.length ≤ 1000) : Ev (fun k => impl_placed.f k L) (decide (Fits L)) := by
  have hgr := impl_groups_val hn hL
  have hGl := CK.heads_len (ls := L)
  obtain ⟨r, h1, h2⟩ := idx_crowd hp hs (G := groupsC L) (fun g hg => by have := group_ok hg; exact ⟨this.1, by omega⟩) (by omega) (groupsC L) [] rfl
  unfold impl_placed.f slices_ContainsFunc_int_int_at_impl_placed_1.f slices_IndexFunc_int_int_at_impl_placed_1.f
  refine ev_bind _ hgr (ev_bind (decide (r ≥ 0)) (ev_bind _ h1 (Ev.now _)) (ev_some ?_))
  rw [h2, Bool.eq_iff_iff, decide_eq_true_eq, CK.fits_iff, Bool.not_eq_true', List.any_eq_false]
  refine ⟨fun h g hg => ?_, fun h g hg => ?_⟩
  · have := h g hg
    unfold crowdedB at this
    rw [decide_eq_true_eq] at this
    omega
  · have := h g hg
    unfold crowdedB
    rw [decide_eq_true_eq]
    omega
theorem Small.set (hs : Small L) {i : Nat} (hi : i < L.length) {v : Int} (hv : v ∈ el L i) : Small (L.set i [v, v]) := by
  intro j x hx
  by_cases e : i = j
  · subst e
    rw [CK.el_set_self hi] at hx
    have : x = v := by simpa using hx
    rw [this]
    exact hs i v hv
  · rw [CK.el_set_ne e] at hx
    exact hs j x hx
theorem pk_l0 : ∀ (d i : Nat) (F : List (List Int)) (acc : List Int), i + d = F.length → F.length ≤ 1000 → Pairs F → Small F → (∀ e ∈ F, e.length ≤ 1000) → acc.length = i →
    Ev (fun k => impl_PlaceKeys.l0 k F acc (F.length : Int) (i : Int)) (acc ++ greedy d i F, true) := by
  intro d
  induction d with
  | zero =>
    intro i F acc hi hl hp hs hF ha
    refine ev_succ ?_
    simp only [impl_PlaceKeys.l0, greedy, List.append_nil]
    exact ev_neg (by omega) (Ev.now _)
  | succ d ih =>
    intro i F acc hi hl hp hs hF ha
    obtain ⟨a, b, he⟩ := hp i (by omega)
    have g0 : (el F i).getD 0 0 = a := by rw [he]; rfl
    have g1 : (el F i).getD 1 0 = b := by rw [he]; rfl
    have r0 : rd [a, b] 0 = a := rfl
    have r1 : rd [a, b] 1 = b := rfl
    rw [greedy]
    simp only [g0, g1]
    generalize hlo : (if a ≤ b then a else b) = lo
    generalize hhi : (if a ≤ b then b else a) = hi2
    have elo : mn a b = lo := by rw [← hlo]; unfold mn; split <;> split <;> omega
    have ehi : mx a b = hi2 := by rw [← hhi]; unfold mx; split <;> split <;> omega
    have mlo : lo ∈ el F i := by rw [← hlo, he]; split <;> simp
    have mhi : hi2 ∈ el F i := by rw [← hhi, he]; split <;> simp
    have hil : i < F.length := by omega
    have hpl := impl_placed_f (L := F.set i [lo, lo]) (hp.set i lo lo) (hs.set hil mlo) (by rw [List.length_set]; omega) (two_set hF i lo lo)
    have eself : ∀ v : Int, el (F.set i [v, v]) i = [v, v] := fun v => CK.el_set_self hil _
    have rv : ∀ v : Int, rd [v, v] 0 = v := fun v => rfl
    have s1 : ∀ v ∈ el F i, Ev (fun k => impl_PlaceKeys.l0 k (F.set i [v, v]) (acc ++ [v]) (F.length : Int) ((i + 1 : Nat) : Int)) (acc ++ [v] ++ greedy d (i + 1) (F.set i [v, v]), true) := fun v hv => by
      have := ih (i + 1) (F.set i [v, v]) (acc ++ [v]) (by rw [List.length_set]; omega) (by rw [List.length_set]; exact hl) (hp.set i v v) (hs.set hil hv) (two_set hF i v v) (by simp [ha])
      rw [List.length_set] at this
      exact this
    refine ev_succ ?_
    simp only [impl_PlaceKeys.l0, rdll_nat, he, r0, r1, elo, ehi, Int.toNat_natCast]
    rw [winc (i := i) (by omega)]
    refine ev_pos (by omega) (ev_pos (by omega) (ev_pos (by omega) (ev_pos (by simp) (ev_pos (by simp) (ev_bind _ (Ev.now _) (ev_bind _ hpl ?_))))))
    by_cases c : Fits (F.set i [lo, lo])
    · rw [if_pos c]
      refine ev_pos (decide_eq_true c) ?_
      rw [eself, rv]
      refine ev_pos (by simp) (ev_pos (by omega) ?_)
      have := s1 lo mlo
      rw [List.append_assoc] at this
      exact this
    · rw [if_neg c]
      refine ev_neg (by simpa using c) (ev_bind _ (Ev.now _) ?_)
      rw [List.set_set, eself, rv]
      refine ev_pos (by simp) (ev_pos (by omega) ?_)
      have := s1 hi2 mhi
      rw [List.append_assoc] at this
      exact this
noncomputable def crowdR (L : List (List Int)) : List Int × Bool := match crowdC L with
  | some g => (zs g, true)
  | none => ([], false)
theorem crowdR_cons {pre : List (List Nat)} {g : List Nat} {t : List (List Nat)} (h : groupsC L = pre ++ g :: t) (hpre : ∀ p ∈ pre, crowdedB L p = false) : crowdedB L g = true → crowdR L = (zs g, true) := by
  intro hg
  unfold crowdR crowdC
  rw [h, List.find?_append, List.find?_eq_none.2 (fun p hp => by rw [hpre p hp]; simp), Option.none_or, List.find?_cons_of_pos hg]
theorem crowdR_nil (hpre : ∀ p ∈ groupsC L, crowdedB L p = false) : crowdR L = ([], false) := by
  unfold crowdR crowdC
  rw [List.find?_eq_none.2 (fun p hp => by rw [hpre p hp]; simp)]
theorem ic_l0 (hp : Pairs L) (hs : Small L) (hn : L.length ≤ 1000) : ∀ (t pre : List (List Nat)), groupsC L = pre ++ t → (∀ p ∈ pre, crowdedB L p = false) →
    Ev (fun k => impl_CrowdOf.l0 k L ((groupsC L).map zs) (((groupsC L).map zs).length : Int) (pre.length : Int)) (crowdR L) := by
  have hz : ((groupsC L).map zs).length = (groupsC L).length := zl_len _
  have hGl := CK.heads_len (ls := L)
  intro t
  induction t with
  | nil =>
    intro pre h hpre
    have hp : groupsC L = pre := by rw [h, List.append_nil]
    rw [crowdR_nil (by rw [hp]; exact hpre)]
    refine ev_succ ?_
    simp only [impl_CrowdOf.l0]
    exact ev_neg (by rw [← hp]; omega) (Ev.now _)
  | cons g t ih =>
    intro pre h hpre
    have hm : pre.length < (groupsC L).length := by rw [h]; simp
    have he : el ((groupsC L).map zs) pre.length = zs g := by
      rw [el_map hm]
      simp [h]
    obtain ⟨g1, g2⟩ := group_ok (L := L) (g := g) (by rw [h]; simp)
    have hc := impl_cellCount_f hp hs g1 (by omega)
    have hzg := zs_len g
    refine ev_succ ?_
    simp only [impl_CrowdOf.l0, rdll_nat, he]
    rw [winc (i := pre.length) (by omega)]
    refine ev_pos (by omega) (ev_pos (by omega) (ev_pos (by omega) (ev_bind _ hc ?_)))
    by_cases c : crowdedB L g = true
    · have c' := c
      unfold crowdedB at c'
      rw [decide_eq_true_eq] at c'
      rw [crowdR_cons h hpre c]
      exact ev_pos (by omega) (Ev.now _)
    · have c' := c
      unfold crowdedB at c'
      rw [decide_eq_true_eq] at c'
      have h1 := ih (pre ++ [g]) (by rw [h]; simp) (fun p hp => by
        rcases List.mem_append.1 hp with hp | hp
        · exact hpre p hp
        · rw [List.mem_singleton.1 hp]; exact Bool.eq_false_iff.2 c)
      rw [len_one] at h1
      exact ev_neg (by omega) h1
theorem sc_l0 (hp : Pairs L) (hn : L.length ≤ 1000) : ∀ (t pre : List (List Nat)), groupsC L = pre ++ t → (∀ p ∈ pre, crowdedB L p = false) →
    Ev (fun k => spec_CrowdOf.l0 k L ((groupsC L).map zs) (((groupsC L).map zs).length : Int) (pre.length : Int)) (crowdR L) := by
  have hz : ((groupsC L).map zs).length = (groupsC L).length := zl_len _
  have hGl := CK.heads_len (ls := L)
  intro t
  induction t with
  | nil =>
    intro pre h hpre
    have hp : groupsC L = pre := by rw [h, List.append_nil]
    rw [crowdR_nil (by rw [hp]; exact hpre)]
    refine ev_succ ?_
    simp only [spec_CrowdOf.l0]
    exact ev_neg (by rw [← hp]; omega) (Ev.now _)
  | cons g t ih =>
    intro pre h hpre
    have hm : pre.length < (groupsC L).length := by rw [h]; simp
    have he : el ((groupsC L).map zs) pre.length = zs g := by
      rw [el_map hm]
      simp [h]
    obtain ⟨g1, g2⟩ := group_ok (L := L) (g := g) (by rw [h]; simp)
    have hc := spec_cuWide_f hp g1 (by omega)
    have hzg := zs_len g
    refine ev_succ ?_
    simp only [spec_CrowdOf.l0, rdll_nat, he]
    rw [winc (i := pre.length) (by omega)]
    refine ev_pos (by omega) (ev_pos (by omega) (ev_pos (by omega) (ev_bind _ hc ?_)))
    by_cases c : crowdedB L g = true
    · have c' := c
      unfold crowdedB at c'
      rw [decide_eq_true_eq] at c'
      rw [crowdR_cons h hpre c]
      exact ev_pos (by omega) (Ev.now _)
    · have c' := c
      unfold crowdedB at c'
      rw [decide_eq_true_eq] at c'
      have h1 := ih (pre ++ [g]) (by rw [h]; simp) (fun p hp => by
        rcases List.mem_append.1 hp with hp | hp
        · exact hpre p hp
        · rw [List.mem_singleton.1 hp]; exact Bool.eq_false_iff.2 c)
      rw [len_one] at h1
      exact ev_neg (by omega) h1
theorem crowdR_fits : (crowdR L).2 = true ↔ ¬ Fits L := by
  unfold crowdR
  cases h : crowdC L with
  | none => simp [CK.crowdC_none.1 h]
  | some g =>
    simp only [true_iff]
    intro hf
    rw [CK.crowdC_none.2 hf] at h
    cases h
theorem crowdR_len : (crowdR L).1.length ≤ L.length := by
  unfold crowdR
  cases h : crowdC L with
  | none => simp
  | some g => simp only [zs_len]; exact (group_ok (CK.crowdC_some h).1).2
theorem placeC_fits : (placeC L).2 = true ↔ Fits L := by
  unfold placeC
  split <;> simp_all
theorem placeC_len : (placeC L).1.length ≤ L.length := by
  unfold placeC
  split
  · simp only [CK.greedy_len]; exact Nat.le_refl _
  · simp
end
section
variable {a n : Int} {l : List ByteArray}
noncomputable def plV (a : Int) (l : List ByteArray) (n : Int) : List Int × Bool := if keyedC a l n = true then placeC (prs a n l) else ([], false)
noncomputable def crV (a : Int) (l : List ByteArray) (n : Int) : List Int × Bool := if keyedC a l n = true then crowdR (prs a n l) else ([], false)
theorem impl_PlaceKeys_f (hl : l.length ≤ 1000) (hz : ∀ s ∈ l, s.size ≤ 1000) : Ev (fun k => impl_PlaceKeys.f k a l n) (plV a l n) := by
  have hpf := impl_pairs_f a n (l := l) hl hz
  have hpl := prs_len a n l
  have jt : ∀ X, Ev (fun k => impl_PlaceKeys.j0 k X true) ([], false) := fun X => ev_succ (by simp only [impl_PlaceKeys.j0]; exact ev_pos (by trivial) (Ev.now _))
  unfold impl_PlaceKeys.f plV
  by_cases h : keyedC a l n = true
  · rw [if_pos h] at hpf ⊢
    have hpd := impl_placed_f (L := prs a n l) (prs_pairs a n l) (prs_small h) (by omega) prs_two
    refine ev_bind _ hpf (ev_pos rfl (ev_bind _ hpd ?_))
    unfold placeC
    by_cases c : Fits (prs a n l)
    · rw [if_pos c, decide_eq_true c]
      refine ev_succ ?_
      simp only [impl_PlaceKeys.j0]
      have := pk_l0 (prs a n l).length 0 (prs a n l) [] (by omega) (by omega) (prs_pairs a n l) (prs_small h) prs_two rfl
      exact ev_neg (by simp) this
    · rw [if_neg c, decide_eq_false c]
      exact jt _
  · rw [if_neg h] at hpf ⊢
    exact ev_bind _ hpf (ev_neg (by simp) (jt _))
theorem spec_PlaceKeys_f (hl : l.length ≤ 1000) (hz : ∀ s ∈ l, s.size ≤ 1000) : Ev (fun k => spec_PlaceKeys.f k a l n) (plV a l n) := by
  have hk := spec_cuKeyed_f a n hl hz
  have hpl := prs_len a n l
  unfold spec_PlaceKeys.f plV
  by_cases h : keyedC a l n = true
  · rw [if_pos h]
    rw [h] at hk
    have h1 := (keyedC_ok h).1
    exact ev_bind _ hk (ev_pos rfl (ev_bind _ (spec_cuPairs_f h1.1 h1.2 hl hz) (ev_bind _ (spec_cuPlace_f (prs_pairs a n l) (by omega) prs_two) (Ev.now _))))
  · rw [if_neg h]
    rw [Bool.eq_false_iff.2 h] at hk
    exact ev_bind _ hk (ev_neg (by simp) (Ev.now _))
theorem impl_CrowdOf_f (hl : l.length ≤ 1000) (hz : ∀ s ∈ l, s.size ≤ 1000) : Ev (fun k => impl_CrowdOf.f k a l n) (crV a l n) := by
  have hpf := impl_pairs_f a n (l := l) hl hz
  have hpl := prs_len a n l
  unfold impl_CrowdOf.f crV
  by_cases h : keyedC a l n = true
  · rw [if_pos h] at hpf ⊢
    exact ev_bind _ hpf (ev_pos rfl (ev_bind _ (impl_groups_val (L := prs a n l) (by omega) prs_two) (ic_l0 (prs_pairs a n l) (prs_small h) (by omega) _ [] rfl (fun p hp => by cases hp))))
  · rw [if_neg h] at hpf ⊢
    exact ev_bind _ hpf (ev_neg (by simp) (Ev.now _))
theorem spec_CrowdOf_f (hl : l.length ≤ 1000) (hz : ∀ s ∈ l, s.size ≤ 1000) : Ev (fun k => spec_CrowdOf.f k a l n) (crV a l n) := by
  have hk := spec_cuKeyed_f a n hl hz
  have hpl := prs_len a n l
  unfold spec_CrowdOf.f crV
  by_cases h : keyedC a l n = true
  · rw [if_pos h]
    rw [h] at hk
    have h1 := (keyedC_ok h).1
    exact ev_bind _ hk (ev_pos rfl (ev_bind _ (spec_cuPairs_f h1.1 h1.2 hl hz) (ev_bind _ (spec_cuGroups_f (prs_pairs a n l) (by omega) prs_two) (sc_l0 (prs_pairs a n l) (by omega) _ [] rfl (fun p hp => by cases hp)))))
  · rw [if_neg h]
    rw [Bool.eq_false_iff.2 h] at hk
    exact ev_bind _ hk (ev_neg (by simp) (Ev.now _))
theorem impl_IsPlacement_f (hl : l.length ≤ 1000) (hz : ∀ s ∈ l, s.size ≤ 1000) {pl : List Int} (hr : ∀ x ∈ pl, -1000000 ≤ x ∧ x ≤ 1000000) : Ev (fun k => impl_IsPlacement.f k a l n pl) (if keyedC a l n = true then (decide (IsPl (prs a n l) pl), true) else (false, false)) := by
  have hpf := impl_pairs_f a n (l := l) hl hz
  have hpl := prs_len a n l
  unfold impl_IsPlacement.f
  by_cases h : keyedC a l n = true
  · rw [if_pos h] at hpf ⊢
    exact ev_bind _ hpf (ev_pos rfl (ev_bind _ (impl_isPlacement_f (L := prs a n l) (by omega) prs_two hr) (Ev.now _)))
  · rw [if_neg h] at hpf ⊢
    exact ev_bind _ hpf (ev_neg (by simp) (Ev.now _))
def IsCr (L : List (List Int)) (x : List Int) : Prop := ∃ g, x = zs g ∧ (∀ i ∈ g, i < L.length) ∧ g.Pairwise (· < ·) ∧ wideN L g < g.length
theorem impl_IsCrowd_f (hl : l.length ≤ 1000) (hz : ∀ s ∈ l, s.size ≤ 1000) {x : List Int} (hx : x.length ≤ 1000) : Ev (fun k => impl_IsCrowd.f k a l n x) (if keyedC a l n = true then (decide (IsCr (prs a n l) x), true) else (false, false)) := by
  have hpf := impl_pairs_f a n (l := l) hl hz
  have hpl := prs_len a n l
  have hi := impl_indices_f (l.length : Int) (by omega) (by omega) x (by omega)
  unfold impl_IsCrowd.f
  by_cases h : keyedC a l n = true
  · rw [if_pos h] at hpf ⊢
    refine ev_bind _ hpf (ev_pos rfl (ev_bind _ hi ?_))
    by_cases c : risF 0 ((l.length : Int) - 1) none x = true
    · obtain ⟨g, rfl, g1, g2⟩ := ris_zs c
      have hgl := zs_len g
      have hc := impl_cellCount_f (L := prs a n l) (prs_pairs a n l) (prs_small h) (g := g) (fun i hi => by rw [hpl]; exact g1 i hi) (by omega)
      have huniq : IsCr (prs a n l) (zs g) ↔ wideN (prs a n l) g < g.length := by
        constructor
        · rintro ⟨g', e, h1, h2, h3⟩
          have : g' = g := by
            have := congrArg (List.map Int.toNat) e
            unfold zs at this
            rw [List.map_map, List.map_map] at this
            have hid : (Int.toNat ∘ fun (n : Nat) => (n : Int)) = id := by funext m; simp
            rw [hid, List.map_id, List.map_id] at this
            exact this.symm
          rw [this] at h3
          exact h3
        · intro hw
          exact ⟨g, rfl, fun i hi => by rw [hpl]; exact g1 i hi, g2, hw⟩
      by_cases e : g.length > 0
      · rw [c, decide_eq_true (show ((zs g).length : Int) > 0 by omega)]
        refine ev_pos (by trivial) (ev_bind _ hc (ev_some ?_))
        rw [Prod.mk.injEq]
        refine ⟨?_, rfl⟩
        rw [decide_eq_decide, huniq, hgl]
        omega
      · rw [decide_eq_false (show ¬ ((zs g).length : Int) > 0 by omega), Bool.and_false]
        refine ev_neg (by simp) (ev_some ?_)
        rw [Prod.mk.injEq]
        refine ⟨(decide_eq_false (fun hcr => ?_)).symm, rfl⟩
        have := huniq.1 hcr
        omega
    · rw [Bool.eq_false_iff.2 c, Bool.false_and]
      refine ev_neg (by simp) (ev_some ?_)
      rw [Prod.mk.injEq]
      refine ⟨(decide_eq_false (fun hcr => ?_)).symm, rfl⟩
      obtain ⟨g, rfl, g1, g2, g3⟩ := hcr
      exact c (zs_ris l.length none g g2 (fun i hi => by have := g1 i hi; omega) (by simp))
  · rw [if_neg h] at hpf ⊢
    exact ev_bind _ hpf (ev_neg (by simp) (Ev.now _))
theorem crowdR_cr {L : List (List Int)} (h : ¬ Fits L) : IsCr L (crowdR L).1 := by
  unfold crowdR
  cases hc : crowdC L with
  | none => exact absurd (CK.crowdC_none.1 hc) h
  | some g =>
    obtain ⟨h1, h2⟩ := CK.crowdC_some hc
    obtain ⟨h3, h4, _⟩ := CK.mem_groupsC h1
    exact ⟨g, rfl, h4, h3, h2⟩
theorem impl_Most_f (hl : l.length ≤ 1000) (hz : ∀ s ∈ l, s.size ≤ 1000) : Ev (fun k => impl_MostPlaced.f k a l n) (if keyedC a l n = true then (((mostC (prs a n l) : Nat) : Int), true) else (0, false)) := by
  by_cases h : keyedC a l n = true
  · rw [if_pos h]
    exact impl_MostPlaced_f h
  · have hpf := impl_pairs_f a n (l := l) hl hz
    rw [if_neg h] at hpf ⊢
    unfold impl_MostPlaced.f
    exact ev_bind _ hpf (ev_neg (by simp) (Ev.now _))
end
end Go.Proofs.YtephjmmkggcmeaaQ
namespace Go.Proofs.YtephjmmkggcmeaaQ
open Go Go.RowKit Go.Proofs.YtephjmmkggcmeaaW.PrintWords Go.Proofs.YtephjmmkggcmeaaGp Go.Proofs.Ytephjmmkggcmeaa.PP

end Go.Proofs.YtephjmmkggcmeaaQ
namespace Go.Proofs.YtephjmmkggcmeaaQ
open Go Go.RowKit Go.Proofs.YtephjmmkggcmeaaW.PrintWords Go.Proofs.YtephjmmkggcmeaaGp Go.Proofs.Ytephjmmkggcmeaa.PP

namespace LW
theorem same_l0 (x0 y0 : List Int) (hl : (x0.length : Int) ≤ 9223372036854775806) (hy : y0.length = x0.length) : ∀ (t pre u pru : List Int), x0 = pre ++ t → y0 = pru ++ u → pru.length = pre.length →
    Ev (fun k => laws_pSameInts.l0 k x0 y0 (x0.length : Int) (pre.length : Int)) (decide (t = u)) := by
  intro t
  induction t with
  | nil =>
    intro pre u pru h h2 hp
    have : u = [] := by
      have e1 : y0.length = pru.length + u.length := by rw [h2]; simp
      have e2 : x0.length = pre.length := by rw [h]; simp
      exact List.length_eq_zero_iff.1 (by omega)
    subst this
    refine ev_succ ?_
    simp only [laws_pSameInts.l0]
    exact ev_neg (by rw [h]; exact not_lt_end) (ev_some (by simp))
  | cons x t ih =>
    intro pre u pru h h2 hp
    have hm : ((pre.length : Nat) : Int) < (x0.length : Int) := by rw [h]; exact lt_mid
    have hg : rd x0 (pre.length : Int) = x := by rw [h]; exact rd_mid
    cases u with
    | nil =>
      have e1 : y0.length = pru.length := by rw [h2]; simp
      omega
    | cons y u =>
      have hg2 : rd y0 (pre.length : Int) = y := by rw [h2, ← hp]; exact rd_mid
      refine ev_succ ?_
      simp only [laws_pSameInts.l0, hg, hg2]
      by_cases c : x = y
      · subst c
        have := ih (pre ++ [x]) u (pru ++ [x]) (by rw [h]; simp) (by rw [h2]; simp) (by simp [hp])
        rw [len_one] at this
        rw [show decide (x :: t = x :: u) = decide (t = u) from by simp, winc (by omega)]
        exact ev_pos hm (ev_pos (by omega) (ev_pos hm (ev_pos (by omega) (ev_pos rfl this))))
      · rw [decide_eq_false (fun e => c (List.cons.inj e).1)]
        exact ev_pos hm (ev_pos (by omega) (ev_pos hm (ev_pos (by omega) (ev_neg c (Ev.now _)))))
theorem same_f (l l' : List Int) (hl : (l.length : Int) ≤ 9223372036854775806) (h : l'.length = l.length) : Ev (fun k => laws_pSameInts.f k l l') (decide (l = l')) := by
  unfold laws_pSameInts.f
  exact ev_pos (by omega) (same_l0 l l' hl h l [] l' [] rfl rfl rfl)
theorem sameI_f (l l' : List Int) (hl : (l.length : Int) ≤ 9223372036854775806) : Ev (fun k => laws_pSameInts.f k l l') (decide (l = l')) := by
  by_cases h : l'.length = l.length
  · exact same_f l l' hl h
  · unfold laws_pSameInts.f
    exact ev_neg (by omega) (ev_some (decide_eq_false (fun e => h (by rw [e]))).symm)
end LW
end Go.Proofs.YtephjmmkggcmeaaQ
namespace Go.Proofs.Ytephjmmkggcmeaa.Pure
open Go Go.RowKit Go.Proofs.YtephjmmkggcmeaaW.PrintWords Go.Proofs.YtephjmmkggcmeaaW.PrintMore Go.Proofs.YtephjmmkggcmeaaGp Go.Proofs.Ytephjmmkggcmeaa.PP Go.Proofs.YtephjmmkggcmeaaQ
open CK (el Pairs Fits mostC)
open Classical

theorem DrawPlaceKeys_ok {s : List Int} (hs : Bys s) : ∃ a l n, Ev (fun k => spec_DrawPlaceKeys.f k s) (a, l, n) ∧ Kys 42 l := by
  obtain ⟨a, l, n, p', sd', e, _, hk, _⟩ := keyed_ok hs 0 (p := 0) (by omega) (by omega)
  refine ⟨a, l, n, ?_, hk⟩
  unfold spec_DrawPlaceKeys.f spec_DrawKeyGroups.f
  exact ev_bind _ (ev_bind _ e (Ev.now _)) (Ev.now _)
theorem FnPlacementOrCrowd : laws_FnPlacementOrCrowd.Pure := by
  intro l0 l1 h0 _ hw0 h1 _ _
  refine Ev.rounds (r := true) ?_
  unfold laws_FnPlacementOrCrowd.f
  obtain ⟨b, eb, hb⟩ := big_f h0 h1
  rw [eb]
  refine ev_bind _ (Ev.now _) ?_
  by_cases c : b = true
  · exact ev_pos c (Ev.now _)
  obtain ⟨g0, _⟩ := hb (by simpa using c)
  have hs := bys g0 hw0
  obtain ⟨a, l, n, ed, hk⟩ := DrawPlaceKeys_ok hs
  have hl : l.length ≤ 1000 := by have := hk.1; omega
  have hz : ∀ s ∈ l, s.size ≤ 1000 := fun s hs => by have := hk.2 s hs; omega
  have i1 := impl_PlaceKeys_f (a := a) (n := n) hl hz
  have s1 := spec_PlaceKeys_f (a := a) (n := n) hl hz
  have i2 := impl_CrowdOf_f (a := a) (n := n) hl hz
  have s2 := spec_CrowdOf_f (a := a) (n := n) hl hz
  have i3 := impl_Most_f (a := a) (n := n) hl hz
  have hpl := prs_len a n l
  by_cases h : keyedC a l n = true
  · unfold plV at i1 s1
    unfold crV at i2 s2
    rw [if_pos h] at i1 s1 i2 s2 i3
    have hP1 := LW.sameI_f (placeC (prs a n l)).1 (placeC (prs a n l)).1 (by have := placeC_len (L := prs a n l); omega)
    rw [decide_eq_true rfl] at hP1
    have hC1 := LW.sameI_f (crowdR (prs a n l)).1 (crowdR (prs a n l)).1 (by have := crowdR_len (L := prs a n l); omega)
    rw [decide_eq_true rfl] at hC1
    have hpf := placeC_fits (L := prs a n l)
    have hcf := crowdR_fits (L := prs a n l)
    have hme := CK.mostC_eq (ls := prs a n l)
    have hml := CK.mostC_lt (ls := prs a n l)
    refine ev_neg c (ev_bind _ ed (ev_bind _ i1 (ev_bind _ s1 (ev_bind _ i2 (ev_bind _ s2 (ev_bind _ i3 (ev_neg (by simp) (ev_bind _ hP1 (ev_pos rfl (ev_neg (by simp) (ev_bind _ hC1 (ev_pos rfl ?_))))))))))))
    by_cases d : Fits (prs a n l)
    · have e1 : (placeC (prs a n l)).2 = true := hpf.2 d
      have e2 : (crowdR (prs a n l)).2 = false := by rw [Bool.eq_false_iff]; exact fun g => hcf.1 g d
      have hpl2 := placeC_pl (prs_pairs a n l) d
      have hip := impl_IsPlacement_f (a := a) (n := n) hl hz (pl := (placeC (prs a n l)).1) (fun x hx => by have := IsPl.small (prs_small h) hpl2 x hx; omega)
      rw [if_pos h, decide_eq_true hpl2] at hip
      refine ev_pos e1 (ev_neg (by rw [e2]; simp) (ev_succ ?_))
      simp only [laws_FnPlacementOrCrowd.j0]
      refine ev_neg (by simp) (ev_pos e1 (ev_bind _ hip (ev_pos rfl (ev_pos rfl (ev_some ?_)))))
      rw [beq_iff_eq]
      have := hme.2 d
      omega
    · have e1 : (placeC (prs a n l)).2 = false := by rw [Bool.eq_false_iff]; exact fun g => d (hpf.1 g)
      have e2 : (crowdR (prs a n l)).2 = true := hcf.2 d
      have hcr := crowdR_cr d
      have hic := impl_IsCrowd_f (a := a) (n := n) hl hz (x := (crowdR (prs a n l)).1) (by have := crowdR_len (L := prs a n l); omega)
      rw [if_pos h, decide_eq_true hcr] at hic
      refine ev_neg (by rw [e1]; simp) (ev_succ ?_)
      simp only [laws_FnPlacementOrCrowd.j0]
      refine ev_neg (by rw [e2]; simp) (ev_neg (by rw [e1]; simp) (ev_pos e2 (ev_bind _ hic (ev_pos rfl (ev_pos rfl (ev_some ?_))))))
      have := hml.2 d
      exact decide_eq_true (by omega)
  · unfold plV at i1 s1
    unfold crV at i2 s2
    rw [if_neg h] at i1 s1 i2 s2 i3
    have hP1 := LW.sameI_f [] [] (by simp)
    rw [decide_eq_true rfl] at hP1
    refine ev_neg c (ev_bind _ ed (ev_bind _ i1 (ev_bind _ s1 (ev_bind _ i2 (ev_bind _ s2 (ev_bind _ i3 (ev_neg (by simp) (ev_bind _ hP1 (ev_pos rfl (ev_neg (by simp) (ev_bind _ hP1 (ev_pos rfl (ev_neg (by simp) (ev_succ ?_)))))))))))))) 
    simp only [laws_FnPlacementOrCrowd.j0]
    exact ev_neg (by simp) (ev_neg (by simp) (ev_neg (by simp) (Ev.now _)))
end Go.Proofs.Ytephjmmkggcmeaa.Pure
