import Derived.Test.YtmehagedoaopeaaCR1
import Derived.Test.YtmehagedoaopeaaCR2
import Derived.Test.YtmehagedoaopeaaCR5
import Derived.Test.YtmehagedoaopeaaCR3
import Derived.Test.YtmehagedoaopeaaCR4
namespace Go.Proofs.YtmehagedoaopeaaQ
open Go Go.RowKit Go.Proofs.YtmehagedoaopeaaW.PrintWords Go.Proofs.YtmehagedoaopeaaGp Go.Proofs.Ytmehagedoaopeaa.PR

structure Bys (s : List Int) : Prop where
  len : (s.length : Int) ≤ 1048576
  all : ∀ x ∈ s, 0 ≤ x ∧ x ≤ 255
theorem and255 (x : Int) : 0 ≤ Go.bits .and .u64 x 255 ∧ Go.bits .and .u64 x 255 ≤ 255 := by
  have e : Go.bits .and .u64 x 255 = IntKind.u64.wrap (((BitVec.ofInt 64 x &&& BitVec.ofInt 64 255 : BitVec 64)).toNat : Int) := by unfold Go.bits; rfl
  have h : ((BitVec.ofInt 64 x &&& BitVec.ofInt 64 255 : BitVec 64)).toNat ≤ 255 := by
    rw [BitVec.toNat_and]
    exact Nat.and_le_right
  rw [e]
  unfold IntKind.wrap
  simp only [IntKind.bits, IntKind.signed]
  generalize (BitVec.ofInt 64 x &&& BitVec.ofInt 64 255 : BitVec 64).toNat = m at h
  simp
  omega
theorem rd_by {s : List Int} (hs : Bys s) (i : Int) : 0 ≤ rd s i ∧ rd s i ≤ 255 := by
  unfold rd
  by_cases c : i.toNat < s.length
  · rw [List.getD_eq_getElem?_getD, List.getElem?_eq_getElem c]
    exact hs.all _ (List.getElem_mem c)
  · rw [List.getD_eq_getElem?_getD, List.getElem?_eq_none (by omega)]
    simp
theorem next_ok {s : List Int} (hs : Bys s) {p : Int} (sd : Int) (h0 : 0 ≤ p) (h1 : p ≤ 4000000000000000000) :
    ∃ v p' sd', spec_l1Cur_next.f s p sd = some (v, p', sd') ∧ (0 ≤ v ∧ v ≤ 255) ∧ 0 ≤ p' ∧ p' ≤ p + 1 := by
  have hb := rd_by hs p
  have w1 : wrap64 (p + 1) = p + 1 := w64 (by omega) (by omega)
  have w2 : wrap64 (rd s p) = rd s p := w64 (by omega) (by omega)
  unfold spec_l1Cur_next.f
  rw [w1, w2]
  by_cases c : p < (s.length : Int)
  · rw [if_pos c, if_pos h0]
    split
    · exact ⟨_, _, _, rfl, hb, by omega, by omega⟩
    · omega
  · rw [if_neg c, if_neg (by omega)]
    refine ⟨_, _, _, rfl, ?_, by omega, by omega⟩
    have := and255 ((IntKind.u64.wrap ((IntKind.u64.wrap (IntKind.u64.wrap (sd * 6364136223846793005))) + 1442695040888963407)) / 1099511627776)
    rw [w64 (by omega) (by omega)]
    exact this
theorem pick_ok {s : List Int} (hs : Bys s) {p : Int} (sd : Int) {n : Int} (h0 : 0 ≤ p) (h1 : p ≤ 3000000000000000000) :
    ∃ v p' sd', spec_l1Cur_pick.f s p sd n = some (v, p', sd') ∧ (0 ≤ v ∧ (v < n ∨ v = 0)) ∧ 0 ≤ p' ∧ p' ≤ p + 2 := by
  unfold spec_l1Cur_pick.f
  by_cases c : n ≤ 1
  · rw [if_pos c]; exact ⟨_, _, _, rfl, ⟨by omega, .inr rfl⟩, h0, by omega⟩
  obtain ⟨v, p', sd', e, hv, q0, q1⟩ := next_ok hs sd h0 (by omega)
  have hn : ¬ n = 0 := by omega
  rw [if_neg c, e]
  simp only [Option.bind_some, if_neg hn]
  by_cases d : n > 200
  · obtain ⟨u, p2, sd2, e2, hu, r0, r1⟩ := next_ok hs sd' q0 (by omega)
    rw [if_pos d, e2]
    simp only [Option.bind_some]
    refine ⟨_, _, _, rfl, ?_, r0, by omega⟩
    rw [w64 (x := v * 256) (by omega) (by omega), w64 (x := v * 256 + u) (by omega) (by omega), Int.tmod_eq_emod_of_nonneg (by omega)]
    exact ⟨Int.emod_nonneg _ hn, .inl (Int.emod_lt_of_pos _ (by omega))⟩
  · rw [if_neg d]
    refine ⟨_, _, _, rfl, ?_, q0, by omega⟩
    rw [Int.tmod_eq_emod_of_nonneg hv.1]
    exact ⟨Int.emod_nonneg _ hn, .inl (Int.emod_lt_of_pos _ (by omega))⟩
theorem one_ok {s : List Int} (hs : Bys s) {p : Int} (sd : Int) (n : Int) (h0 : 0 ≤ p) (h1 : p ≤ 3000000000000000000) :
    ∃ v p' sd', spec_l1Cur_one.f s p sd n = some (v, p', sd') ∧ 0 ≤ p' ∧ p' ≤ p + 2 := by
  obtain ⟨v, p', sd', e, _, q0, q1⟩ := pick_ok hs sd (n := n) h0 h1
  unfold spec_l1Cur_one.f
  rw [e]
  exact ⟨_, _, _, rfl, q0, q1⟩
theorem among_ok {s : List Int} (hs : Bys s) {p : Int} (sd : Int) {l : List Int} (hl : 0 < l.length) (h0 : 0 ≤ p) (h1 : p ≤ 3000000000000000000) :
    ∃ v p' sd', spec_l1Cur_among.f s p sd l = some (v, p', sd') ∧ v ∈ l ∧ 0 ≤ p' ∧ p' ≤ p + 2 := by
  obtain ⟨v, p', sd', e, hv, q0, q1⟩ := pick_ok hs sd (n := (l.length : Int)) h0 h1
  have hm : rd l v ∈ l := by
    unfold rd
    have : v.toNat < l.length := by omega
    rw [List.getD_eq_getElem?_getD, List.getElem?_eq_getElem this]
    exact List.getElem_mem this
  unfold spec_l1Cur_among.f
  rw [e]
  simp only [Option.bind_some]
  rw [if_pos (by omega), if_pos (by omega)]
  exact ⟨_, _, _, rfl, hm, q0, q1⟩
theorem strOf_size (l : List Int) : (strOfNums l).size = l.length := by simp [strOfNums, ByteArray.size]

def Dr {α : Type} (g : Nat → Option (α × Int × Int)) (p c : Int) (P : α → Prop) : Prop := ∃ v p' sd', Ev g (v, p', sd') ∧ P v ∧ 0 ≤ p' ∧ p' ≤ p + c
theorem key_l1 (s : List Int) (p sd : Int) : ∀ (d : Nat) (x : List Int), 12 - x.length ≤ d → x.length ≤ 12 →
    ∃ v, Ev (fun k => spec_l1Cur_key.l1 k x s p sd) (v, p, sd) ∧ v.size ≤ 12 := by
  intro d
  induction d with
  | zero =>
    intro x h1 h2
    refine ⟨strOfNums x, ev_succ ?_, by rw [strOf_size]; omega⟩
    simp only [spec_l1Cur_key.l1]
    exact ev_neg (by omega) (Ev.now _)
  | succ d ih =>
    intro x h1 h2
    by_cases c : (x.length : Int) < 12
    · obtain ⟨v, e, hv⟩ := ih (x ++ [97]) (by simp; omega) (by simp; omega)
      refine ⟨v, ev_succ ?_, hv⟩
      simp only [spec_l1Cur_key.l1]
      exact ev_pos c (ev_pos (by omega) e)
    · refine ⟨strOfNums x, ev_succ ?_, by rw [strOf_size]; omega⟩
      simp only [spec_l1Cur_key.l1]
      exact ev_neg c (Ev.now _)
theorem key_l0 {s : List Int} (hs : Bys s) : ∀ (n : Nat) (x : List Int) (p sd : Int), x.length + n ≤ 12 → 0 ≤ p → p + 2 * (n : Int) ≤ 2000000000000000000 →
    Dr (fun k => spec_l1Cur_key.l0 k x (n : Int) s p sd) p (2 * (n : Int) + 2) (fun v => v.size ≤ 12) := by
  intro n
  induction n with
  | zero =>
    intro x p sd hx h0 h1
    obtain ⟨v, p', sd', e, q0, q1⟩ := one_ok hs sd 12 h0 (by omega)
    by_cases c : v = true
    · obtain ⟨u, eu, hu⟩ := key_l1 s p' sd' 12 x (by omega) (by omega)
      refine ⟨u, p', sd', ev_succ ?_, hu, q0, by omega⟩
      simp only [spec_l1Cur_key.l0, e]
      exact ev_neg (by omega) (ev_bind _ (Ev.now _) (ev_pos c eu))
    · refine ⟨strOfNums x, p', sd', ev_succ ?_, (by rw [strOf_size]; omega : (strOfNums x).size ≤ 12), q0, by omega⟩
      simp only [spec_l1Cur_key.l0, e]
      exact ev_neg (by omega) (ev_bind _ (Ev.now _) (ev_neg c (Ev.now _)))
  | succ n ih =>
    intro x p sd hx h0 h1
    obtain ⟨v, p', sd', e, hv, q0, q1⟩ := pick_ok hs sd (n := 11) h0 (by omega)
    obtain ⟨u, p2, sd2, eu, hu, r0, r1⟩ := ih (x ++ [bt (⟨#[97, 97, 98, 98, 99, 120, 121, 122, 33, 125, 48]⟩ : ByteArray) v]) p' sd' (by simp; omega) q0 (by omega)
    refine ⟨u, p2, sd2, ev_succ ?_, hu, r0, by omega⟩
    simp only [spec_l1Cur_key.l0, e]
    refine ev_pos (by omega) (ev_bind _ (Ev.now _) (ev_pos hv.1 (ev_pos (by omega) (ev_pos (by omega) ?_))))
    rw [wdec (by omega)]
    exact eu
theorem key_ok {s : List Int} (hs : Bys s) {p : Int} (sd : Int) (h0 : 0 ≤ p) (h1 : p ≤ 1000000000000000000) : Dr (fun k => spec_l1Cur_key.f k s p sd) p 12 (fun v => v.size ≤ 12) := by
  obtain ⟨v, p', sd', e, hv, q0, q1⟩ := pick_ok hs sd (n := 4) h0 (by omega)
  obtain ⟨u, p2, sd2, eu, hu, r0, r1⟩ := key_l0 hs (v.toNat + 1) [] p' sd' (by simp; omega) q0 (by omega)
  refine ⟨u, p2, sd2, ?_, hu, r0, by omega⟩
  unfold spec_l1Cur_key.f
  rw [e]
  refine ev_bind _ (Ev.now _) ?_
  rw [w64 (by omega) (by omega), show 1 + v = ((v.toNat + 1 : Nat) : Int) from by omega]
  exact eu
def insK (s : ByteArray) : List ByteArray → List ByteArray
  | [] => [s]
  | q :: t => if lessS q s = true then q :: insK s t else if q = s then q :: t else s :: q :: t
theorem insK_len (s : ByteArray) : ∀ l, (insK s l).length ≤ l.length + 1
  | [] => by simp [insK]
  | q :: t => by
    have := insK_len s t
    unfold insK
    split
    · simp; omega
    · split <;> simp
theorem insK_mem (s : ByteArray) : ∀ l, ∀ x ∈ insK s l, x = s ∨ x ∈ l
  | [], x, h => by simp [insK] at h; exact .inl h
  | q :: t, x, h => by
    unfold insK at h
    split at h
    · rcases List.mem_cons.1 h with e | e
      · exact .inr (by simp [e])
      · rcases insK_mem s t x e with e | e
        · exact .inl e
        · exact .inr (by simp [e])
    · split at h
      · exact .inr h
      · rcases List.mem_cons.1 h with e | e
        · exact .inl e
        · exact .inr e
theorem putS_l0 (x0 : List ByteArray) (s : ByteArray) (hx : x0.length ≤ 1000000) : ∀ (t pre : List ByteArray), x0 = pre ++ t →
    Ev (fun k => spec_l1PutS.l0 k x0 s (pre.length : Int)) (pre ++ insK s t) := by
  intro t
  induction t with
  | nil =>
    intro pre h
    have hp : x0 = pre := by rw [h, List.append_nil]
    subst hp
    refine ev_succ ?_
    simp only [spec_l1PutS.l0]
    refine ev_neg (by omega) (ev_bind _ (Ev.now _) (ev_pos (by omega) (ev_pos (by omega) (ev_bind _ (Ev.now _) ?_))))
    rw [Int.toNat_natCast, List.take_length, List.nil_append]
    refine ev_pos (by simp; omega) (ev_bind _ (Ev.now _) (ev_pos (by omega) (ev_bind _ (Ev.now _) (ev_bind _ (Ev.now _) (ev_pos (by simp; omega) (ev_some ?_))))))
    simp [insK]
  | cons q t ih =>
    intro pre h
    have hm : ((pre.length : Nat) : Int) < (x0.length : Int) := by rw [h]; exact lt_mid
    have hg : rdOf ByteArray.empty x0 (pre.length : Int) = q := by rw [h]; exact rdOf_mid
    refine ev_succ ?_
    simp only [spec_l1PutS.l0, hg]
    refine ev_pos hm (ev_pos (by omega) ?_)
    unfold insK
    by_cases c : lessS q s = true
    · refine ev_pos c ?_
      rw [winc (by omega), if_pos c]
      have := ih (pre ++ [q]) (by rw [h]; simp)
      rw [len_one] at this
      simpa using this
    · refine ev_neg c ?_
      rw [if_neg c]
      by_cases d : q = s
      · refine ev_pos (tl_inj.2 d) (ev_some ?_)
        rw [if_pos d, h]
      · refine ev_neg (fun e => d (tl_inj.1 e)) (ev_bind _ (Ev.now _) (ev_pos (by omega) (ev_bind _ (Ev.now _) ?_)))
        have et : x0.take pre.length = pre := by rw [h]; simp
        have ed : x0.drop pre.length = q :: t := by rw [h]; simp
        have hl : x0.length = pre.length + (t.length + 1) := by rw [h]; simp
        rw [Int.toNat_natCast, et, ed, List.nil_append, if_neg d]
        refine ev_pos (by simp; omega) (ev_bind _ (Ev.now _) (ev_pos (by omega) (ev_bind _ (Ev.now _) (ev_bind _ (Ev.now _) (ev_pos (by simp; omega) (ev_some ?_))))))
        simp
theorem putS_f (l : List ByteArray) (s : ByteArray) (h : l.length ≤ 1000000) : Ev (fun k => spec_l1PutS.f k l s) (insK s l) := putS_l0 l s h l [] rfl
def Kys (m : Nat) (l : List ByteArray) : Prop := l.length ≤ m ∧ ∀ s ∈ l, s.size ≤ 13
theorem Kys.ins {m : Nat} {l : List ByteArray} (h : Kys m l) {s : ByteArray} (hs : s.size ≤ 13) : Kys (m + 1) (insK s l) :=
  ⟨by have := insK_len s l; have := h.1; omega, fun x hx => by exact (insK_mem s l x hx).elim (fun e => e ▸ hs) (h.2 x)⟩
theorem Kys.one {m : Nat} {l : List ByteArray} (h : Kys m l) {s : ByteArray} (hs : s.size ≤ 13) : Kys (m + 1) (l ++ [s]) :=
  ⟨by have := h.1; simp; omega, fun x hx => by exact (List.mem_append.1 hx).elim (h.2 x) (fun e => List.mem_singleton.1 e ▸ hs)⟩
theorem Kys.mono {m m' : Nat} {l : List ByteArray} (h : Kys m l) (hm : m ≤ m') : Kys m' l := ⟨Nat.le_trans h.1 hm, h.2⟩
theorem keys_l0 {s : List Int} (hs : Bys s) : ∀ (n m : Nat) (x : List ByteArray) (p sd : Int), Kys m x → m + n ≤ 1000 → 0 ≤ p → p + 12 * (n : Int) ≤ 500000000000000000 →
    Dr (fun k => spec_l1Cur_keys.l0 k x (n : Int) s p sd) p (12 * (n : Int)) (Kys (m + n)) := by
  intro n
  induction n with
  | zero =>
    intro m x p sd hx hm h0 h1
    refine ⟨x, p, sd, ev_succ ?_, hx, h0, by omega⟩
    simp only [spec_l1Cur_keys.l0]
    exact ev_neg (by omega) (Ev.now _)
  | succ n ih =>
    intro m x p sd hx hm h0 h1
    obtain ⟨v, p', sd', e, hv, q0, q1⟩ := key_ok hs sd h0 (by omega)
    have hl := hx.1
    obtain ⟨u, p2, sd2, eu, hu, r0, r1⟩ := ih (m + 1) (insK v x) p' sd' (hx.ins (by omega)) (by omega) q0 (by omega)
    refine ⟨u, p2, sd2, ev_succ ?_, hu.mono (by omega), r0, by omega⟩
    simp only [spec_l1Cur_keys.l0]
    refine ev_pos (by omega) (ev_bind _ e (ev_bind _ (putS_f x v (by omega)) ?_))
    rw [wdec (by omega)]
    exact eu
theorem keys_ok {s : List Int} (hs : Bys s) {p : Int} (sd : Int) {n : Nat} (hn : n ≤ 100) (h0 : 0 ≤ p) (h1 : p ≤ 400000000000000000) : Dr (fun k => spec_l1Cur_keys.f k s p sd (n : Int)) p (12 * (n : Int) + 2) (Kys n) := by
  obtain ⟨v, p', sd', e, hv, q0, q1⟩ := pick_ok hs sd (n := (n : Int) + 1) h0 (by omega)
  obtain ⟨u, p2, sd2, eu, hu, r0, r1⟩ := keys_l0 hs v.toNat 0 [] p' sd' ⟨by simp, by simp⟩ (by omega) q0 (by omega)
  refine ⟨u, p2, sd2, ?_, hu.mono (by omega), r0, by omega⟩
  unfold spec_l1Cur_keys.f
  rw [w64 (x := (n : Int) + 1) (by omega) (by omega), e]
  refine ev_bind _ (Ev.now _) ?_
  rw [show ((v.toNat : Nat) : Int) = v from by omega] at eu
  exact eu
end Go.Proofs.YtmehagedoaopeaaQ
namespace Go.Proofs.YtmehagedoaopeaaQ
open Go Go.RowKit Go.Proofs.YtmehagedoaopeaaW.PrintWords Go.Proofs.YtmehagedoaopeaaGp Go.Proofs.Ytmehagedoaopeaa.PR

theorem Dr.mono {α : Type} {g : Nat → Option (α × Int × Int)} {p c c' : Int} {P P' : α → Prop} (h : Dr g p c P) (hc : c ≤ c') (hP : ∀ x, P x → P' x) : Dr g p c' P' := by
  obtain ⟨v, p', sd', e, hv, q0, q1⟩ := h
  exact ⟨v, p', sd', e, hP v hv, q0, by omega⟩
theorem seed9_ok {s : List Int} (hs : Bys s) {p : Int} (sd : Int) (h0 : 0 ≤ p) (h1 : p ≤ 1000000000000000000) :
    ∃ v p' sd', spec_l1Cur_seed9.f s p sd = some (v, p', sd') ∧ (-1 ≤ v ∧ v ≤ 10000) ∧ 0 ≤ p' ∧ p' ≤ p + 4 := by
  obtain ⟨v, p', sd', e, hv, q0, q1⟩ := pick_ok hs sd (n := 12) h0 (by omega)
  unfold spec_l1Cur_seed9.f
  rw [e]
  simp only [Option.bind_some]
  by_cases c : v = 0
  · obtain ⟨u, p2, sd2, eu, hu, r0, r1⟩ := among_ok hs sd' (l := [(-1), 9999, 10000]) (by simp) q0 (by omega)
    rw [if_pos c, eu]
    refine ⟨u, p2, sd2, rfl, ?_, r0, by omega⟩
    simp only [List.mem_cons, List.not_mem_nil, or_false] at hu
    omega
  · rw [if_neg c]
    by_cases d : v = 1
    · obtain ⟨u, p2, sd2, eu, hu, r0, r1⟩ := pick_ok hs sd' (n := 10000) q0 (by omega)
      rw [if_pos d, eu]
      exact ⟨u, p2, sd2, rfl, by omega, r0, by omega⟩
    · obtain ⟨u, p2, sd2, eu, hu, r0, r1⟩ := pick_ok hs sd' (n := 20) q0 (by omega)
      rw [if_neg d, eu]
      exact ⟨u, p2, sd2, rfl, by omega, r0, by omega⟩
theorem of_ok {s : List Int} (hs : Bys s) {p : Int} (sd : Int) {l : List ByteArray} (hl : 0 < l.length) (h0 : 0 ≤ p) (h1 : p ≤ 3000000000000000000) :
    ∃ v p' sd', spec_l1Cur_of.f s p sd l = some (v, p', sd') ∧ v ∈ l ∧ 0 ≤ p' ∧ p' ≤ p + 2 := by
  obtain ⟨v, p', sd', e, hv, q0, q1⟩ := pick_ok hs sd (n := (l.length : Int)) h0 h1
  have hm : rdOf ByteArray.empty l v ∈ l := by
    unfold rdOf
    have : v.toNat < l.length := by omega
    rw [List.getD_eq_getElem?_getD, List.getElem?_eq_getElem this]
    exact List.getElem_mem this
  unfold spec_l1Cur_of.f
  rw [e]
  simp only [Option.bind_some]
  rw [if_pos (by omega), if_pos (by omega)]
  exact ⟨_, _, _, rfl, hm, q0, q1⟩
theorem text_ok {s : List Int} (hs : Bys s) {p : Int} (sd : Int) (h0 : 0 ≤ p) (h1 : p ≤ 500000000000000000) : Dr (fun k => spec_l1Cur_text.f k s p sd) p 14 (fun v => v.size ≤ 13) := by
  obtain ⟨v, p', sd', e, hv, q0, q1⟩ := pick_ok hs sd (n := 16) h0 (by omega)
  obtain ⟨u, p2, sd2, eu, hu, r0, r1⟩ := key_ok hs sd' q0 (by omega)
  unfold spec_l1Cur_text.f
  rw [e]
  simp only [Option.bind_some]
  by_cases c0 : v = 0
  · exact ⟨_, p', sd', ev_pos c0 (Ev.now _), by decide, q0, by omega⟩
  · by_cases c1 : v = 1
    · have h1 : (⟨#[32]⟩ : ByteArray).size = 1 := rfl
      refine ⟨u ++ ⟨#[32]⟩, p2, sd2, ev_neg c0 (ev_pos c1 (ev_bind _ eu (ev_pos (by simp only []; omega) (Ev.now _)))), ?_, r0, by omega⟩
      show (u ++ ⟨#[32]⟩ : ByteArray).size ≤ 13
      rw [ByteArray.size_append]
      omega
    · by_cases c2 : v = 2
      · exact ⟨_, p', sd', ev_neg c0 (ev_neg c1 (ev_pos c2 (Ev.now _))), by decide, q0, by omega⟩
      · by_cases c3 : v = 3
        · obtain ⟨x, p3, sd3, ex, hx, t0, t1⟩ := of_ok hs sd' (l := [(⟨#[126]⟩ : ByteArray), (⟨#[125]⟩ : ByteArray), (⟨#[97, 126]⟩ : ByteArray), (⟨#[127]⟩ : ByteArray)]) (by simp) q0 (by omega)
          refine ⟨x, p3, sd3, ev_neg c0 (ev_neg c1 (ev_neg c2 (ev_pos c3 ?_))), ?_, t0, by omega⟩
          · rw [ex]; exact ev_bind _ (Ev.now _) (Ev.now _)
          · simp only [List.mem_cons, List.not_mem_nil, or_false] at hx
            rcases hx with rfl | rfl | rfl | rfl <;> decide
        · exact ⟨u, p2, sd2, ev_neg c0 (ev_neg c1 (ev_neg c2 (ev_neg c3 (ev_bind _ eu (Ev.now _))))), by omega, r0, by omega⟩
theorem many_l0 (s : List Int) (p sd : Int) : ∀ (d i m : Nat) (x : List ByteArray), Kys m x → m + d ≤ 1000 → i + d ≤ 1000 →
    ∃ v, Ev (fun k => spec_l1Cur_many.l0 k ((i + d : Nat) : Int) x (i : Int) s p sd) (v, p, sd) ∧ Kys (m + d) v := by
  intro d
  induction d with
  | zero =>
    intro i m x hx hm hi
    refine ⟨x, ev_succ ?_, hx⟩
    simp only [spec_l1Cur_many.l0]
    exact ev_neg (by omega) (Ev.now _)
  | succ d ih =>
    intro i m x hx hm hi
    have hl := hx.1
    have hz : (strOfNums [(wrap64 (97 + (wrap64 (Int.tdiv (i : Int) 10)))) % 256, (wrap64 (48 + (Int.tmod (i : Int) 10))) % 256]).size ≤ 13 := by rw [strOf_size]; simp
    obtain ⟨v, e, hv⟩ := ih (i + 1) (m + 1) (insK (strOfNums [(wrap64 (97 + (wrap64 (Int.tdiv (i : Int) 10)))) % 256, (wrap64 (48 + (Int.tmod (i : Int) 10))) % 256]) x) (hx.ins hz) (by omega) (by omega)
    refine ⟨v, ev_succ ?_, hv.mono (by omega)⟩
    simp only [spec_l1Cur_many.l0]
    refine ev_pos (by omega) (ev_bind _ (putS_f x _ (by omega)) ?_)
    rw [winc (by omega), show i + (d + 1) = i + 1 + d from by omega]
    exact e
theorem anyKeys_ok {s : List Int} (hs : Bys s) {p : Int} (sd : Int) {n : Nat} (hn : n ≤ 40) (h0 : 0 ≤ p) (h1 : p ≤ 100000000000000000) : Dr (fun k => spec_l1Cur_anyKeys.f k s p sd (n : Int)) p 600 (Kys 42) := by
  obtain ⟨ks, p', sd', e, hv, q0, q1⟩ := keys_ok hs sd (by omega : n ≤ 100) h0 (by omega)
  obtain ⟨v, p2, sd2, e2, hv2, r0, r1⟩ := pick_ok hs sd' (n := 14) q0 (by omega)
  have hl := hv.1
  unfold spec_l1Cur_anyKeys.f
  by_cases c0 : v = 0
  · obtain ⟨u, p3, sd3, eu, hu, t0, t1⟩ := text_ok hs sd2 r0 (by omega)
    refine ⟨ks ++ [u], p3, sd3, ev_bind _ e ?_, (hv.one hu).mono (by omega), t0, by omega⟩
    simp only [e2]
    exact ev_bind _ (Ev.now _) (ev_pos c0 (ev_bind _ eu (ev_pos (by omega) (Ev.now _))))
  · by_cases c1 : v = 1
    · by_cases c : (ks.length : Int) > 0
      · obtain ⟨u, p3, sd3, eu, hu, t0, t1⟩ := pick_ok hs sd2 (n := (ks.length : Int)) r0 (by omega)
        have hm : rdOf ByteArray.empty ks u ∈ ks := by
          unfold rdOf
          have : u.toNat < ks.length := by omega
          rw [List.getD_eq_getElem?_getD, List.getElem?_eq_getElem this]
          exact List.getElem_mem this
        refine ⟨ks ++ [rdOf ByteArray.empty ks u], p3, sd3, ev_bind _ e ?_, (hv.one (hv.2 _ hm)).mono (by omega), t0, by omega⟩
        simp only [e2]
        refine ev_bind _ (Ev.now _) (ev_neg c0 (ev_pos c1 (ev_pos c ?_)))
        simp only [eu]
        exact ev_bind _ (Ev.now _) (ev_pos (by omega) (ev_pos (by omega) (ev_pos (by omega) (Ev.now _))))
      · refine ⟨ks, p2, sd2, ev_bind _ e ?_, hv.mono (by omega), r0, by omega⟩
        simp only [e2]
        exact ev_bind _ (Ev.now _) (ev_neg c0 (ev_pos c1 (ev_neg c (Ev.now _))))
    · by_cases c2 : v = 2
      · obtain ⟨u, p3, sd3, eu, hu, t0, t1⟩ := pick_ok hs sd2 (n := 2) r0 (by omega)
        obtain ⟨y, ey, hy⟩ := many_l0 s p3 sd3 (40 + u.toNat) 0 0 [] ⟨by simp, by simp⟩ (by omega) (by omega)
        refine ⟨y, p3, sd3, ev_bind _ e ?_, hy.mono (by omega), t0, by omega⟩
        simp only [e2]
        refine ev_bind _ (Ev.now _) (ev_neg c0 (ev_neg c1 (ev_pos c2 ?_)))
        simp only [eu]
        refine ev_bind _ (Ev.now _) (ev_bind (y, p3, sd3) ?_ (Ev.now _))
        unfold spec_l1Cur_many.f
        simp only []
        rw [w64 (by omega) (by omega), show 40 + u = ((0 + (40 + u.toNat) : Nat) : Int) from by omega]
        exact ey
      · refine ⟨ks, p2, sd2, ev_bind _ e ?_, hv.mono (by omega), r0, by omega⟩
        simp only [e2]
        exact ev_bind _ (Ev.now _) (ev_neg c0 (ev_neg c1 (ev_neg c2 (Ev.now _))))
theorem big_f {l0 l1 : List Int} (h0 : l0.length ≤ maxLen) (h1 : l1.length ≤ maxLen) : ∃ b, laws_big.f l0 l1 = some b ∧ (b = false → (l0.length : Int) ≤ 1048576 ∧ (l1.length : Int) ≤ 1048576) := by
  rw [maxLen_eq] at h0 h1
  unfold laws_big.f
  by_cases c : (l0.length : Int) > 1048576
  · exact ⟨true, if_pos c, by simp⟩
  · refine ⟨_, if_neg c, fun h => ?_⟩
    rw [decide_eq_false_iff_not, w64 (by omega) (by omega)] at h
    omega
theorem bys {l : List Int} (h : (l.length : Int) ≤ 1048576) (hw : ∀ x ∈ l, (Lit.int .u8 x).wf = true) : Bys l := by
  refine ⟨h, fun x hx => ?_⟩
  have := hw x hx
  simp only [Lit.wf, Bool.and_eq_true, decide_eq_true_eq] at this
  exact this
end Go.Proofs.YtmehagedoaopeaaQ
namespace Go.Proofs.YtmehagedoaopeaaQ
open Go Go.RowKit Go.Proofs.YtmehagedoaopeaaW.PrintWords Go.Proofs.YtmehagedoaopeaaGp Go.Proofs.Ytmehagedoaopeaa.PR

theorem spec_in (n a b : Int) : spec_l1In.f n a b = some (decide (a ≤ n ∧ n ≤ b)) := by
  unfold spec_l1In.f
  by_cases h : a ≤ n <;> by_cases h' : n ≤ b <;> simp [h, h']
theorem impl_in (n a b : Int) : impl_in.f n a b = some (decide (a ≤ n ∧ n ≤ b)) := by
  unfold impl_in.f
  by_cases h : a ≤ n <;> by_cases h' : n ≤ b <;> simp [h, h']

def byteOk (c : UInt8) : Bool := decide (33 ≤ (c.toNat : Int) ∧ (c.toNat : Int) ≤ 125)
def isKeyB (s : ByteArray) : Bool := s.data.toList.all byteOk && decide (1 ≤ (s.size : Int) ∧ (s.size : Int) ≤ 12)
theorem spec_IsKey_l0 (x0 : ByteArray) (hz : (x0.size : Int) ≤ 9223372036854775806) : ∀ (t pre : List UInt8), x0.data.toList = pre ++ t →
    Ev (fun k => spec_IsKey.l0 k x0 (pre.length : Int)) (t.all byteOk && decide (1 ≤ (x0.size : Int) ∧ (x0.size : Int) ≤ 12)) := by
  intro t
  induction t with
  | nil =>
    intro pre h
    refine ev_succ ?_
    simp only [spec_IsKey.l0, spec_in, Option.bind_some]
    exact ev_neg (not_lt_size h) (ev_some (by simp))
  | cons c t ih =>
    intro pre h
    have hm := lt_size h
    refine ev_succ ?_
    simp only [spec_IsKey.l0, bt_mid h]
    refine ev_pos hm (ev_pos (by omega) ?_)
    by_cases c1 : (c.toNat : Int) < 33
    · exact ev_pos c1 (ev_some (by simp [byteOk]; omega))
    · refine ev_neg c1 ?_
      by_cases c2 : (c.toNat : Int) > 125
      · exact ev_pos c2 (ev_some (by simp [byteOk]; omega))
      · refine ev_neg c2 ?_
        rw [winc (by omega)]
        have := ih (pre ++ [c]) (by rw [h]; simp)
        rw [len_one] at this
        have hb : byteOk c = true := by simp [byteOk]; omega
        simpa [hb] using this
theorem spec_IsKey_f (s : ByteArray) (hz : (s.size : Int) ≤ 9223372036854775806) : Ev (fun k => spec_IsKey.f k s) (isKeyB s) := by
  unfold spec_IsKey.f
  exact spec_IsKey_l0 s hz s.data.toList [] rfl
theorem impl_IsKey_l0 (x0 : ByteArray) (hz : (x0.size : Int) ≤ 9223372036854775806) : ∀ (t pre : List UInt8), x0.data.toList = pre ++ t →
    Ev (fun k => impl_IsKey.l0 k x0 (x0.size : Int) (pre.length : Int)) (t.all byteOk && decide (1 ≤ (x0.size : Int) ∧ (x0.size : Int) ≤ 12)) := by
  intro t
  induction t with
  | nil =>
    intro pre h
    refine ev_succ ?_
    simp only [impl_IsKey.l0, impl_in, Option.bind_some]
    exact ev_neg (not_lt_size h) (ev_some (by simp))
  | cons c t ih =>
    intro pre h
    have hm := lt_size h
    refine ev_succ ?_
    simp only [impl_IsKey.l0, bt_mid h]
    refine ev_pos hm (ev_pos (by omega) (ev_pos hm ?_))
    by_cases c1 : (c.toNat : Int) < 33
    · exact ev_pos c1 (ev_some (by simp [byteOk]; omega))
    · refine ev_neg c1 ?_
      by_cases c2 : (c.toNat : Int) > 125
      · exact ev_pos c2 (ev_some (by simp [byteOk]; omega))
      · refine ev_neg c2 ?_
        rw [winc (by omega)]
        have := ih (pre ++ [c]) (by rw [h]; simp)
        rw [len_one] at this
        have hb : byteOk c = true := by simp [byteOk]; omega
        simpa [hb] using this
theorem impl_IsKey_f (s : ByteArray) (hz : (s.size : Int) ≤ 9223372036854775806) : Ev (fun k => impl_IsKey.f k s) (isKeyB s) := by
  unfold impl_IsKey.f
  exact impl_IsKey_l0 s hz s.data.toList [] rfl
theorem isKeyB_size {s : ByteArray} (h : isKeyB s = true) : 1 ≤ s.size ∧ s.size ≤ 12 := by
  simp [isKeyB] at h
  omega

def keysFrom : Option ByteArray → List ByteArray → Bool
  | _, [] => true
  | p, s :: t => isKeyB s && (match p with | none => true | some q => lessS q s) && keysFrom (some s) t
def areKeysB (l : List ByteArray) : Bool := keysFrom none l && decide ((l.length : Int) ≤ 40)
def lastOf (pre : List ByteArray) : Option ByteArray := pre.getLast?
theorem lastOf_one (pre : List ByteArray) (s : ByteArray) : lastOf (pre ++ [s]) = some s := by simp [lastOf]
theorem lastOf_nil : lastOf [] = none := rfl
theorem last_split {pre : List ByteArray} (h : 0 < pre.length) : ∃ q p, pre = q ++ [p] := by
  obtain ⟨x, hx⟩ : ∃ x, pre.getLast? = some x := by
    cases hp : pre.getLast? with
    | none => rw [List.getLast?_eq_none_iff] at hp; subst hp; simp at h
    | some x => exact ⟨x, rfl⟩
  obtain ⟨q, hq⟩ := List.getLast?_eq_some_iff.1 hx
  exact ⟨q, x, hq⟩

theorem spec_biKeys_l0 (x0 : List ByteArray) (hl : (x0.length : Int) ≤ 9223372036854775806) : ∀ (t pre : List ByteArray), x0 = pre ++ t → (∀ s ∈ t, (s.size : Int) ≤ 9223372036854775806) →
    Ev (fun k => spec_biKeys.l0 k x0 x0 (x0.length : Int) (pre.length : Int)) (keysFrom (lastOf pre) t && decide ((x0.length : Int) ≤ 40)) := by
  intro t
  induction t with
  | nil =>
    intro pre h hs
    refine ev_succ ?_
    simp only [spec_biKeys.l0]
    exact ev_neg (by rw [h]; exact not_lt_end) (ev_some (by simp [keysFrom]))
  | cons s t ih =>
    intro pre h hs
    have hm : ((pre.length : Nat) : Int) < (x0.length : Int) := by rw [h]; exact lt_mid
    have hg : rdOf ByteArray.empty x0 (pre.length : Int) = s := by rw [h]; exact rdOf_mid
    have next := ih (pre ++ [s]) (by rw [h]; simp) (fun x hx => hs x (by simp [hx]))
    rw [len_one, lastOf_one] at next
    refine ev_succ ?_
    simp only [spec_biKeys.l0, hg]
    refine ev_pos hm (ev_pos (by omega) (ev_pos hm (ev_bind _ (spec_IsKey_f s (hs s (by simp))) ?_)))
    cases hk : isKeyB s with
    | false => exact ev_neg (by simp) (ev_some (by simp [keysFrom, hk]))
    | true =>
      refine ev_pos rfl ?_
      by_cases c : 0 < pre.length
      · obtain ⟨q, p, rfl⟩ := last_split c
        have hp : rdOf ByteArray.empty x0 ((q.length : Nat) : Int) = p := by rw [h]; exact rdOf_last
        have hw : wrap64 (((q ++ [p]).length : Int) - 1) = (q.length : Int) := by rw [len_one]; exact wdec (by simp at hm; omega)
        simp only [hw, hp, lastOf_one, keysFrom, hk, Bool.true_and]
        refine ev_pos (by omega) (ev_pos (by omega) (ev_pos (by simp at hm; omega) ?_))
        by_cases c2 : lessS p s = true
        · refine ev_pos c2 ?_
          rw [winc (by omega), c2, Bool.true_and]
          exact next
        · refine ev_neg c2 (ev_some ?_)
          simp only [Bool.not_eq_true] at c2
          simp [c2]
      · obtain rfl := List.length_eq_zero_iff.1 (show pre.length = 0 by omega)
        refine ev_neg (by simp) ?_
        rw [winc (by omega)]
        simp only [lastOf_nil, keysFrom, hk, Bool.true_and]
        exact next
theorem spec_biKeys_f (l : List ByteArray) (hl : (l.length : Int) ≤ 9223372036854775806) (hs : ∀ s ∈ l, (s.size : Int) ≤ 9223372036854775806) : Ev (fun k => spec_biKeys.f k l) (areKeysB l) := by
  unfold spec_biKeys.f
  exact spec_biKeys_l0 l hl l [] rfl hs
theorem impl_AreKeys_l0 (x0 : List ByteArray) (hl : (x0.length : Int) ≤ 9223372036854775806) : ∀ (t pre : List ByteArray), x0 = pre ++ t → (∀ s ∈ t, (s.size : Int) ≤ 9223372036854775806) →
    Ev (fun k => impl_AreKeys.l0 k x0 x0 (x0.length : Int) (pre.length : Int)) (keysFrom (lastOf pre) t && decide ((x0.length : Int) ≤ 40)) := by
  intro t
  induction t with
  | nil =>
    intro pre h hs
    refine ev_succ ?_
    simp only [impl_AreKeys.l0]
    exact ev_neg (by rw [h]; exact not_lt_end) (ev_some (by simp [keysFrom]))
  | cons s t ih =>
    intro pre h hs
    have hm : ((pre.length : Nat) : Int) < (x0.length : Int) := by rw [h]; exact lt_mid
    have hg : rdOf ByteArray.empty x0 (pre.length : Int) = s := by rw [h]; exact rdOf_mid
    have next := ih (pre ++ [s]) (by rw [h]; simp) (fun x hx => hs x (by simp [hx]))
    rw [len_one, lastOf_one] at next
    refine ev_succ ?_
    simp only [impl_AreKeys.l0, hg]
    refine ev_pos hm (ev_pos (by omega) (ev_pos hm (ev_bind _ (impl_IsKey_f s (hs s (by simp))) ?_)))
    cases hk : isKeyB s with
    | false => exact ev_neg (by simp) (ev_some (by simp [keysFrom, hk]))
    | true =>
      refine ev_pos rfl ?_
      by_cases c : 0 < pre.length
      · obtain ⟨q, p, rfl⟩ := last_split c
        have hp : rdOf ByteArray.empty x0 ((q.length : Nat) : Int) = p := by rw [h]; exact rdOf_last
        have hw : wrap64 (((q ++ [p]).length : Int) - 1) = (q.length : Int) := by rw [len_one]; exact wdec (by simp at hm; omega)
        simp only [hw, hp, lastOf_one, keysFrom, hk, Bool.true_and]
        refine ev_pos (by omega) (ev_pos (by omega) (ev_pos (by simp at hm; omega) ?_))
        by_cases c2 : lessS p s = true
        · refine ev_pos c2 ?_
          rw [winc (by omega), c2, Bool.true_and]
          exact next
        · refine ev_neg c2 (ev_some ?_)
          simp only [Bool.not_eq_true] at c2
          simp [c2]
      · obtain rfl := List.length_eq_zero_iff.1 (show pre.length = 0 by omega)
        refine ev_neg (by simp) ?_
        rw [winc (by omega)]
        simp only [lastOf_nil, keysFrom, hk, Bool.true_and]
        exact next
theorem impl_AreKeys_f (l : List ByteArray) (hl : (l.length : Int) ≤ 9223372036854775806) (hs : ∀ s ∈ l, (s.size : Int) ≤ 9223372036854775806) : Ev (fun k => impl_AreKeys.f k l) (areKeysB l) := by
  unfold impl_AreKeys.f
  exact impl_AreKeys_l0 l hl l [] rfl hs
theorem areKeysB_len {l : List ByteArray} (h : areKeysB l = true) : l.length ≤ 40 := by
  simp [areKeysB] at h
  omega
theorem keysFrom_all : ∀ (p : Option ByteArray) (l : List ByteArray), keysFrom p l = true → ∀ s ∈ l, isKeyB s = true
  | _, [], _, s, h => by simp at h
  | p, x :: t, hk, s, h => by
    simp only [keysFrom, Bool.and_eq_true] at hk
    rcases List.mem_cons.1 h with rfl | h
    · exact hk.1.1
    · exact keysFrom_all _ t hk.2 s h
theorem areKeysB_all {l : List ByteArray} (h : areKeysB l = true) : ∀ s ∈ l, isKeyB s = true := by
  simp only [areKeysB, Bool.and_eq_true] at h
  exact keysFrom_all _ _ h.1
end Go.Proofs.YtmehagedoaopeaaQ
namespace Go.Proofs.YtmehagedoaopeaaQ
open Go Go.RowKit Go.Proofs.YtmehagedoaopeaaW.PrintWords Go.Proofs.YtmehagedoaopeaaGp Go.Proofs.Ytmehagedoaopeaa.PR

theorem texts_l1 {s : List Int} (hs : Bys s) {N : Nat} (hN : N ≤ 400) : ∀ (d : Nat) (x : List ByteArray) (p sd : Int), N - x.length ≤ d → Kys 400 x → 0 ≤ p → p + 12 * (d : Int) ≤ 500000000000000000 →
    Dr (fun k => spec_l1Cur_texts.l1 k x (N : Int) s p sd) p (12 * (d : Int)) (Kys 400) := by
  intro d
  induction d with
  | zero =>
    intro x p sd h1 hx h0 hp
    refine ⟨x, p, sd, ev_succ ?_, hx, h0, by omega⟩
    simp only [spec_l1Cur_texts.l1]
    exact ev_neg (by omega) (Ev.now _)
  | succ d ih =>
    intro x p sd h1 hx h0 hp
    by_cases c : (x.length : Int) < (N : Int)
    · obtain ⟨v, p', sd', e, hv, q0, q1⟩ := key_ok hs sd h0 (by omega)
      obtain ⟨u, p2, sd2, eu, hu, r0, r1⟩ := ih (x ++ [v]) p' sd' (by simp; omega) ⟨by simp; omega, (hx.one (by omega)).2⟩ q0 (by omega)
      refine ⟨u, p2, sd2, ev_succ ?_, hu, r0, by omega⟩
      simp only [spec_l1Cur_texts.l1]
      exact ev_pos c (ev_bind _ e (ev_pos (by omega) eu))
    · refine ⟨x, p, sd, ev_succ ?_, hx, h0, by omega⟩
      simp only [spec_l1Cur_texts.l1]
      exact ev_neg c (Ev.now _)
theorem texts_j2 {s : List Int} (hs : Bys s) {x : List ByteArray} (hx : Kys 60 x) {p : Int} (sd : Int) (h0 : 0 ≤ p) (h1 : p ≤ 100000000000000000) :
    Dr (fun k => spec_l1Cur_texts.j2 k x s p sd) p 6000 (Kys 400) := by
  obtain ⟨b, p1, sd1, e1, q0, q1⟩ := one_ok hs sd 20 h0 (by omega)
  by_cases c : b = true
  · obtain ⟨v, p2, sd2, e2, hv, r0, r1⟩ := pick_ok hs sd1 (n := 2) q0 (by omega)
    obtain ⟨u, p3, sd3, e3, hu, t0, t1⟩ := texts_l1 hs (N := 300 + v.toNat) (by omega) 400 x p2 sd2 (by omega) (hx.mono (by omega)) r0 (by omega)
    refine ⟨u, p3, sd3, ev_succ ?_, hu, t0, by omega⟩
    simp only [spec_l1Cur_texts.j2, e1]
    refine ev_bind _ (Ev.now _) (ev_pos c ?_)
    simp only [e2]
    refine ev_bind _ (Ev.now _) ?_
    rw [w64 (by omega) (by omega), show 300 + v = ((300 + v.toNat : Nat) : Int) from by omega]
    exact e3
  · refine ⟨x, p1, sd1, ev_succ ?_, hx.mono (by omega), q0, by omega⟩
    simp only [spec_l1Cur_texts.j2, e1]
    exact ev_bind _ (Ev.now _) (ev_neg c (Ev.now _))
theorem texts_l0 {s : List Int} (hs : Bys s) {ks : List ByteArray} (hk : ∀ x ∈ ks, x.size ≤ 13) : ∀ (n m : Nat) (x : List ByteArray) (p sd : Int), Kys m x → m + n ≤ 50 → 0 ≤ p → p + 20 * (n : Int) ≤ 50000000000000000 →
    Dr (fun k => spec_l1Cur_texts.l0 k ks x (n : Int) s p sd) p (20 * (n : Int) + 7000) (Kys 400) := by
  intro n
  induction n with
  | zero =>
    intro m x p sd hx hm h0 h1
    obtain ⟨b, p1, sd1, e1, q0, q1⟩ := one_ok hs sd 12 h0 (by omega)
    have hl := hx.1
    by_cases c : b = true
    · obtain ⟨v, p2, sd2, e2, hv, r0, r1⟩ := text_ok hs sd1 q0 (by omega)
      obtain ⟨u, p3, sd3, e3, hu, t0, t1⟩ := texts_j2 hs (x := x ++ [v]) ((hx.one hv).mono (by omega)) sd2 r0 (by omega)
      refine ⟨u, p3, sd3, ev_succ ?_, hu, t0, by omega⟩
      simp only [spec_l1Cur_texts.l0, e1]
      exact ev_neg (by omega) (ev_bind _ (Ev.now _) (ev_pos c (ev_bind _ e2 (ev_pos (by omega) e3))))
    · obtain ⟨u, p3, sd3, e3, hu, t0, t1⟩ := texts_j2 hs (x := x) (hx.mono (by omega)) sd1 q0 (by omega)
      refine ⟨u, p3, sd3, ev_succ ?_, hu, t0, by omega⟩
      simp only [spec_l1Cur_texts.l0, e1]
      exact ev_neg (by omega) (ev_bind _ (Ev.now _) (ev_neg c e3))
  | succ n ih =>
    intro m x p sd hx hm h0 h1
    have hl := hx.1
    have key : ∀ (p1 sd1 : Int), 0 ≤ p1 → p1 ≤ p + 2 → Dr (fun k => spec_l1Cur_texts.j1 k ks x ((n + 1 : Nat) : Int) false s p1 sd1) p (20 * ((n + 1 : Nat) : Int) + 7000) (Kys 400) := fun p1 sd1 g0 g1 => by
      obtain ⟨v, p2, sd2, e2, hv, r0, r1⟩ := key_ok hs sd1 g0 (by omega)
      obtain ⟨u, p3, sd3, e3, hu, t0, t1⟩ := ih (m + 1) (x ++ [v]) p2 sd2 (hx.one (by omega)) (by omega) r0 (by omega)
      refine ⟨u, p3, sd3, ev_succ ?_, hu, t0, by omega⟩
      simp only [spec_l1Cur_texts.j1]
      refine ev_neg (by simp) (ev_bind _ e2 (ev_pos (by omega) ?_))
      rw [wdec (by omega)]
      exact e3
    by_cases c0 : (ks.length : Int) > 0
    · obtain ⟨b, p1, sd1, e1, q0, q1⟩ := one_ok hs sd 4 h0 (by omega)
      by_cases c : b = true
      · obtain ⟨v, p2, sd2, e2, hv, r0, r1⟩ := of_ok hs sd1 (l := ks) (by omega) q0 (by omega)
        obtain ⟨u, p3, sd3, e3, hu, t0, t1⟩ := ih (m + 1) (x ++ [v]) p2 sd2 (hx.one (hk v hv)) (by omega) r0 (by omega)
        refine ⟨u, p3, sd3, ev_succ ?_, hu, t0, by omega⟩
        simp only [spec_l1Cur_texts.l0, e1]
        refine ev_pos (by omega) (ev_pos c0 (ev_bind _ (Ev.now _) (ev_succ ?_)))
        simp only [spec_l1Cur_texts.j1, e2]
        refine ev_pos c (ev_bind _ (Ev.now _) (ev_pos (by omega) ?_))
        rw [wdec (by omega)]
        exact e3
      · obtain ⟨u, p3, sd3, e3, hu, t0, t1⟩ := key p1 sd1 q0 q1
        refine ⟨u, p3, sd3, ev_succ ?_, hu, t0, t1⟩
        simp only [spec_l1Cur_texts.l0, e1]
        refine ev_pos (by omega) (ev_pos c0 (ev_bind _ (Ev.now _) ?_))
        simp only [Bool.not_eq_true] at c
        simp only [c]
        exact e3
    · obtain ⟨u, p3, sd3, e3, hu, t0, t1⟩ := key p sd h0 (by omega)
      refine ⟨u, p3, sd3, ev_succ ?_, hu, t0, t1⟩
      simp only [spec_l1Cur_texts.l0]
      exact ev_pos (by omega) (ev_neg c0 e3)
theorem texts_ok {s : List Int} (hs : Bys s) {ks : List ByteArray} (hk : ∀ x ∈ ks, x.size ≤ 13) {p : Int} (sd : Int) (h0 : 0 ≤ p) (h1 : p ≤ 10000000000000000) : Dr (fun k => spec_l1Cur_texts.f k s p sd ks) p 8000 (Kys 400) := by
  obtain ⟨v, p1, sd1, e1, hv, q0, q1⟩ := among_ok hs sd (l := [4, 12, 30]) (by simp) h0 (by omega)
  simp only [List.mem_cons, List.not_mem_nil, or_false] at hv
  obtain ⟨n, p2, sd2, e2, hn, r0, r1⟩ := pick_ok hs sd1 (n := v) q0 (by omega)
  obtain ⟨u, p3, sd3, e3, hu, t0, t1⟩ := texts_l0 hs hk n.toNat 0 [] p2 sd2 ⟨by simp, by simp⟩ (by omega) r0 (by omega)
  refine ⟨u, p3, sd3, ?_, hu, t0, by omega⟩
  unfold spec_l1Cur_texts.f
  simp only [e1, Option.bind_some, e2]
  rw [show ((n.toNat : Nat) : Int) = n from by omega] at e3
  exact e3
end Go.Proofs.YtmehagedoaopeaaQ
namespace Go.Proofs.YtmehagedoaopeaaQ
open Go Go.RowKit

abbrev Edges := List (List Int)
def edg (E : Edges) (i : Nat) : List Int := E.getD i []
def degOf (E : Edges) (L : List Nat) (p : Int) : Nat := (L.map fun i => (edg E i).count p).sum
def placesL (P : Nat) : List Int := (List.range P).map Int.ofNat
def freeL (P : Nat) (E : Edges) (L : List Nat) : List Int := (placesL P).filter fun p => degOf E L p == 1
def withE (E : Edges) (L : List Nat) (p : Int) : Option Nat := L.find? fun i => (edg E i).contains p
def dropE (L : List Nat) (i : Nat) : List Nat := L.filter fun j => j != i
def goodE (P : Nat) (E : Edges) : Prop := ∀ e ∈ E, ∀ p ∈ e, 0 ≤ p ∧ p < (P : Int)
theorem degOf_nil (E : Edges) (p : Int) : degOf E [] p = 0 := rfl
theorem degOf_cons (E : Edges) (i : Nat) (L : List Nat) (p : Int) : degOf E (i :: L) p = (edg E i).count p + degOf E L p := by simp [degOf]
theorem degOf_sub {E : Edges} {S L : List Nat} (h : S.Sublist L) (p : Int) : degOf E S p ≤ degOf E L p := by
  induction h with
  | slnil => exact Nat.le_refl _
  | cons i _ ih => rw [degOf_cons]; omega
  | cons_cons i _ ih => rw [degOf_cons, degOf_cons]; omega
theorem degOf_mem {E : Edges} {L : List Nat} {i : Nat} {p : Int} (h : i ∈ L) (hp : p ∈ edg E i) : 1 ≤ degOf E L p := by
  have : 0 < (edg E i).count p := List.count_pos_iff.2 hp
  have h2 := degOf_sub (E := E) (List.singleton_sublist.2 h) p
  rw [degOf_cons, degOf_nil] at h2
  omega
theorem degOf_two {E : Edges} : ∀ {L : List Nat} {i j : Nat} {p : Int}, i ∈ L → j ∈ L → i ≠ j → p ∈ edg E i → p ∈ edg E j → 2 ≤ degOf E L p
  | [], _, _, _, h, _, _, _, _ => by cases h
  | x :: L, i, j, p, hi, hj, hne, pi, pj => by
    rw [degOf_cons]
    rcases List.mem_cons.1 hi with e1 | h1
    · have a : 0 < (edg E x).count p := List.count_pos_iff.2 (e1 ▸ pi)
      rcases List.mem_cons.1 hj with e2 | h2
      · exact absurd (e1.trans e2.symm) hne
      · have := degOf_mem h2 pj
        omega
    · rcases List.mem_cons.1 hj with e2 | h2
      · have a : 0 < (edg E x).count p := List.count_pos_iff.2 (e2 ▸ pj)
        have := degOf_mem h1 pi
        omega
      · have := degOf_two h1 h2 hne pi pj
        omega
theorem degOf_pos {E : Edges} {L : List Nat} {p : Int} (h : 1 ≤ degOf E L p) : ∃ i ∈ L, p ∈ edg E i := by
  induction L with
  | nil => rw [degOf_nil] at h; omega
  | cons i L ih =>
    rw [degOf_cons] at h
    by_cases c : p ∈ edg E i
    · exact ⟨i, by simp, c⟩
    · rw [List.count_eq_zero_of_not_mem c] at h
      obtain ⟨j, hj, hp⟩ := ih (by omega)
      exact ⟨j, by simp [hj], hp⟩
theorem withE_some {E : Edges} {L : List Nat} {p : Int} {i : Nat} (h : withE E L p = some i) : i ∈ L ∧ p ∈ edg E i := by
  have h1 := List.mem_of_find?_eq_some h
  have h2 := List.find?_some h
  exact ⟨h1, by simpa using h2⟩
theorem withE_ex {E : Edges} {L : List Nat} {p : Int} (h : 1 ≤ degOf E L p) : ∃ i, withE E L p = some i := by
  obtain ⟨i, hi, hp⟩ := degOf_pos h
  cases hw : withE E L p with
  | some j => exact ⟨j, rfl⟩
  | none => exact absurd (by simpa using hp) (by simpa using List.find?_eq_none.1 hw i hi)
theorem mem_freeL {P : Nat} {E : Edges} {L : List Nat} {p : Int} : p ∈ freeL P E L ↔ (0 ≤ p ∧ p < (P : Int)) ∧ degOf E L p = 1 := by
  simp only [freeL, placesL, List.mem_filter, List.mem_map, List.mem_range, beq_iff_eq]
  constructor
  · rintro ⟨⟨i, hi, rfl⟩, h⟩
    exact ⟨⟨Int.natCast_nonneg i, Int.ofNat_lt.2 hi⟩, h⟩
  · rintro ⟨h, e⟩
    exact ⟨⟨p.toNat, by omega, Int.toNat_of_nonneg h.1⟩, e⟩
theorem mem_dropE {L : List Nat} {i j : Nat} : j ∈ dropE L i ↔ j ∈ L ∧ j ≠ i := by simp [dropE]
theorem dropE_sub (L : List Nat) (i : Nat) : (dropE L i).Sublist L := List.filter_sublist
theorem dropE_len {L : List Nat} (hn : L.Nodup) {i : Nat} (h : i ∈ L) : (dropE L i).length + 1 = L.length := by
  have : dropE L i = L.erase i := (hn.erase_eq_filter i).symm
  rw [this, List.length_erase_of_mem h]
  have := List.length_pos_of_mem h
  omega
def stepE (P : Nat) (E : Edges) (L : List Nat) (c : Nat) : Option (Nat × Int) :=
  if (freeL P E L).length = 0 then none else let p := (freeL P E L).getD (c % (freeL P E L).length) 0; some ((withE E L p).getD 0, p)
def peelC (P : Nat) (E : Edges) : List Nat → List Nat → List (Nat × Int) × List Nat
  | [], L => ([], L)
  | c :: cs, L => match stepE P E L c with
    | none => ([], L)
    | some (i, p) => ((i, p) :: (peelC P E cs (dropE L i)).1, (peelC P E cs (dropE L i)).2)
theorem stepE_none {P : Nat} {E : Edges} {L : List Nat} {c : Nat} : stepE P E L c = none ↔ freeL P E L = [] := by
  unfold stepE
  split
  · rename_i h; simp [List.length_eq_zero_iff.1 h]
  · rename_i h; simp; intro e; rw [e] at h; exact h rfl
theorem stepE_some {P : Nat} {E : Edges} {L : List Nat} {c i : Nat} {p : Int} (h : stepE P E L c = some (i, p)) : p ∈ freeL P E L ∧ degOf E L p = 1 ∧ withE E L p = some i := by
  unfold stepE at h
  split at h
  · cases h
  · rename_i hl
    simp only [Option.some.injEq, Prod.mk.injEq] at h
    obtain ⟨h1, h2⟩ := h
    have hm : c % (freeL P E L).length < (freeL P E L).length := Nat.mod_lt _ (by omega)
    have hp : p ∈ freeL P E L := by rw [← h2, List.getD_eq_getElem?_getD, List.getElem?_eq_getElem hm]; exact List.getElem_mem hm
    have hd := (mem_freeL.1 hp).2
    obtain ⟨j, hj⟩ := withE_ex (E := E) (L := L) (p := p) (by omega)
    rw [h2, hj] at h1
    exact ⟨hp, hd, by rw [hj]; simpa using h1⟩
theorem peelC_cons_none {P : Nat} {E : Edges} {L : List Nat} (c : Nat) (cs : List Nat) (h : freeL P E L = []) : peelC P E (c :: cs) L = ([], L) := by
  rw [peelC, stepE_none.2 h]
theorem peelC_cons_some {P : Nat} {E : Edges} {L : List Nat} {c i : Nat} {p : Int} (cs : List Nat) (h : stepE P E L c = some (i, p)) : peelC P E (c :: cs) L = ((i, p) :: (peelC P E cs (dropE L i)).1, (peelC P E cs (dropE L i)).2) := by
  rw [peelC, h]
theorem nodup_drop {L : List Nat} (h : L.Nodup) (i : Nat) : (dropE L i).Nodup := (dropE_sub L i).nodup h
theorem peelC_len {P : Nat} {E : Edges} : ∀ (cs L : List Nat), L.Nodup → (peelC P E cs L).1.length + (peelC P E cs L).2.length = L.length
  | [], L, _ => by simp [peelC]
  | c :: cs, L, hn => by
    cases h : stepE P E L c with
    | none => rw [peelC_cons_none c cs (stepE_none.1 h)]; simp
    | some q =>
      obtain ⟨i, p⟩ := q
      rw [peelC_cons_some cs h]
      have h1 := (withE_some (stepE_some h).2.2).1
      have := peelC_len (P := P) (E := E) cs (dropE L i) (nodup_drop hn i)
      have := dropE_len hn h1
      simp only [List.length_cons]
      omega
theorem freeL_nil {P : Nat} {E : Edges} : freeL P E [] = [] := by
  rw [List.eq_nil_iff_forall_not_mem]
  intro p hp
  have := (mem_freeL.1 hp).2
  rw [degOf_nil] at this
  cases this
def allE (E : Edges) : List Nat := List.range E.length
def peelAll (P : Nat) (E : Edges) : List (Nat × Int) × List Nat := peelC P E (List.replicate E.length 0) (allE E)
def coreE (P : Nat) (E : Edges) : List Nat := (peelAll P E).2
theorem allE_nodup (E : Edges) : (allE E).Nodup := List.nodup_range
end Go.Proofs.YtmehagedoaopeaaQ
namespace Go.Proofs.YtmehagedoaopeaaQ
open Go Go.RowKit Go.Proofs.YtmehagedoaopeaaW.PrintWords

def castL (L : List Nat) : List Int := L.map Int.ofNat
theorem castL_len (L : List Nat) : (castL L).length = L.length := by simp [castL]
theorem castL_app (L M : List Nat) : castL (L ++ M) = castL L ++ castL M := by simp [castL]
theorem rd_castmid {pre t : List Nat} {j : Nat} : rd (castL (pre ++ j :: t)) (pre.length : Int) = (j : Int) := by
  simp [rd, castL]
def cntL (ps : List Int) (m : Nat) : List Int := (List.range m).map fun i => ((ps.count (Int.ofNat i) : Nat) : Int)
theorem cntL_len (ps : List Int) (m : Nat) : (cntL ps m).length = m := by simp [cntL]
theorem cntL_get (ps : List Int) {m i : Nat} (h : i < m) : (cntL ps m)[i]'(by rw [cntL_len]; exact h) = ((ps.count (Int.ofNat i) : Nat) : Int) := by simp [cntL]
theorem cntL_rd (ps : List Int) {m : Nat} {p : Int} (h0 : 0 ≤ p) (h1 : p < (m : Int)) : rd (cntL ps m) p = ((ps.count p : Nat) : Int) := by
  have hlt : p.toNat < (cntL ps m).length := by rw [cntL_len]; omega
  unfold rd
  rw [List.getD_eq_getElem?_getD, List.getElem?_eq_getElem hlt, Option.getD_some, cntL_get _ (by omega), show Int.ofNat p.toNat = p from by simp; omega]
theorem cntL_nil (m : Nat) : cntL [] m = List.replicate m 0 := by
  apply List.ext_getElem
  · simp [cntL]
  · intro i h1 h2
    simp [cntL]
theorem cntL_set (ps : List Int) {m : Nat} {p : Int} (h0 : 0 ≤ p) : (cntL ps m).set p.toNat (((ps.count p : Nat) : Int) + 1) = cntL (ps ++ [p]) m := by
  apply List.ext_getElem
  · simp [cntL]
  · intro i g1 g2
    rw [List.getElem_set]
    simp only [cntL, List.getElem_map, List.getElem_range, List.count_append]
    by_cases c : p.toNat = i
    · rw [if_pos c]
      have : Int.ofNat i = p := by simp; omega
      rw [this]; simp
    · rw [if_neg c]
      have : ¬ p = (i : Int) := by omega
      simp [this]
def plsL (E : Edges) (L : List Nat) : List Int := L.flatMap (edg E)
theorem degOf_pls (E : Edges) (L : List Nat) (p : Int) : (plsL E L).count p = degOf E L p := by
  induction L with
  | nil => rfl
  | cons i L ih => rw [degOf_cons, plsL, List.flatMap_cons, List.count_append, ← ih, plsL]
structure GoodH (P : Nat) (E : Edges) : Prop where
  rng : goodE P E
  len : E.length ≤ 1000
  row : ∀ e ∈ E, e.length ≤ 3
  plc : P ≤ 1000
theorem GoodH.edge {P : Nat} {E : Edges} (h : GoodH P E) (i : Nat) : (edg E i).length ≤ 3 ∧ ∀ p ∈ edg E i, 0 ≤ p ∧ p < (P : Int) := by
  unfold edg
  by_cases c : i < E.length
  · rw [List.getD_eq_getElem?_getD, List.getElem?_eq_getElem c, Option.getD_some]
    exact ⟨h.row _ (List.getElem_mem c), h.rng _ (List.getElem_mem c)⟩
  · rw [List.getD_eq_getElem?_getD, List.getElem?_eq_none (by omega)]
    simp
theorem plsL_len {P : Nat} {E : Edges} (h : GoodH P E) (L : List Nat) : (plsL E L).length ≤ 3 * L.length := by
  induction L with
  | nil => simp [plsL]
  | cons i L ih =>
    have := (h.edge i).1
    simp only [plsL, List.flatMap_cons, List.length_append, List.length_cons] at ih ⊢
    omega
theorem count_le_len (l : List Int) (p : Int) : l.count p ≤ l.length := List.count_le_length

def freeUp (ps : List Int) (i : Nat) : List Int := ((List.range i).map Int.ofNat).filter fun p => ps.count p == 1
theorem freeUp_succ (ps : List Int) (i : Nat) : freeUp ps (i + 1) = if ps.count (i : Int) = 1 then freeUp ps i ++ [(i : Int)] else freeUp ps i := by
  unfold freeUp
  rw [List.range_succ, List.map_append, List.filter_append]
  by_cases c : ps.count (i : Int) = 1
  · rw [if_pos c]; simp [c]
  · rw [if_neg c]; simp [c]
theorem freeUp_len (ps : List Int) (i : Nat) : (freeUp ps i).length ≤ i := by
  unfold freeUp
  refine Nat.le_trans (List.length_filter_le _ _) (by simp)
theorem freeL_up (P : Nat) (E : Edges) (L : List Nat) : freeUp (plsL E L) P = freeL P E L := by
  unfold freeUp freeL placesL
  refine List.filter_congr fun p _ => ?_
  rw [degOf_pls]
def Rg (n : Nat) (L : List Nat) : Prop := L.Sublist (List.range n)
theorem Rg.lt {n : Nat} {L : List Nat} (h : Rg n L) {i : Nat} (hi : i ∈ L) : i < n := List.mem_range.1 (h.subset hi)
theorem Rg.nodup {n : Nat} {L : List Nat} (h : Rg n L) : L.Nodup := List.Sublist.nodup h List.nodup_range
theorem Rg.len {n : Nat} {L : List Nat} (h : Rg n L) : L.length ≤ n := by
  have := List.Sublist.length_le h
  simpa using this
theorem Rg.drop {n : Nat} {L : List Nat} (h : Rg n L) (i : Nat) : Rg n (dropE L i) := (dropE_sub L i).trans h
theorem Rg.all (n : Nat) : Rg n (List.range n) := List.Sublist.refl _
theorem sub_filter : ∀ {L M : List Nat}, L.Sublist M → M.Nodup → M.filter (fun i => L.contains i) = L := by
  intro L M h
  induction h with
  | slnil => intro _; rfl
  | @cons L M a hs ih =>
    intro hn
    rw [List.nodup_cons] at hn
    have : ¬ a ∈ L := fun c => hn.1 (hs.subset c)
    rw [List.filter_cons_of_neg (by simpa using this)]
    exact ih hn.2
  | @cons_cons L M a hs ih =>
    intro hn
    rw [List.nodup_cons] at hn
    rw [List.filter_cons_of_pos (by simp)]
    congr 1
    rw [← ih hn.2]
    refine List.filter_congr fun x hx => ?_
    have : ¬ x = a := fun e => hn.1 (e ▸ hx)
    rw [ih hn.2, Bool.eq_iff_iff]
    simp [this]
theorem Rg.filter {n : Nat} {L : List Nat} (h : Rg n L) : (List.range n).filter (fun i => L.contains i) = L := sub_filter h List.nodup_range
def upTo (L : List Nat) (i : Nat) : List Nat := (List.range i).filter fun j => L.contains j
theorem upTo_succ (L : List Nat) (i : Nat) : upTo L (i + 1) = if i ∈ L then upTo L i ++ [i] else upTo L i := by
  unfold upTo
  rw [List.range_succ, List.filter_append]
  by_cases c : i ∈ L
  · rw [if_pos c]; simp [c]
  · rw [if_neg c]; simp [c]
theorem upTo_all {n : Nat} {L : List Nat} (h : Rg n L) : upTo L n = L := h.filter
theorem upTo_len (L : List Nat) (i : Nat) : (upTo L i).length ≤ i := Nat.le_trans (List.length_filter_le _ _) (by simp)
def goneOf (n : Nat) (L : List Nat) : List Bool := (List.range n).map fun i => !(L.contains i)
theorem goneOf_len (n : Nat) (L : List Nat) : (goneOf n L).length = n := by simp [goneOf]
theorem goneOf_rd {n : Nat} {L : List Nat} {i : Nat} (h : i < n) : rdOf false (goneOf n L) (i : Int) = !(L.contains i) := by
  simp [rdOf, goneOf, h]
theorem goneOf_all (n : Nat) : goneOf n (List.range n) = List.replicate n false := by
  apply List.ext_getElem
  · simp [goneOf]
  · intro i h1 h2
    simp [goneOf] at h1 ⊢
    exact h1
theorem goneOf_set {n : Nat} {L : List Nat} {i : Nat} : (goneOf n L).set i true = goneOf n (dropE L i) := by
  apply List.ext_getElem
  · simp [goneOf]
  · intro j h1 h2
    rw [List.getElem_set]
    simp only [goneOf, List.getElem_map, List.getElem_range]
    by_cases c : i = j
    · rw [if_pos c]; subst c; simp [dropE]
    · rw [if_neg c, Bool.eq_iff_iff]
      simp [dropE, Ne.symm c]
theorem withE_least {E : Edges} {p : Int} : ∀ {L : List Nat} {j : Nat}, L.Pairwise (· < ·) → withE E L p = some j → ∀ k ∈ L, k < j → ¬ p ∈ edg E k
  | [], j, _, h, _, hk, _ => by cases hk
  | x :: L, j, hp, h, k, hk, hkj => by
    rw [List.pairwise_cons] at hp
    unfold withE at h
    rw [List.find?_cons] at h
    by_cases c : (edg E x).contains p = true
    · rw [c] at h
      obtain rfl := Option.some.inj h
      rcases List.mem_cons.1 hk with rfl | hk
      · omega
      · have := hp.1 k hk; omega
    · rw [Bool.eq_false_iff.2 c] at h
      rcases List.mem_cons.1 hk with rfl | hk
      · simpa using c
      · exact withE_least hp.2 h k hk hkj
theorem Rg.sorted {n : Nat} {L : List Nat} (h : Rg n L) : L.Pairwise (· < ·) := List.Pairwise.sublist h List.pairwise_lt_range
end Go.Proofs.YtmehagedoaopeaaQ
namespace Go.Proofs.YtmehagedoaopeaaQ
open Go Go.RowKit Go.Proofs.YtmehagedoaopeaaW.PrintWords Go.Proofs.YtmehagedoaopeaaGp Go.Proofs.Ytmehagedoaopeaa.PR

theorem rd_edg (E : Edges) (i : Nat) : rd_L3 E (i : Int) = edg E i := rfl
theorem wcount {c : Nat} (h : c ≤ 1000000) : wrap64 ((c : Int) + 1) = (c : Int) + 1 := w64 (by omega) (by omega)
theorem impl_degrees_l1 {P : Nat} {E : Edges} {G : List Bool} {n : Int} {r : List Int} {i : Nat} (e : List Int) (hi : (i : Int) < 9223372036854775806) (he : (e.length : Int) ≤ 9223372036854775806) (hr : ∀ p ∈ e, 0 ≤ p ∧ p < (P : Int)) (ps : List Int) (hps : ps.length + e.length ≤ 1000000)
    (H : Ev (fun k => impl_Hyper_degrees.l0 k G (cntL (ps ++ e) P) E n ((i + 1 : Nat) : Int)) r) : ∀ (t pre : List Int), e = pre ++ t →
    Ev (fun k => impl_Hyper_degrees.l1 k G (cntL (ps ++ pre) P) E n (i : Int) e (e.length : Int) (pre.length : Int)) r := by
  intro t
  induction t with
  | nil =>
    intro pre h
    have hp : e = pre := by rw [h, List.append_nil]
    subst hp
    refine ev_succ ?_
    simp only [impl_Hyper_degrees.l1]
    refine ev_neg (by omega) ?_
    rw [winc (by omega)]
    exact H
  | cons x t ih =>
    intro pre h
    have hm : ((pre.length : Nat) : Int) < (e.length : Int) := by rw [h]; exact lt_mid
    have hg : rd e (pre.length : Int) = x := by rw [h]; exact rd_mid
    obtain ⟨x0, x1⟩ := hr x (by rw [h]; simp)
    have hc := count_le_len (ps ++ pre) x
    have hl : e.length = pre.length + (t.length + 1) := by rw [h]; simp
    rw [List.length_append] at hc
    refine ev_succ ?_
    simp only [impl_Hyper_degrees.l1, hg]
    refine ev_pos hm (ev_pos (by omega) (ev_pos hm (ev_pos x0 (ev_pos (by rw [cntL_len]; exact x1) ?_))))
    rw [winc (by omega), cntL_rd _ x0 x1, wcount (by omega), cntL_set _ x0, List.append_assoc]
    have := ih (pre ++ [x]) (by rw [h]; simp)
    rw [len_one] at this
    exact this
theorem impl_degrees_l0 {P : Nat} {E : Edges} (hG : GoodH P E) {L : List Nat} (hL : Rg E.length L) : ∀ (d i : Nat), i + d = E.length →
    Ev (fun k => impl_Hyper_degrees.l0 k (goneOf E.length L) (cntL (plsL E (upTo L i)) P) E (E.length : Int) (i : Int)) (cntL (plsL E L) P) := by
  intro d
  have hn := hG.len
  induction d with
  | zero =>
    intro i h
    have hi : i = E.length := by omega
    refine ev_succ ?_
    simp only [impl_Hyper_degrees.l0]
    refine ev_neg (by omega) (ev_some ?_)
    rw [hi, upTo_all hL]
  | succ d ih =>
    intro i h
    have next := ih (i + 1) (by omega)
    rw [upTo_succ] at next
    refine ev_succ ?_
    simp only [impl_Hyper_degrees.l0]
    refine ev_pos (by omega) (ev_pos (by omega) (ev_pos (by omega) (ev_pos (by rw [goneOf_len]; omega) ?_)))
    rw [goneOf_rd (by omega)]
    by_cases c : i ∈ L
    · rw [if_pos c] at next
      refine ev_neg (by simp [c]) ?_
      rw [rd_edg]
      have hb := plsL_len hG (upTo L i)
      have hu := upTo_len L i
      obtain ⟨he, hr⟩ := hG.edge i
      have hpe : plsL E (upTo L i ++ [i]) = plsL E (upTo L i) ++ edg E i := by simp [plsL]
      rw [hpe] at next
      have := impl_degrees_l1 (P := P) (E := E) (G := goneOf E.length L) (n := (E.length : Int)) (edg E i) (by omega) (by omega) hr (plsL E (upTo L i)) (by omega) next (edg E i) [] rfl
      rw [List.append_nil] at this
      exact this
    · rw [if_neg c] at next
      refine ev_pos (by simp [c]) ?_
      rw [winc (by omega)]
      exact next
theorem impl_degrees_f {P : Nat} {E : Edges} (hG : GoodH P E) {L : List Nat} (hL : Rg E.length L) : Ev (fun k => impl_Hyper_degrees.f k (P : Int) E (goneOf E.length L)) (cntL (plsL E L) P) := by
  have hp := hG.plc
  unfold impl_Hyper_degrees.f
  refine ev_pos (by omega) (ev_pos (by omega) ?_)
  have := impl_degrees_l0 hG hL E.length 0 (by omega)
  rw [show plsL E (upTo L 0) = [] from rfl, cntL_nil] at this
  exact this
theorem impl_singles_l0 {P : Nat} (ps : List Int) (hP : P ≤ 1000) : ∀ (d i : Nat), i + d = P →
    Ev (fun k => impl_Hyper_singles.l0 k (freeUp ps i) (cntL ps P) (P : Int) (i : Int)) (freeUp ps P) := by
  intro d
  induction d with
  | zero =>
    intro i h
    have hi : i = P := by omega
    refine ev_succ ?_
    simp only [impl_Hyper_singles.l0]
    refine ev_neg (by omega) (ev_some (by rw [hi]))
  | succ d ih =>
    intro i h
    have next := ih (i + 1) (by omega)
    have hl := freeUp_len ps i
    rw [freeUp_succ] at next
    refine ev_succ ?_
    simp only [impl_Hyper_singles.l0]
    rw [cntL_rd ps (by omega) (by omega)]
    refine ev_pos (by omega) (ev_pos (by omega) (ev_pos (by rw [cntL_len]; omega) ?_))
    rw [winc (by omega)]
    by_cases c : ps.count (i : Int) = 1
    · rw [if_pos c] at next
      exact ev_pos (by omega) (ev_pos (by omega) next)
    · rw [if_neg c] at next
      exact ev_neg (by omega) next
theorem impl_singles_f {P : Nat} {E : Edges} (hG : GoodH P E) {L : List Nat} (hL : Rg E.length L) : Ev (fun k => impl_Hyper_singles.f k (P : Int) E (goneOf E.length L)) (freeL P E L) := by
  unfold impl_Hyper_singles.f
  refine ev_bind _ (impl_degrees_f hG hL) ?_
  have := impl_singles_l0 (plsL E L) hG.plc P 0 (by omega)
  rw [cntL_len, ← freeL_up]
  exact this
theorem slices_Index_int_l0 (x0 : List Int) (a : Int) (hl : (x0.length : Int) ≤ 9223372036854775806) : ∀ (t pre : List Int), x0 = pre ++ t →
    ∃ r, Ev (fun k => slices_Index_int_int.l0 k x0 a (x0.length : Int) (pre.length : Int)) r ∧ decide (r ≥ 0) = t.contains a := by
  intro t
  induction t with
  | nil =>
    intro pre h
    refine ⟨-1, ev_succ ?_, by simp⟩
    simp only [slices_Index_int_int.l0]
    exact ev_neg (by rw [h]; exact not_lt_end) (Ev.now _)
  | cons x t ih =>
    intro pre h
    have hm : ((pre.length : Nat) : Int) < (x0.length : Int) := by rw [h]; exact lt_mid
    have hg : rd x0 (pre.length : Int) = x := by rw [h]; exact rd_mid
    by_cases c : a = x
    · refine ⟨(pre.length : Int), ev_succ ?_, by simp [c]⟩
      simp only [slices_Index_int_int.l0, hg]
      exact ev_pos hm (ev_pos (by omega) (ev_pos hm (ev_pos c (Ev.now _))))
    · obtain ⟨r, h1, h2⟩ := ih (pre ++ [x]) (by rw [h]; simp)
      rw [len_one] at h1
      refine ⟨r, ev_succ ?_, by rw [h2]; simp [c]⟩
      simp only [slices_Index_int_int.l0, hg]
      refine ev_pos hm (ev_pos (by omega) (ev_pos hm (ev_neg c ?_)))
      rw [winc (by omega)]
      exact h1
theorem slices_Contains_int_f (l : List Int) (a : Int) (hl : (l.length : Int) ≤ 9223372036854775806) : Ev (fun k => slices_Contains_int_int.f k l a) (l.contains a) := by
  obtain ⟨r, h1, h2⟩ := slices_Index_int_l0 l a hl l [] rfl
  unfold slices_Contains_int_int.f slices_Index_int_int.f
  refine ev_bind _ h1 (ev_some h2)
theorem impl_edgeAt_l0 {P : Nat} {E : Edges} (hG : GoodH P E) {L : List Nat} {p : Int} {j : Nat} (hj : j ∈ L) (hjn : j < E.length) (hpj : p ∈ edg E j) (hlt : ∀ k ∈ L, k < j → ¬ p ∈ edg E k) : ∀ (d i : Nat), i + d = j →
    Ev (fun k => impl_Hyper_edgeAt.l0 k (goneOf E.length L) p (i : Int) (P : Int) E) (j : Int) := by
  intro d
  have hn := hG.len
  have he := fun i => (hG.edge i).1
  induction d with
  | zero =>
    intro i h
    obtain rfl : i = j := by omega
    have := he i
    refine ev_succ ?_
    simp only [impl_Hyper_edgeAt.l0]
    rw [goneOf_rd hjn, rd_edg]
    refine ev_pos (by omega) (ev_pos (by rw [goneOf_len]; omega) (ev_neg (by simp [hj]) (ev_pos (by omega) (ev_bind _ (slices_Contains_int_f _ p (by omega)) (ev_pos (by simpa using hpj) (Ev.now _))))))
  | succ d ih =>
    intro i h
    have := he i
    have next := ih (i + 1) (by omega)
    refine ev_succ ?_
    simp only [impl_Hyper_edgeAt.l0]
    rw [goneOf_rd (by omega), rd_edg, winc (by omega)]
    refine ev_pos (by omega) (ev_pos (by rw [goneOf_len]; omega) ?_)
    by_cases c : i ∈ L
    · exact ev_neg (by simp [c]) (ev_pos (by omega) (ev_bind _ (slices_Contains_int_f _ p (by omega)) (ev_neg (by simpa using hlt i c (by omega)) next)))
    · exact ev_pos (by simp [c]) next
theorem impl_edgeAt_f {P : Nat} {E : Edges} (hG : GoodH P E) {L : List Nat} (hL : Rg E.length L) {p : Int} {j : Nat} (h : withE E L p = some j) : Ev (fun k => impl_Hyper_edgeAt.f k (P : Int) E (goneOf E.length L) p) (j : Int) := by
  obtain ⟨h1, h2⟩ := withE_some h
  unfold impl_Hyper_edgeAt.f
  exact impl_edgeAt_l0 hG h1 (hL.lt h1) h2 (withE_least hL.sorted h) j 0 (by omega)
theorem impl_left_l0 {n : Nat} {L : List Nat} (hn : n ≤ 1000) (hL : Rg n L) : ∀ (d i : Nat), i + d = n →
    Ev (fun k => impl_left.l0 k (castL (upTo L i)) (goneOf n L) (n : Int) (i : Int)) (castL L) := by
  intro d
  induction d with
  | zero =>
    intro i h
    have hi : i = n := by omega
    refine ev_succ ?_
    simp only [impl_left.l0]
    exact ev_neg (by omega) (ev_some (by rw [hi, upTo_all hL]))
  | succ d ih =>
    intro i h
    have next := ih (i + 1) (by omega)
    have hl := upTo_len L i
    rw [upTo_succ] at next
    refine ev_succ ?_
    simp only [impl_left.l0]
    rw [goneOf_rd (by omega), winc (by omega)]
    refine ev_pos (by omega) (ev_pos (by omega) (ev_pos (by rw [goneOf_len]; omega) ?_))
    by_cases c : i ∈ L
    · rw [if_pos c, castL_app] at next
      exact ev_neg (by simp [c]) (ev_pos (by rw [castL_len]; omega) next)
    · rw [if_neg c] at next
      exact ev_pos (by simp [c]) next
theorem impl_left_f {n : Nat} {L : List Nat} (hn : n ≤ 1000) (hL : Rg n L) : Ev (fun k => impl_left.f k (goneOf n L)) (castL L) := by
  unfold impl_left.f
  rw [goneOf_len]
  exact impl_left_l0 hn hL n 0 (by omega)
def mkS118 (s : Nat × Int) : S118 := ⟨(s.1 : Int), s.2⟩
def stepsL (l : List (Nat × Int)) : List S118 := l.map mkS118
theorem step_zero {P : Nat} {E : Edges} {L : List Nat} (h : freeL P E L ≠ []) : ∃ i, stepE P E L 0 = some (i, rd (freeL P E L) 0) := by
  unfold stepE
  have : ¬ (freeL P E L).length = 0 := fun e => h (List.length_eq_zero_iff.1 e)
  rw [if_neg this, Nat.zero_mod]
  exact ⟨_, rfl⟩
theorem impl_peel_l0 {P : Nat} {E : Edges} (hG : GoodH P E) : ∀ (d : Nat) (L : List Nat) (acc : List S118), Rg E.length L → L.length ≤ d → acc.length + d ≤ 1000000 →
    Ev (fun k => impl_Hyper_peel.l0 k acc (goneOf E.length L) (P : Int) E) (acc ++ stepsL (peelC P E (List.replicate d 0) L).1, castL (peelC P E (List.replicate d 0) L).2) := by
  have hn := hG.len
  have stop : ∀ (d : Nat) (L : List Nat) (acc : List S118), Rg E.length L → freeL P E L = [] → Ev (fun k => impl_Hyper_peel.l0 k acc (goneOf E.length L) (P : Int) E) (acc ++ stepsL (peelC P E (List.replicate d 0) L).1, castL (peelC P E (List.replicate d 0) L).2) := by
    intro d L acc hL hf
    have e : peelC P E (List.replicate d 0) L = ([], L) := by
      cases d with
      | zero => rfl
      | succ d => rw [List.replicate_succ, peelC_cons_none _ _ hf]
    rw [e]
    refine ev_succ ?_
    simp only [impl_Hyper_peel.l0]
    refine ev_bind _ (impl_singles_f hG hL) (ev_pos (by rw [hf]; rfl) (ev_bind _ (impl_left_f hn hL) (ev_some (by simp [stepsL]))))
  intro d
  induction d with
  | zero =>
    intro L acc hL hd _
    have : L = [] := List.length_eq_zero_iff.1 (by omega)
    exact stop 0 L acc hL (by rw [this]; exact freeL_nil)
  | succ d ih =>
    intro L acc hL hd ha
    by_cases hf : freeL P E L = []
    · exact stop (d + 1) L acc hL hf
    · obtain ⟨i, hs⟩ := step_zero hf
      obtain ⟨_, _, hw⟩ := stepE_some hs
      have hi := (withE_some hw).1
      have hin := hL.lt hi
      have hl : ¬ (freeL P E L).length = 0 := fun e => hf (List.length_eq_zero_iff.1 e)
      have hdl := dropE_len hL.nodup hi
      rw [List.replicate_succ, peelC_cons_some _ hs]
      refine ev_succ ?_
      simp only [impl_Hyper_peel.l0]
      refine ev_bind _ (impl_singles_f hG hL) (ev_neg (by omega) (ev_pos (by omega) (ev_bind _ (impl_edgeAt_f hG hL hw) (ev_pos (by omega) (ev_pos (by rw [goneOf_len]; omega) (ev_pos (by omega) ?_))))))
      rw [Int.toNat_natCast, goneOf_set]
      have := ih (dropE L i) (acc ++ [mkS118 (i, rd (freeL P E L) 0)]) (hL.drop i) (by omega) (by simp; omega)
      rw [List.append_assoc] at this
      exact this
theorem impl_peel_f {P : Nat} {E : Edges} (hG : GoodH P E) : Ev (fun k => impl_Hyper_peel.f k (P : Int) E) (stepsL (peelAll P E).1, castL (coreE P E)) := by
  have hn := hG.len
  unfold impl_Hyper_peel.f impl_Hyper_none.f
  refine ev_bind _ (ev_pos (by omega) (ev_pos (by omega) (Ev.now _))) ?_
  rw [Int.toNat_natCast, ← goneOf_all]
  have := impl_peel_l0 hG E.length (List.range E.length) [] (Rg.all _) (by simp) (by simp; omega)
  rw [List.nil_append] at this
  exact this
end Go.Proofs.YtmehagedoaopeaaQ
namespace Go.Proofs.YtmehagedoaopeaaQ
open Go Go.RowKit Go.Proofs.YtmehagedoaopeaaW.PrintWords Go.Proofs.YtmehagedoaopeaaGp Go.Proofs.Ytmehagedoaopeaa.PR

theorem spec_l1Has_l0 (x0 : List Int) (a : Int) (hl : (x0.length : Int) ≤ 9223372036854775806) : ∀ (t pre : List Int), x0 = pre ++ t →
    Ev (fun k => spec_l1Has.l0 k a x0 (x0.length : Int) (pre.length : Int)) (t.contains a) := by
  intro t
  induction t with
  | nil =>
    intro pre h
    refine ev_succ ?_
    simp only [spec_l1Has.l0]
    exact ev_neg (by rw [h]; exact not_lt_end) (ev_some (by simp))
  | cons x t ih =>
    intro pre h
    have hm : ((pre.length : Nat) : Int) < (x0.length : Int) := by rw [h]; exact lt_mid
    have hg : rd x0 (pre.length : Int) = x := by rw [h]; exact rd_mid
    refine ev_succ ?_
    simp only [spec_l1Has.l0, hg]
    refine ev_pos hm (ev_pos (by omega) (ev_pos hm ?_))
    by_cases c : x = a
    · exact ev_pos c (ev_some (by simp [c]))
    · refine ev_neg c ?_
      rw [winc (by omega)]
      have := ih (pre ++ [x]) (by rw [h]; simp)
      rw [len_one] at this
      have e : (x :: t).contains a = t.contains a := by simp [Ne.symm c]
      rw [e]
      exact this
theorem spec_l1Has_f (l : List Int) (a : Int) (hl : (l.length : Int) ≤ 9223372036854775806) : Ev (fun k => spec_l1Has.f k l a) (l.contains a) := by
  unfold spec_l1Has.f
  exact spec_l1Has_l0 l a hl l [] rfl
end Go.Proofs.YtmehagedoaopeaaQ
namespace Go.Proofs.YtmehagedoaopeaaQ
open Go Go.RowKit Go.Proofs.YtmehagedoaopeaaW.PrintWords Go.Proofs.YtmehagedoaopeaaGp Go.Proofs.Ytmehagedoaopeaa.PR

theorem spec_peAll_l0 {n : Nat} (hn : n ≤ 1000) : ∀ (d i : Nat), i + d = n →
    Ev (fun k => spec_peAll.l0 k (castL (List.range i)) (n : Int) (i : Int)) (castL (List.range n)) := by
  intro d
  induction d with
  | zero =>
    intro i h
    obtain rfl : i = n := by omega
    refine ev_succ ?_
    simp only [spec_peAll.l0]
    exact ev_neg (by omega) (Ev.now _)
  | succ d ih =>
    intro i h
    have next := ih (i + 1) (by omega)
    rw [List.range_succ, castL_app] at next
    refine ev_succ ?_
    simp only [spec_peAll.l0]
    rw [winc (by omega)]
    exact ev_pos (by omega) (ev_pos (by rw [castL_len]; simp; omega) next)
theorem spec_peAll_f {E : Edges} (hn : E.length ≤ 1000) (P : Int) : Ev (fun k => spec_peAll.f k P E) (castL (allE E)) := by
  unfold spec_peAll.f
  exact spec_peAll_l0 hn E.length 0 (by omega)
theorem spec_degrees_l1 {P : Nat} {E : Edges} {x13 : List Int} {n : Int} {r : List Int} {q i : Nat} (e : List Int) (hi : (i : Int) < 9223372036854775806) (he : (e.length : Int) ≤ 9223372036854775806) (hr : ∀ p ∈ e, 0 ≤ p ∧ p < (P : Int)) (ps : List Int) (hps : ps.length + e.length ≤ 1000000)
    (H : Ev (fun k => spec_peDegrees.l0 k (cntL (ps ++ e) P) x13 n ((i + 1 : Nat) : Int) (q : Int) E) r) : ∀ (t pre : List Int), e = pre ++ t →
    Ev (fun k => spec_peDegrees.l1 k (cntL (ps ++ pre) P) x13 n (i : Int) e (e.length : Int) (pre.length : Int) (q : Int) E) r := by
  intro t
  induction t with
  | nil =>
    intro pre h
    have hp : e = pre := by rw [h, List.append_nil]
    subst hp
    refine ev_succ ?_
    simp only [spec_peDegrees.l1]
    refine ev_neg (by omega) ?_
    rw [winc (by omega)]
    exact H
  | cons x t ih =>
    intro pre h
    have hm : ((pre.length : Nat) : Int) < (e.length : Int) := by rw [h]; exact lt_mid
    have hg : rd e (pre.length : Int) = x := by rw [h]; exact rd_mid
    obtain ⟨x0, x1⟩ := hr x (by rw [h]; simp)
    have hc := count_le_len (ps ++ pre) x
    have hl : e.length = pre.length + (t.length + 1) := by rw [h]; simp
    rw [List.length_append] at hc
    refine ev_succ ?_
    simp only [spec_peDegrees.l1, hg]
    refine ev_pos hm (ev_pos (by omega) (ev_pos hm (ev_pos x0 (ev_pos (by rw [cntL_len]; exact x1) ?_))))
    rw [winc (by omega), cntL_rd _ x0 x1, wcount (by omega), cntL_set _ x0, List.append_assoc]
    have := ih (pre ++ [x]) (by rw [h]; simp)
    rw [len_one] at this
    exact this
theorem spec_degrees_l0 {P : Nat} {E : Edges} (hG : GoodH P E) {L : List Nat} (hL : ∀ i ∈ L, i < E.length) (hl : L.length ≤ 1000) (q : Nat) : ∀ (t pre : List Nat), L = pre ++ t →
    Ev (fun k => spec_peDegrees.l0 k (cntL (plsL E pre) P) (castL L) (L.length : Int) (pre.length : Int) (q : Int) E) (cntL (plsL E L) P) := by
  intro t
  have hn := hG.len
  induction t with
  | nil =>
    intro pre h
    have hp : L = pre := by rw [h, List.append_nil]
    subst hp
    refine ev_succ ?_
    simp only [spec_peDegrees.l0]
    exact ev_neg (by omega) (Ev.now _)
  | cons j t ih =>
    intro pre h
    have hm : ((pre.length : Nat) : Int) < (L.length : Int) := by rw [h]; exact lt_mid
    have hg : rd (castL L) (pre.length : Int) = (j : Int) := by rw [h]; exact rd_castmid
    have hj := hL j (by rw [h]; simp)
    have next := ih (pre ++ [j]) (by rw [h]; simp)
    rw [len_one] at next
    have hb := plsL_len hG pre
    obtain ⟨he, hr⟩ := hG.edge j
    have hpe : plsL E (pre ++ [j]) = plsL E pre ++ edg E j := by simp [plsL]
    rw [hpe] at next
    have hlen : L.length = pre.length + (t.length + 1) := by rw [h]; simp
    refine ev_succ ?_
    simp only [spec_peDegrees.l0, hg, rd_edg]
    refine ev_pos hm (ev_pos (by omega) (ev_pos (by rw [castL_len]; exact hm) (ev_pos (by omega) (ev_pos (by omega) ?_))))
    have := spec_degrees_l1 (P := P) (E := E) (x13 := castL L) (n := (L.length : Int)) (q := q) (edg E j) (by omega) (by omega) hr (plsL E pre) (by omega) next (edg E j) [] rfl
    rw [List.append_nil] at this
    exact this
theorem spec_degrees_f {P : Nat} {E : Edges} (hG : GoodH P E) {L : List Nat} (hL : ∀ i ∈ L, i < E.length) (hl : L.length ≤ 1000) : Ev (fun k => spec_peDegrees.f k (P : Int) E (castL L)) (cntL (plsL E L) P) := by
  have hp := hG.plc
  unfold spec_peDegrees.f
  refine ev_pos (by omega) (ev_pos (by omega) ?_)
  have := spec_degrees_l0 hG hL hl P L [] rfl
  rw [show plsL E [] = [] from rfl, cntL_nil] at this
  rw [castL_len]
  exact this
theorem spec_free_l0 {P : Nat} (ps : List Int) (hP : P ≤ 1000) : ∀ (d i : Nat), i + d = P →
    Ev (fun k => spec_peFree.l0 k (freeUp ps i) (cntL ps P) (P : Int) (i : Int)) (freeUp ps P) := by
  intro d
  induction d with
  | zero =>
    intro i h
    have hi : i = P := by omega
    refine ev_succ ?_
    simp only [spec_peFree.l0]
    refine ev_neg (by omega) (ev_some (by rw [hi]))
  | succ d ih =>
    intro i h
    have next := ih (i + 1) (by omega)
    have hl := freeUp_len ps i
    rw [freeUp_succ] at next
    refine ev_succ ?_
    simp only [spec_peFree.l0]
    rw [cntL_rd ps (by omega) (by omega)]
    refine ev_pos (by omega) (ev_pos (by omega) (ev_pos (by rw [cntL_len]; omega) ?_))
    rw [winc (by omega)]
    by_cases c : ps.count (i : Int) = 1
    · rw [if_pos c] at next
      exact ev_pos (by omega) (ev_pos (by omega) next)
    · rw [if_neg c] at next
      exact ev_neg (by omega) next
theorem spec_free_f {P : Nat} {E : Edges} (hG : GoodH P E) {L : List Nat} (hL : ∀ i ∈ L, i < E.length) (hl : L.length ≤ 1000) : Ev (fun k => spec_peFree.f k (P : Int) E (castL L)) (freeL P E L) := by
  unfold spec_peFree.f
  refine ev_bind _ (spec_degrees_f hG hL hl) ?_
  have := spec_free_l0 (plsL E L) hG.plc P 0 (by omega)
  rw [cntL_len, ← freeL_up]
  exact this
def withV (o : Option Nat) : Int := match o with | some j => (j : Int) | none => -1
theorem spec_with_l0 {P : Nat} {E : Edges} (hG : GoodH P E) {L : List Nat} (hL : ∀ i ∈ L, i < E.length) (hl : L.length ≤ 1000) (p : Int) (q : Nat) : ∀ (t pre : List Nat), L = pre ++ t →
    Ev (fun k => spec_peWith.l0 k p (castL L) (L.length : Int) (pre.length : Int) (q : Int) E) (withV (withE E t p)) := by
  intro t
  have hn := hG.len
  induction t with
  | nil =>
    intro pre h
    have hp : L = pre := by rw [h, List.append_nil]
    subst hp
    refine ev_succ ?_
    simp only [spec_peWith.l0]
    exact ev_neg (by omega) (Ev.now _)
  | cons j t ih =>
    intro pre h
    have hm : ((pre.length : Nat) : Int) < (L.length : Int) := by rw [h]; exact lt_mid
    have hg : rd (castL L) (pre.length : Int) = (j : Int) := by rw [h]; exact rd_castmid
    have hj := hL j (by rw [h]; simp)
    have next := ih (pre ++ [j]) (by rw [h]; simp)
    rw [len_one] at next
    have he := (hG.edge j).1
    refine ev_succ ?_
    simp only [spec_peWith.l0, hg, rd_edg]
    refine ev_pos hm (ev_pos (by omega) (ev_pos (by rw [castL_len]; exact hm) (ev_pos (by omega) (ev_pos (by omega) (ev_bind _ (spec_l1Has_f (edg E j) p (by omega)) ?_)))))
    unfold withE
    rw [List.find?_cons, winc (by omega)]
    by_cases c : (edg E j).contains p = true
    · rw [c]; exact ev_pos rfl (Ev.now _)
    · rw [Bool.eq_false_iff.2 c]
      exact ev_neg (by simp) next
theorem spec_with_f {P : Nat} {E : Edges} (hG : GoodH P E) {L : List Nat} (hL : ∀ i ∈ L, i < E.length) (hl : L.length ≤ 1000) (p : Int) : Ev (fun k => spec_peWith.f k (P : Int) E (castL L) p) (withV (withE E L p)) := by
  unfold spec_peWith.f
  rw [castL_len]
  exact spec_with_l0 hG hL hl p P L [] rfl
theorem spec_drop_l0 {L : List Nat} (hl : L.length ≤ 1000) (i : Nat) : ∀ (t pre : List Nat), L = pre ++ t →
    Ev (fun k => spec_l1Drop.l0 k (i : Int) (castL (dropE pre i)) (castL L) (L.length : Int) (pre.length : Int)) (castL (dropE L i)) := by
  intro t
  induction t with
  | nil =>
    intro pre h
    have hp : L = pre := by rw [h, List.append_nil]
    subst hp
    refine ev_succ ?_
    simp only [spec_l1Drop.l0]
    exact ev_neg (by omega) (Ev.now _)
  | cons j t ih =>
    intro pre h
    have hm : ((pre.length : Nat) : Int) < (L.length : Int) := by rw [h]; exact lt_mid
    have hg : rd (castL L) (pre.length : Int) = (j : Int) := by rw [h]; exact rd_castmid
    have next := ih (pre ++ [j]) (by rw [h]; simp)
    rw [len_one] at next
    have hd : dropE (pre ++ [j]) i = if j = i then dropE pre i else dropE pre i ++ [j] := by
      unfold dropE
      rw [List.filter_append]
      by_cases c : j = i <;> simp [c]
    rw [hd] at next
    have hdl := List.Sublist.length_le (dropE_sub pre i)
    have hlen : L.length = pre.length + (t.length + 1) := by rw [h]; simp
    refine ev_succ ?_
    simp only [spec_l1Drop.l0, hg]
    rw [winc (by omega)]
    refine ev_pos hm (ev_pos (by omega) (ev_pos (by rw [castL_len]; exact hm) ?_))
    by_cases c : j = i
    · rw [if_pos c] at next
      exact ev_pos (by omega) next
    · rw [if_neg c, castL_app] at next
      exact ev_neg (by omega) (ev_pos (by rw [castL_len]; omega) next)
theorem spec_drop_f {L : List Nat} (hl : L.length ≤ 1000) (i : Nat) : Ev (fun k => spec_l1Drop.f k (castL L) (i : Int)) (castL (dropE L i)) := by
  unfold spec_l1Drop.f
  rw [castL_len]
  exact spec_drop_l0 hl i L [] rfl
def chc (cs : List Int) : List Nat := cs.map Int.toNat
theorem stepE_rd {P : Nat} {E : Edges} {L : List Nat} {c : Int} (hc : 0 ≤ c) (h : freeL P E L ≠ []) : ∃ i, stepE P E L c.toNat = some (i, rd (freeL P E L) (Int.tmod c ((freeL P E L).length : Int))) ∧ 0 ≤ Int.tmod c ((freeL P E L).length : Int) ∧ Int.tmod c ((freeL P E L).length : Int) < ((freeL P E L).length : Int) := by
  have hl : ¬ (freeL P E L).length = 0 := fun e => h (List.length_eq_zero_iff.1 e)
  have e : Int.tmod c ((freeL P E L).length : Int) = ((c.toNat % (freeL P E L).length : Nat) : Int) := by
    rw [Int.tmod_eq_emod_of_nonneg hc, Int.natCast_emod, Int.toNat_of_nonneg hc]
  have hm : c.toNat % (freeL P E L).length < (freeL P E L).length := Nat.mod_lt _ (by omega)
  unfold stepE
  rw [if_neg hl, e]
  exact ⟨_, rfl, by omega, by omega⟩
section
variable {P : Nat} {E : Edges} (hG : GoodH P E) {cs : List Int} {on : Bool} {acc : List S118} {L : List Nat} (hL : Rg E.length L)
include hG hL
theorem j1_end (hf : freeL P E L = []) (kk : Int) : Ev (fun k => spec_pePeel.j1 k cs on acc (castL L) kk true (P : Int) E) (acc, castL L) := by
  have hn := hG.len
  have hl := hL.len
  refine ev_succ ?_
  simp only [spec_pePeel.j1]
  refine ev_pos trivial (ev_bind _ (spec_free_f hG (fun i hi => hL.lt hi) (by omega)) (ev_pos (by rw [hf]; rfl) (Ev.now _)))
theorem j1_go {kk : Nat} (hk : kk < cs.length) (hkl : kk ≤ 100000) (ha : acc.length ≤ 1000000) {i : Nat} (hs : stepE P E L (rd cs (kk : Int)).toNat = some (i, rd (freeL P E L) (Int.tmod (rd cs (kk : Int)) ((freeL P E L).length : Int))))
    (h0 : 0 ≤ Int.tmod (rd cs (kk : Int)) ((freeL P E L).length : Int)) (h1 : Int.tmod (rd cs (kk : Int)) ((freeL P E L).length : Int) < ((freeL P E L).length : Int)) {r : List S118 × List Int}
    (H : Ev (fun k => spec_pePeel.l0 k cs on (acc ++ [mkS118 (i, rd (freeL P E L) (Int.tmod (rd cs (kk : Int)) ((freeL P E L).length : Int)))]) (castL (dropE L i)) ((kk + 1 : Nat) : Int) (P : Int) E) r) :
    Ev (fun k => spec_pePeel.j1 k cs on acc (castL L) (kk : Int) true (P : Int) E) r := by
  have hn := hG.len
  have hl := hL.len
  obtain ⟨_, _, hw⟩ := stepE_some hs
  have hwv := spec_with_f hG (fun i hi => hL.lt hi) (by omega) (rd (freeL P E L) (Int.tmod (rd cs (kk : Int)) ((freeL P E L).length : Int))) (L := L)
  rw [hw] at hwv
  refine ev_succ ?_
  simp only [spec_pePeel.j1]
  refine ev_pos trivial (ev_bind _ (spec_free_f hG (fun i hi => hL.lt hi) (by omega)) (ev_neg (by omega) (ev_pos (by omega) (ev_pos (by omega) (ev_pos h0 (ev_pos h1 (ev_bind _ hwv (ev_pos (by omega) (ev_bind _ (spec_drop_f (by omega) i) ?_)))))))))
  rw [winc (by omega)]
  exact H
theorem j1_zero {kk : Nat} (hk : cs.length ≤ kk) (hkl : kk ≤ 100000) (ha : acc.length ≤ 1000000) {i : Nat} (hf : freeL P E L ≠ []) (hs : stepE P E L 0 = some (i, rd (freeL P E L) 0)) {r : List S118 × List Int}
    (H : Ev (fun k => spec_pePeel.l0 k cs on (acc ++ [mkS118 (i, rd (freeL P E L) 0)]) (castL (dropE L i)) ((kk + 1 : Nat) : Int) (P : Int) E) r) :
    Ev (fun k => spec_pePeel.j1 k cs on acc (castL L) (kk : Int) true (P : Int) E) r := by
  have hn := hG.len
  have hl := hL.len
  have hz : ¬ (freeL P E L).length = 0 := fun e => hf (List.length_eq_zero_iff.1 e)
  obtain ⟨_, _, hw⟩ := stepE_some hs
  have hwv := spec_with_f hG (fun i hi => hL.lt hi) (by omega) (rd (freeL P E L) 0) (L := L)
  rw [hw] at hwv
  refine ev_succ ?_
  simp only [spec_pePeel.j1]
  refine ev_pos trivial (ev_bind _ (spec_free_f hG (fun i hi => hL.lt hi) (by omega)) (ev_neg (by omega) (ev_neg (by omega) (ev_pos (by omega) (ev_bind _ hwv (ev_pos (by omega) (ev_bind _ (spec_drop_f (by omega) i) ?_)))))))
  rw [winc (by omega)]
  exact H
end
theorem mkApp (acc : List S118) (s : Nat × Int) (l : List (Nat × Int)) : (acc ++ [mkS118 s]) ++ stepsL l = acc ++ stepsL (s :: l) := by simp [stepsL]
theorem spec_peel_on {P : Nat} {E : Edges} (hG : GoodH P E) {cs : List Int} : ∀ (d : Nat) (L : List Nat) (acc : List S118) (kk : Nat), Rg E.length L → L.length ≤ d → cs.length ≤ kk → kk + d ≤ 100000 → acc.length + d ≤ 1000000 →
    Ev (fun k => spec_pePeel.l0 k cs true acc (castL L) (kk : Int) (P : Int) E) (acc ++ stepsL (peelC P E (List.replicate d 0) L).1, castL (peelC P E (List.replicate d 0) L).2) := by
  have stop : ∀ (d : Nat) (L : List Nat) (acc : List S118) (kk : Nat), Rg E.length L → freeL P E L = [] → Ev (fun k => spec_pePeel.l0 k cs true acc (castL L) (kk : Int) (P : Int) E) (acc ++ stepsL (peelC P E (List.replicate d 0) L).1, castL (peelC P E (List.replicate d 0) L).2) := by
    intro d L acc kk hL hf
    have e : peelC P E (List.replicate d 0) L = ([], L) := by
      cases d with
      | zero => rfl
      | succ d => rw [List.replicate_succ, peelC_cons_none _ _ hf]
    rw [e]
    refine ev_succ ?_
    simp only [spec_pePeel.l0]
    refine ev_pos trivial ?_
    have := j1_end hG hL (cs := cs) (on := true) (acc := acc) hf (kk : Int)
    simpa [stepsL] using this
  intro d
  induction d with
  | zero =>
    intro L acc kk hL hd _ _ _
    have : L = [] := List.length_eq_zero_iff.1 (by omega)
    exact stop 0 L acc kk hL (by rw [this]; exact freeL_nil)
  | succ d ih =>
    intro L acc kk hL hd hk hkd ha
    by_cases hf : freeL P E L = []
    · exact stop (d + 1) L acc kk hL hf
    · obtain ⟨i, hs⟩ := step_zero hf
      obtain ⟨_, _, hw⟩ := stepE_some hs
      have hi := (withE_some hw).1
      have hdl := dropE_len hL.nodup hi
      rw [List.replicate_succ, peelC_cons_some _ hs]
      refine ev_succ ?_
      simp only [spec_pePeel.l0]
      refine ev_pos trivial (j1_zero hG hL hk (by omega) (by omega) hf hs ?_)
      have := ih (dropE L i) (acc ++ [mkS118 (i, rd (freeL P E L) 0)]) (kk + 1) (hL.drop i) (by omega) (by omega) (by omega) (by simp; omega)
      rw [mkApp] at this
      exact this
theorem spec_peel_cs {P : Nat} {E : Edges} (hG : GoodH P E) {cs : List Int} (hcs : ∀ c ∈ cs, 0 ≤ c) (hcl : cs.length ≤ 1000) (on : Bool) {d : Nat} (hd : d ≤ 2000) : ∀ (t pre : List Int) (L : List Nat) (acc : List S118), cs = pre ++ t → Rg E.length L → L.length ≤ d → acc.length + t.length ≤ 900000 →
    Ev (fun k => spec_pePeel.l0 k cs on acc (castL L) (pre.length : Int) (P : Int) E) (acc ++ stepsL (peelC P E (chc t ++ if on = true then List.replicate d 0 else []) L).1, castL (peelC P E (chc t ++ if on = true then List.replicate d 0 else []) L).2) := by
  intro t
  induction t with
  | nil =>
    intro pre L acc h hL hld ha
    have hp : cs = pre := by rw [h, List.append_nil]
    subst hp
    cases on with
    | true =>
      rw [if_pos rfl]
      exact spec_peel_on hG d L acc cs.length hL hld (Nat.le_refl _) (by omega) (by omega)
    | false =>
      rw [if_neg (by simp)]
      refine ev_succ ?_
      simp only [spec_pePeel.l0]
      refine ev_neg (by simp) ?_
      rw [decide_eq_false (by omega)]
      refine ev_succ ?_
      simp only [spec_pePeel.j1]
      exact ev_neg (by simp) (ev_some (by simp [chc, peelC, stepsL]))
  | cons c t ih =>
    intro pre L acc h hL hld ha
    have hm : pre.length < cs.length := by rw [h]; simp
    have hg : rd cs (pre.length : Int) = c := by rw [h]; exact rd_mid
    have hc : 0 ≤ c := hcs c (by rw [h]; simp)
    have hl1 : Ev (fun k => spec_pePeel.j1 k cs on acc (castL L) (pre.length : Int) true (P : Int) E) (acc ++ stepsL (peelC P E (chc (c :: t) ++ if on = true then List.replicate d 0 else []) L).1, castL (peelC P E (chc (c :: t) ++ if on = true then List.replicate d 0 else []) L).2) := by
      simp only [chc, List.map_cons, List.cons_append]
      by_cases hf : freeL P E L = []
      · rw [peelC_cons_none _ _ hf]
        have := j1_end hG hL (cs := cs) (on := on) (acc := acc) hf (pre.length : Int)
        simpa [stepsL] using this
      · obtain ⟨i, hs, h0, h1⟩ := stepE_rd hc hf
        obtain ⟨_, _, hw⟩ := stepE_some hs
        have hdl := dropE_len hL.nodup (withE_some hw).1
        rw [peelC_cons_some _ hs]
        have next := ih (pre ++ [c]) (dropE L i) (acc ++ [mkS118 (i, rd (freeL P E L) (Int.tmod c ((freeL P E L).length : Int)))]) (by rw [h]; simp) (hL.drop i) (by omega) (by simp at ha ⊢; omega)
        rw [len_one, mkApp] at next
        simp only [List.length_cons] at ha
        exact j1_go hG hL (kk := pre.length) hm (by omega) (by omega) (by rw [hg]; exact hs) (by rw [hg]; exact h0) (by rw [hg]; exact h1) (by rw [hg]; exact next)
    refine ev_succ ?_
    simp only [spec_pePeel.l0]
    by_cases ho : on = true
    · exact ev_pos ho hl1
    · refine ev_neg ho ?_
      rw [decide_eq_true (by omega)]
      exact hl1
theorem spec_pePeel_f {P : Nat} {E : Edges} (hG : GoodH P E) {cs : List Int} (hcs : ∀ c ∈ cs, 0 ≤ c) (hcl : cs.length ≤ 1000) (on : Bool) :
    Ev (fun k => spec_pePeel.f k (P : Int) E cs on) (stepsL (peelC P E (chc cs ++ if on = true then List.replicate E.length 0 else []) (allE E)).1, castL (peelC P E (chc cs ++ if on = true then List.replicate E.length 0 else []) (allE E)).2) := by
  have hn := hG.len
  unfold spec_pePeel.f
  have := spec_peel_cs hG hcs hcl on (d := E.length) (by omega) cs [] (allE E) [] rfl (Rg.all _) (by simp [allE]) (by simp; omega)
  rw [List.nil_append] at this
  exact ev_bind _ (spec_peAll_f hn _) this
end Go.Proofs.YtmehagedoaopeaaQ
namespace Go.Proofs.YtmehagedoaopeaaQ
open Go Go.RowKit Go.Proofs.YtmehagedoaopeaaW.PrintWords Go.Proofs.YtmehagedoaopeaaGp Go.Proofs.Ytmehagedoaopeaa.PR

def mm (x y : Int) : Int := Int.tmod (wrap64 (x * y)) 65521
theorem mul_range {x y : Int} (hx : 0 ≤ x) (hx1 : x ≤ 65520) (hy : 0 ≤ y) (hy1 : y ≤ 65520) : 0 ≤ x * y ∧ x * y ≤ 4292870400 :=
  ⟨Int.mul_nonneg hx hy, by have := Int.mul_le_mul hx1 hy1 hy (by omega); omega⟩
theorem emod_range (x : Int) : 0 ≤ x % 65521 ∧ x % 65521 ≤ 65520 := by omega
theorem mm_eq {x y : Int} (hx : 0 ≤ x) (hx1 : x ≤ 65520) (hy : 0 ≤ y) (hy1 : y ≤ 65520) : mm x y = x * y % 65521 := by
  obtain ⟨h0, h1⟩ := mul_range hx hx1 hy hy1
  unfold mm
  rw [w64 (by omega) (by omega)]
  exact Int.tmod_eq_emod_of_nonneg h0
theorem mm_mod (a b : Int) : mm (a % 65521) (b % 65521) = a * b % 65521 := by
  rw [mm_eq (emod_range a).1 (emod_range a).2 (emod_range b).1 (emod_range b).2]
  exact (Int.mul_emod a b 65521).symm
def pw (h : Int) : Nat → Int
  | 0 => 1
  | n + 1 => pw h n * h
theorem self_mod {h : Int} (h0 : 0 ≤ h) (h1 : h ≤ 65520) : h = h % 65521 := by omega
theorem mm11 {h : Int} (h0 : 0 ≤ h) (h1 : h ≤ 65520) : mm (mm (mm (mm (mm h h) (mm h h)) h) (mm (mm (mm h h) (mm h h)) h)) h = pw h 11 % 65521 := by
  have e := self_mod h0 h1
  have a2 : mm h h = h * h % 65521 := mm_eq h0 h1 h0 h1
  have a4 : mm (mm h h) (mm h h) = (h * h) * (h * h) % 65521 := by rw [a2, mm_mod]
  have a5 : mm (mm (mm h h) (mm h h)) h = (h * h) * (h * h) * h % 65521 := by
    rw [a4]; conv => lhs; arg 2; rw [e]
    rw [mm_mod]
  rw [a5, mm_mod]
  conv => lhs; arg 2; rw [e]
  rw [mm_mod]
  congr 1
  simp only [pw, Int.one_mul, Int.mul_assoc]
theorem mm_pw {h : Int} (h0 : 0 ≤ h) (h1 : h ≤ 65520) (n : Nat) : mm (pw h n % 65521) h = pw h (n + 1) % 65521 := by
  conv => lhs; arg 2; rw [self_mod h0 h1]
  rw [mm_mod]
  rfl

def hstep (h : Int) (c : UInt8) : Int := Int.tmod (wrap64 ((wrap64 (263 * h)) + (wrap64 (c.toNat : Int)))) 65521
def hfold (h : Int) (l : List UInt8) : Int := l.foldl hstep h
theorem hstep_range {h : Int} {c : UInt8} (h0 : 0 ≤ h) (h1 : h ≤ 65520) : 0 ≤ hstep h c ∧ hstep h c ≤ 65520 := by
  have hc : c.toNat < 256 := c.toNat_lt
  unfold hstep
  rw [w64 (x := 263 * h) (by omega) (by omega), w64 (x := (c.toNat : Int)) (by omega) (by omega), w64 (by omega) (by omega), Int.tmod_eq_emod_of_nonneg (by omega)]
  omega
def hstart (a0 a1 : Int) : Int := Int.tmod (wrap64 ((wrap64 ((wrap64 (31 * a0)) + (wrap64 (977 * a1)))) + 7)) 65521
theorem hstart_range {a0 a1 : Int} (h0 : 0 ≤ a0) (h0' : a0 ≤ 1000000) (h1 : 0 ≤ a1) (h1' : a1 ≤ 1000000) : 0 ≤ hstart a0 a1 ∧ hstart a0 a1 ≤ 65520 := by
  unfold hstart
  rw [w64 (x := 31 * a0) (by omega) (by omega), w64 (x := 977 * a1) (by omega) (by omega), w64 (x := 31 * a0 + 977 * a1) (by omega) (by omega), w64 (by omega) (by omega), Int.tmod_eq_emod_of_nonneg (by omega)]
  omega
def hashV (a0 a1 : Int) (s : ByteArray) : Int := pw (hfold (hstart a0 a1) s.data.toList) 11 % 65521
theorem hashV_range (a0 a1 : Int) (s : ByteArray) : 0 ≤ hashV a0 a1 s ∧ hashV a0 a1 s ≤ 65520 := emod_range _
theorem spec_biHash_l0 (x2 : ByteArray) (hz : (x2.size : Int) ≤ 9223372036854775806) : ∀ (t pre : List UInt8) (h : Int), x2.data.toList = pre ++ t → 0 ≤ h → h ≤ 65520 →
    Ev (fun k => spec_biHash.l0 k x2 h (pre.length : Int)) (pw (hfold h t) 11 % 65521) := by
  intro t
  induction t with
  | nil =>
    intro pre h e h0 h1
    refine ev_succ ?_
    simp only [spec_biHash.l0]
    refine ev_neg (not_lt_size e) (ev_some ?_)
    exact mm11 h0 h1
  | cons c t ih =>
    intro pre h e h0 h1
    have hm := lt_size e
    refine ev_succ ?_
    simp only [spec_biHash.l0, bt_mid e]
    refine ev_pos hm (ev_pos (by omega) ?_)
    rw [winc (by omega)]
    have := ih (pre ++ [c]) (hstep h c) (by rw [e]; simp) (hstep_range h0 h1).1 (hstep_range h0 h1).2
    rw [len_one] at this
    exact this
theorem spec_biHash_f (a0 a1 : Int) (s : ByteArray) (hz : (s.size : Int) ≤ 9223372036854775806) (h0 : 0 ≤ a0) (h0' : a0 ≤ 1000000) (h1 : 0 ≤ a1) (h1' : a1 ≤ 1000000) :
    Ev (fun k => spec_biHash.f k a0 a1 s) (hashV a0 a1 s) := by
  unfold spec_biHash.f
  exact spec_biHash_l0 s hz s.data.toList [] _ rfl (hstart_range h0 h0' h1 h1').1 (hstart_range h0 h0' h1 h1').2
theorem impl_hash_l1 {h : Int} (h0 : 0 ≤ h) (h1 : h ≤ 65520) : ∀ (m i : Nat), i + m = 11 → Ev (fun k => impl_hash.l1 k h (pw h i % 65521) (i : Int)) (pw h 11 % 65521) := by
  intro m
  induction m with
  | zero =>
    intro i e
    obtain rfl : i = 11 := by omega
    refine ev_succ ?_
    simp only [impl_hash.l1]
    exact ev_neg (by omega) (ev_some rfl)
  | succ m ih =>
    intro i e
    refine ev_succ ?_
    simp only [impl_hash.l1]
    refine ev_pos (by omega) ?_
    rw [winc (by omega)]
    have := ih (i + 1) (by omega)
    rw [← mm_pw h0 h1 i] at this
    exact this
theorem impl_hash_l0 (x2 : ByteArray) (hz : (x2.size : Int) ≤ 9223372036854775806) : ∀ (t pre : List UInt8) (h : Int), x2.data.toList = pre ++ t → 0 ≤ h → h ≤ 65520 →
    Ev (fun k => impl_hash.l0 k x2 h (x2.size : Int) (pre.length : Int)) (pw (hfold h t) 11 % 65521) := by
  intro t
  induction t with
  | nil =>
    intro pre h e h0 h1
    refine ev_succ ?_
    simp only [impl_hash.l0]
    exact ev_neg (not_lt_size e) (impl_hash_l1 h0 h1 11 0 rfl)
  | cons c t ih =>
    intro pre h e h0 h1
    have hm := lt_size e
    refine ev_succ ?_
    simp only [impl_hash.l0, bt_mid e]
    refine ev_pos hm (ev_pos (by omega) (ev_pos hm ?_))
    rw [winc (by omega)]
    have := ih (pre ++ [c]) (hstep h c) (by rw [e]; simp) (hstep_range h0 h1).1 (hstep_range h0 h1).2
    rw [len_one] at this
    exact this
theorem impl_hash_f (a0 a1 : Int) (s : ByteArray) (hz : (s.size : Int) ≤ 9223372036854775806) (h0 : 0 ≤ a0) (h0' : a0 ≤ 1000000) (h1 : 0 ≤ a1) (h1' : a1 ≤ 1000000) :
    Ev (fun k => impl_hash.f k a0 a1 s) (hashV a0 a1 s) := by
  unfold impl_hash.f
  exact impl_hash_l0 s hz s.data.toList [] _ rfl (hstart_range h0 h0' h1 h1').1 (hstart_range h0 h0' h1 h1').2

def placeV (a0 a1 : Int) (s : ByteArray) (n : Int) : Int := wrap64 (Int.tdiv (wrap64 (hashV a0 a1 s * n)) 65521)
theorem placeV_range (a0 a1 : Int) (s : ByteArray) {n : Int} (h0 : 1 ≤ n) (h1 : n ≤ 1000000) : 0 ≤ placeV a0 a1 s n ∧ placeV a0 a1 s n < n := by
  obtain ⟨a, b⟩ := hashV_range a0 a1 s
  have c := Int.mul_nonneg a (show (0 : Int) ≤ n by omega)
  have d := Int.mul_le_mul_of_nonneg_right b (show (0 : Int) ≤ n by omega)
  unfold placeV
  generalize hashV a0 a1 s * n = y at *
  rw [w64 (x := y) (by omega) (by omega), Int.tdiv_eq_ediv_of_nonneg (by omega), w64 (by omega) (by omega)]
  omega
theorem spec_biPlace_f (a0 a1 : Int) (s : ByteArray) (n : Int) (hz : (s.size : Int) ≤ 9223372036854775806) (h0 : 0 ≤ a0) (h0' : a0 ≤ 1000000) (h1 : 0 ≤ a1) (h1' : a1 ≤ 1000000) :
    Ev (fun k => spec_biPlace.f k a0 a1 s n) (placeV a0 a1 s n) := by
  unfold spec_biPlace.f
  exact ev_bind _ (spec_biHash_f a0 a1 s hz h0 h0' h1 h1') (Ev.now _)
theorem impl_place_f (a0 a1 : Int) (s : ByteArray) (n : Int) (hz : (s.size : Int) ≤ 9223372036854775806) (h0 : 0 ≤ a0) (h0' : a0 ≤ 1000000) (h1 : 0 ≤ a1) (h1' : a1 ≤ 1000000) :
    Ev (fun k => impl_place.f k a0 a1 s n) (placeV a0 a1 s n) := by
  unfold impl_place.f
  exact ev_bind _ (impl_hash_f a0 a1 s hz h0 h0' h1 h1') (Ev.now _)
end Go.Proofs.YtmehagedoaopeaaQ
namespace Go.Proofs.YtmehagedoaopeaaQ
open Go Go.RowKit Go.Proofs.YtmehagedoaopeaaW.PrintWords Go.Proofs.YtmehagedoaopeaaGp Go.Proofs.Ytmehagedoaopeaa.PR

def tripL (a0 : Int) (s : ByteArray) (n : Int) : Nat → Nat → List Int
  | 0, _ => []
  | m + 1, i => wrap64 (placeV a0 (i : Int) s n + wrap64 ((i : Int) * n)) :: tripL a0 s n m (i + 1)
theorem tripL_range (a0 : Int) (s : ByteArray) {n : Int} (h0 : 1 ≤ n) (h1 : n ≤ 24) : ∀ p ∈ tripL a0 s n 3 0, 0 ≤ p ∧ p < 3 * n := by
  intro p h
  have r0 := placeV_range a0 ((0 : Nat) : Int) s h0 (by omega)
  have r1 := placeV_range a0 ((0 + 1 : Nat) : Int) s h0 (by omega)
  have r2 := placeV_range a0 ((0 + 1 + 1 : Nat) : Int) s h0 (by omega)
  simp only [tripL, List.mem_cons, List.not_mem_nil, or_false] at h
  rcases h with rfl | rfl | rfl
  · rw [w64 (x := ((0 : Nat) : Int) * n) (by omega) (by omega), w64 (by omega) (by omega)]; omega
  · rw [w64 (x := ((0 + 1 : Nat) : Int) * n) (by omega) (by omega), w64 (by omega) (by omega)]; omega
  · rw [w64 (x := ((0 + 1 + 1 : Nat) : Int) * n) (by omega) (by omega), w64 (by omega) (by omega)]; omega
theorem spec_peTriple_l0 (a0 : Int) (n : Int) (s : ByteArray) (hz : (s.size : Int) ≤ 9223372036854775806) (h0 : 0 ≤ a0) (h0' : a0 ≤ 1000000) : ∀ (m i : Nat) (acc : List Int), i + m = 3 → acc.length = i →
    Ev (fun k => spec_peTriple.l0 k a0 s n acc (i : Int)) (acc ++ tripL a0 s n m i) := by
  intro m
  induction m with
  | zero =>
    intro i acc e ha
    refine ev_succ ?_
    simp only [spec_peTriple.l0, tripL]
    exact ev_neg (by omega) (ev_some (by simp))
  | succ m ih =>
    intro i acc e ha
    refine ev_succ ?_
    simp only [spec_peTriple.l0, tripL]
    refine ev_pos (by omega) (ev_bind _ (spec_biPlace_f a0 (i : Int) s n hz h0 h0' (by omega) (by omega)) (ev_pos (by omega) ?_))
    rw [winc (by omega)]
    have := ih (i + 1) (acc ++ [wrap64 (placeV a0 (i : Int) s n + wrap64 ((i : Int) * n))]) (by omega) (by simp [ha])
    rw [List.append_assoc] at this
    exact this
theorem spec_peTriple_f (a0 n : Int) (s : ByteArray) (hz : (s.size : Int) ≤ 9223372036854775806) (h0 : 0 ≤ a0) (h0' : a0 ≤ 1000000) : Ev (fun k => spec_peTriple.f k a0 s n) (tripL a0 s n 3 0) := by
  unfold spec_peTriple.f
  have := spec_peTriple_l0 a0 n s hz h0 h0' 3 0 [] rfl rfl
  exact this
theorem impl_threePlaces_l0 (a0 : Int) (n : Int) (s : ByteArray) (hz : (s.size : Int) ≤ 9223372036854775806) (h0 : 0 ≤ a0) (h0' : a0 ≤ 1000000) : ∀ (m i : Nat) (acc : List Int), i + m = 3 → acc.length = i →
    Ev (fun k => impl_threePlaces.l0 k a0 s n acc (i : Int)) (acc ++ tripL a0 s n m i) := by
  intro m
  induction m with
  | zero =>
    intro i acc e ha
    refine ev_succ ?_
    simp only [impl_threePlaces.l0, tripL]
    exact ev_neg (by omega) (ev_some (by simp))
  | succ m ih =>
    intro i acc e ha
    refine ev_succ ?_
    simp only [impl_threePlaces.l0, tripL]
    refine ev_pos (by omega) (ev_bind _ (impl_place_f a0 (i : Int) s n hz h0 h0' (by omega) (by omega)) (ev_pos (by omega) ?_))
    rw [winc (by omega)]
    have := ih (i + 1) (acc ++ [wrap64 (placeV a0 (i : Int) s n + wrap64 ((i : Int) * n))]) (by omega) (by simp [ha])
    rw [List.append_assoc] at this
    exact this
theorem impl_threePlaces_f (a0 n : Int) (s : ByteArray) (hz : (s.size : Int) ≤ 9223372036854775806) (h0 : 0 ≤ a0) (h0' : a0 ≤ 1000000) : Ev (fun k => impl_threePlaces.f k a0 s n) (tripL a0 s n 3 0) := by
  unfold impl_threePlaces.f
  have := impl_threePlaces_l0 a0 n s hz h0 h0' 3 0 [] rfl rfl
  exact this
end Go.Proofs.YtmehagedoaopeaaQ
namespace Go.Proofs.YtmehagedoaopeaaQ
open Go Go.RowKit Go.Proofs.YtmehagedoaopeaaW.PrintWords Go.Proofs.YtmehagedoaopeaaGp Go.Proofs.Ytmehagedoaopeaa.PR

def isEdgeB (P : Int) (e : List Int) : Bool := decide (e.length = 3) && decide (0 ≤ rd e 0) && decide (rd e 0 < rd e 1) && decide (rd e 1 < rd e 2) && decide (rd e 2 < P)
def goodB (P : Int) (E : Edges) : Bool := decide (1 ≤ P ∧ P ≤ 72) && decide (E.length ≤ 40) && E.all (isEdgeB P)
theorem isEdgeB_ok {P : Int} {e : List Int} (h : isEdgeB P e = true) : e.length ≤ 3 ∧ ∀ p ∈ e, 0 ≤ p ∧ p < P := by
  unfold isEdgeB at h
  simp only [Bool.and_eq_true, decide_eq_true_eq] at h
  obtain ⟨⟨⟨⟨h1, h2⟩, h3⟩, h4⟩, h5⟩ := h
  match e, h1 with
  | [a, b, c], _ =>
    simp only [rd] at h2 h3 h4 h5
    change 0 ≤ a at h2
    change a < b at h3
    change b < c at h4
    change c < P at h5
    refine ⟨by simp, fun p hp => ?_⟩
    simp only [List.mem_cons, List.not_mem_nil, or_false] at hp
    omega
theorem goodB_ok {P : Int} {E : Edges} (h : goodB P E = true) : GoodH P.toNat E ∧ (P.toNat : Int) = P ∧ E.length ≤ 40 ∧ P ≤ 72 := by
  unfold goodB at h
  simp only [Bool.and_eq_true, decide_eq_true_eq, List.all_eq_true] at h
  obtain ⟨⟨h1, h2⟩, h3⟩ := h
  refine ⟨⟨fun e he p hp => ?_, by omega, fun e he => (isEdgeB_ok (h3 e he)).1, by omega⟩, by omega, h2, h1.2⟩
  have := (isEdgeB_ok (h3 e he)).2 p hp
  omega
def hypE (a0 n : Int) (l : List ByteArray) : Edges := l.map fun s => tripL a0 s n 3 0
theorem hypE_len (a0 n : Int) (l : List ByteArray) : (hypE a0 n l).length = l.length := by simp [hypE]
theorem hypE_app (a0 n : Int) (l : List ByteArray) (s : ByteArray) : hypE a0 n (l ++ [s]) = hypE a0 n l ++ [tripL a0 s n 3 0] := by simp [hypE]
theorem impl_hyper_l0 {a0 n : Int} (h0 : 0 ≤ a0) (h0' : a0 ≤ 1000000) (q : Int) {x0 : List ByteArray} (hx : x0.length ≤ 1000) (hz : ∀ s ∈ x0, s.size ≤ 1000) : ∀ (t pre : List ByteArray), x0 = pre ++ t →
    Ev (fun k => impl_hyper.l0 k a0 n x0 (x0.length : Int) (pre.length : Int) q (hypE a0 n pre)) (q, hypE a0 n x0) := by
  intro t
  induction t with
  | nil =>
    intro pre h
    have hp : x0 = pre := by rw [h, List.append_nil]
    subst hp
    refine ev_succ ?_
    simp only [impl_hyper.l0]
    exact ev_neg (by omega) (Ev.now _)
  | cons x t ih =>
    intro pre h
    have hm : ((pre.length : Nat) : Int) < (x0.length : Int) := by rw [h]; exact lt_mid
    have hg : rdOf ByteArray.empty x0 (pre.length : Int) = x := by rw [h]; exact rdOf_mid
    have hxs := hz x (by rw [h]; simp)
    refine ev_succ ?_
    simp only [impl_hyper.l0, hg]
    refine ev_pos hm (ev_pos (by omega) (ev_pos hm (ev_bind _ (impl_threePlaces_f a0 n x (by omega) h0 h0') (ev_pos (by rw [hypE_len]; omega) ?_))))
    rw [winc (by omega), ← hypE_app]
    have := ih (pre ++ [x]) (by rw [h]; simp)
    rw [len_one] at this
    exact this
theorem impl_hyper_f {a0 n : Int} (h0 : 0 ≤ a0) (h0' : a0 ≤ 1000000) (hn : 0 ≤ n) (hn' : n ≤ 1000) {x0 : List ByteArray} (hx : x0.length ≤ 1000) (hz : ∀ s ∈ x0, s.size ≤ 1000) : Ev (fun k => impl_hyper.f k a0 x0 n) (3 * n, hypE a0 n x0) := by
  unfold impl_hyper.f
  rw [w64 (by omega) (by omega)]
  exact impl_hyper_l0 h0 h0' (3 * n) hx hz x0 [] rfl
theorem spec_peHyper_l0 {a0 n : Int} (h0 : 0 ≤ a0) (h0' : a0 ≤ 1000000) (q : Int) {x0 : List ByteArray} (hx : x0.length ≤ 1000) (hz : ∀ s ∈ x0, s.size ≤ 1000) : ∀ (t pre : List ByteArray), x0 = pre ++ t →
    Ev (fun k => spec_peHyper.l0 k a0 n x0 (x0.length : Int) (pre.length : Int) q (hypE a0 n pre)) (q, hypE a0 n x0) := by
  intro t
  induction t with
  | nil =>
    intro pre h
    have hp : x0 = pre := by rw [h, List.append_nil]
    subst hp
    refine ev_succ ?_
    simp only [spec_peHyper.l0]
    exact ev_neg (by omega) (Ev.now _)
  | cons x t ih =>
    intro pre h
    have hm : ((pre.length : Nat) : Int) < (x0.length : Int) := by rw [h]; exact lt_mid
    have hg : rdOf ByteArray.empty x0 (pre.length : Int) = x := by rw [h]; exact rdOf_mid
    have hxs := hz x (by rw [h]; simp)
    refine ev_succ ?_
    simp only [spec_peHyper.l0, hg]
    refine ev_pos hm (ev_pos (by omega) (ev_pos hm (ev_bind _ (spec_peTriple_f a0 n x (by omega) h0 h0') (ev_pos (by rw [hypE_len]; omega) ?_))))
    rw [winc (by omega), ← hypE_app]
    have := ih (pre ++ [x]) (by rw [h]; simp)
    rw [len_one] at this
    exact this
theorem spec_peHyper_f {a0 n : Int} (h0 : 0 ≤ a0) (h0' : a0 ≤ 1000000) (hn : 0 ≤ n) (hn' : n ≤ 1000) {x0 : List ByteArray} (hx : x0.length ≤ 1000) (hz : ∀ s ∈ x0, s.size ≤ 1000) : Ev (fun k => spec_peHyper.f k a0 x0 n) (3 * n, hypE a0 n x0) := by
  unfold spec_peHyper.f
  rw [w64 (by omega) (by omega)]
  exact spec_peHyper_l0 h0 h0' (3 * n) hx hz x0 [] rfl
theorem trip_edge (a0 : Int) (s : ByteArray) {n : Int} (h0 : 1 ≤ n) (h1 : n ≤ 24) : isEdgeB (3 * n) (tripL a0 s n 3 0) = true := by
  have r0 := placeV_range a0 ((0 : Nat) : Int) s h0 (by omega)
  have r1 := placeV_range a0 ((0 + 1 : Nat) : Int) s h0 (by omega)
  have r2 := placeV_range a0 ((0 + 1 + 1 : Nat) : Int) s h0 (by omega)
  have e0 : wrap64 (placeV a0 ((0 : Nat) : Int) s n + wrap64 (((0 : Nat) : Int) * n)) = placeV a0 ((0 : Nat) : Int) s n := by
    rw [w64 (x := ((0 : Nat) : Int) * n) (by omega) (by omega), w64 (by omega) (by omega)]; omega
  have e1 : wrap64 (placeV a0 ((0 + 1 : Nat) : Int) s n + wrap64 (((0 + 1 : Nat) : Int) * n)) = placeV a0 ((0 + 1 : Nat) : Int) s n + n := by
    rw [w64 (x := ((0 + 1 : Nat) : Int) * n) (by omega) (by omega), w64 (by omega) (by omega)]; omega
  have e2 : wrap64 (placeV a0 ((0 + 1 + 1 : Nat) : Int) s n + wrap64 (((0 + 1 + 1 : Nat) : Int) * n)) = placeV a0 ((0 + 1 + 1 : Nat) : Int) s n + 2 * n := by
    rw [w64 (x := ((0 + 1 + 1 : Nat) : Int) * n) (by omega) (by omega), w64 (by omega) (by omega)]; omega
  have et : tripL a0 s n 3 0 = [placeV a0 ((0 : Nat) : Int) s n, placeV a0 ((0 + 1 : Nat) : Int) s n + n, placeV a0 ((0 + 1 + 1 : Nat) : Int) s n + 2 * n] := by
    simp only [tripL]
    rw [e0, e1, e2]
  rw [et]
  generalize placeV a0 ((0 : Nat) : Int) s n = x0 at r0
  generalize placeV a0 ((0 + 1 : Nat) : Int) s n = x1 at r1
  generalize placeV a0 ((0 + 1 + 1 : Nat) : Int) s n = x2 at r2
  unfold isEdgeB
  simp only [Bool.and_eq_true, decide_eq_true_eq]
  refine ⟨⟨⟨⟨rfl, ?_⟩, ?_⟩, ?_⟩, ?_⟩
  · exact r0.1
  · show x0 < x1 + n; omega
  · show x1 + n < x2 + 2 * n; omega
  · show x2 + 2 * n < 3 * n; omega
theorem hyp_good (a0 : Int) {n : Int} (h0 : 1 ≤ n) (h1 : n ≤ 24) {l : List ByteArray} (hl : l.length ≤ 40) : goodB (3 * n) (hypE a0 n l) = true := by
  unfold goodB
  simp only [Bool.and_eq_true, decide_eq_true_eq, List.all_eq_true]
  refine ⟨⟨by omega, by rw [hypE_len]; exact hl⟩, fun e he => ?_⟩
  simp only [hypE, List.mem_map] at he
  obtain ⟨s, _, rfl⟩ := he
  exact trip_edge a0 s h0 h1
def peelsB (a0 : Int) (l : List ByteArray) (n : Int) : Bool := (coreE (3 * n).toNat (hypE a0 n l)).length == 0
theorem impl_order_f {P : Int} {E : Edges} (h : goodB P E = true) : Ev (fun k => impl_Hyper_order.f k P E) (stepsL (peelAll P.toNat E).1, (coreE P.toNat E).length == 0) := by
  obtain ⟨hG, hP, _, _⟩ := goodB_ok h
  have := impl_peel_f hG
  rw [hP] at this
  unfold impl_Hyper_order.f
  refine ev_bind _ this (ev_some ?_)
  rw [castL_len]
  congr 1
  rw [Bool.eq_iff_iff, beq_iff_eq, beq_iff_eq]
  omega
theorem impl_segmentOk_f (n : Int) : impl_segmentOk.f n = some (decide (1 ≤ n ∧ n ≤ 24)) := by
  unfold impl_segmentOk.f
  rw [impl_in]; rfl
theorem impl_isSeedP_f (n : Int) : impl_isSeed.f n = some (decide (0 ≤ n ∧ n ≤ 9999)) := by
  unfold impl_isSeed.f
  rw [impl_in]; rfl
theorem keys_small {l : List ByteArray} (h : areKeysB l = true) : l.length ≤ 40 ∧ ∀ s ∈ l, s.size ≤ 1000 :=
  ⟨areKeysB_len h, fun s hs => by have := isKeyB_size (areKeysB_all h s hs); omega⟩
def keyedB (a0 : Int) (l : List ByteArray) (n : Int) : Bool := decide (0 ≤ a0 ∧ a0 ≤ 9999) && areKeysB l && decide (1 ≤ n ∧ n ≤ 24)
theorem spec_peKeyed_f (a0 n : Int) {l : List ByteArray} (hl : l.length ≤ 1000) (hz : ∀ s ∈ l, s.size ≤ 1000) : Ev (fun k => spec_peKeyed.f k a0 l n) (keyedB a0 l n) := by
  unfold spec_peKeyed.f keyedB
  rw [spec_in, spec_in]
  refine ev_bind _ (Ev.now _) ?_
  by_cases c : 0 ≤ a0 ∧ a0 ≤ 9999
  · rw [decide_eq_true c]
    refine ev_pos rfl (ev_bind _ (spec_biKeys_f l (by omega) (fun s hs => by have := hz s hs; omega)) ?_)
    by_cases d : areKeysB l = true
    · rw [d]; exact ev_pos rfl (ev_bind _ (Ev.now _) (ev_some (by simp)))
    · rw [Bool.eq_false_iff.2 d]; exact ev_neg (by simp) (ev_some (by simp))
  · rw [decide_eq_false c]
    exact ev_neg (by simp) (ev_some (by simp))
end Go.Proofs.YtmehagedoaopeaaQ
namespace Go.Proofs.YtmehagedoaopeaaQ
open Go Go.RowKit Go.Proofs.YtmehagedoaopeaaW.PrintWords Go.Proofs.YtmehagedoaopeaaGp Go.Proofs.Ytmehagedoaopeaa.PR

theorem rd_edge (E : Edges) (i : Nat) : rd_L3 E (i : Int) = edg E i := by
  unfold rd_L3 edg
  rw [Int.toNat_natCast]
theorem rd_step (xs : List (Nat × Int)) {n : Nat} (h : n < xs.length) : rd_T118 (stepsL xs) (n : Int) = mkS118 xs[n] := by
  unfold rd_T118 stepsL
  rw [Int.toNat_natCast, List.getD_eq_getElem?_getD, List.getElem?_eq_getElem (by simpa using h)]
  simp
end Go.Proofs.YtmehagedoaopeaaQ
namespace Go.Proofs.YtmehagedoaopeaaQ
open Go Go.RowKit Go.Proofs.YtmehagedoaopeaaW.PrintWords

def StepsOk (E : Edges) : List Nat → List (Nat × Int) → Prop
  | _, [] => True
  | L, (i, p) :: t => i ∈ L ∧ p ∈ edg E i ∧ degOf E L p = 1 ∧ StepsOk E (dropE L i) t
theorem peelC_ok {P : Nat} {E : Edges} : ∀ (cs L : List Nat), StepsOk E L (peelC P E cs L).1
  | [], L => by simp [peelC, StepsOk]
  | c :: cs, L => by
    cases hs : stepE P E L c with
    | none => rw [peelC, hs]; simp [StepsOk]
    | some x =>
      obtain ⟨i, p⟩ := x
      rw [peelC_cons_some cs hs]
      obtain ⟨_, h2, h3⟩ := stepE_some hs
      obtain ⟨h4, h5⟩ := withE_some h3
      exact ⟨h4, h5, h2, peelC_ok cs _⟩
theorem steps_later {E : Edges} : ∀ {L : List Nat} {t : List (Nat × Int)}, StepsOk E L t → ∀ s ∈ t, s.1 ∈ L ∧ s.2 ∈ edg E s.1
  | _, [], _, s, h => by cases h
  | L, (i, p) :: t, ⟨h1, h2, _, h4⟩, s, h => by
    rcases List.mem_cons.1 h with rfl | h
    · exact ⟨h1, h2⟩
    · obtain ⟨a, b⟩ := steps_later h4 s h
      exact ⟨(mem_dropE.1 a).1, b⟩
theorem steps_apart {E : Edges} {L : List Nat} {i : Nat} {p : Int} {t : List (Nat × Int)} (h : StepsOk E L ((i, p) :: t)) : ∀ s ∈ t, s.1 ≠ i ∧ p ∉ edg E s.1 ∧ s.2 ≠ p := fun s hs => by
  obtain ⟨h1, h2, h3, h4⟩ := h
  obtain ⟨a, b⟩ := steps_later h4 s hs
  obtain ⟨a1, a2⟩ := mem_dropE.1 a
  have hp : p ∉ edg E s.1 := fun hp => by have := degOf_two h1 a1 (Ne.symm a2) h2 hp; omega
  exact ⟨a2, hp, fun e => hp (e ▸ b)⟩
def fillB (v : List Int → Nat × Int → Int) (xs : List (Nat × Int)) (m : List Int) : List Int := xs.foldr (fun s m => m.set s.2.toNat (v m s)) m
theorem fillB_cons (v : List Int → Nat × Int → Int) (s : Nat × Int) (t : List (Nat × Int)) (m : List Int) : fillB v (s :: t) m = (fillB v t m).set s.2.toNat (v (fillB v t m) s) := rfl
theorem fillB_len (v : List Int → Nat × Int → Int) : ∀ (xs : List (Nat × Int)) (m : List Int), (fillB v xs m).length = m.length
  | [], _ => rfl
  | s :: t, m => by rw [fillB_cons, List.length_set, fillB_len v t m]
theorem rd_set_ne {m : List Int} {p q : Int} {x : Int} (h0 : 0 ≤ p) (h1 : 0 ≤ q) (h : p ≠ q) : rd (m.set p.toNat x) q = rd m q := by
  unfold rd
  rw [List.getD_eq_getElem?_getD, List.getD_eq_getElem?_getD, List.getElem?_set_ne (by omega)]
theorem rd_set_eq {m : List Int} {p : Int} {x : Int} (h0 : 0 ≤ p) (h1 : p < (m.length : Int)) : rd (m.set p.toNat x) p = x := by
  unfold rd
  rw [List.getD_eq_getElem?_getD, List.getElem?_set_self (by omega), Option.getD_some]
theorem fillB_other (v : List Int → Nat × Int → Int) {q : Int} (hq : 0 ≤ q) : ∀ (xs : List (Nat × Int)) (m : List Int), (∀ s ∈ xs, 0 ≤ s.2 ∧ s.2 ≠ q) → rd (fillB v xs m) q = rd m q
  | [], _, _ => rfl
  | s :: t, m, h => by
    rw [fillB_cons, rd_set_ne (h s (by simp)).1 hq (h s (by simp)).2]
    exact fillB_other v hq t m (fun x hx => h x (by simp [hx]))
theorem fillB_good {E : Edges} (v : List Int → Nat × Int → Int) (G : List Int → Nat → Prop) (m0 : List Int)
    (hE : ∀ i, ∀ p ∈ edg E i, 0 ≤ p ∧ p < (m0.length : Int))
    (hG : ∀ (m m' : List Int) (i : Nat), (∀ p ∈ edg E i, rd m p = rd m' p) → G m i → G m' i)
    (R : List Int → Prop) (hR0 : R m0)
    (hv : ∀ (m : List Int) (s : Nat × Int), m.length = m0.length → R m → s.2 ∈ edg E s.1 → rd m s.2 = rd m0 s.2 → R (m.set s.2.toNat (v m s)) ∧ G (m.set s.2.toNat (v m s)) s.1) :
    ∀ (xs : List (Nat × Int)) (L : List Nat), StepsOk E L xs → R (fillB v xs m0) ∧ ∀ s ∈ xs, G (fillB v xs m0) s.1
  | [], _, _ => ⟨hR0, by simp⟩
  | (i, p) :: t, L, h => by
    obtain ⟨hR, hs⟩ := fillB_good v G m0 hE hG R hR0 hv t _ h.2.2.2
    have ha := steps_apart h
    have hp := hE i p h.2.1
    have ho : rd (fillB v t m0) p = rd m0 p := fillB_other v hp.1 t m0 (fun s hs => ⟨(hE s.1 s.2 (steps_later h.2.2.2 s hs).2).1, (ha s hs).2.2⟩)
    obtain ⟨r1, r2⟩ := hv (fillB v t m0) (i, p) (fillB_len v t m0) hR h.2.1 ho
    refine ⟨r1, fun s hs' => ?_⟩
    rcases List.mem_cons.1 hs' with rfl | hs'
    · exact r2
    · refine hG _ _ _ (fun q hq => ?_) (hs s hs')
      rw [fillB_cons, rd_set_ne hp.1 (hE s.1 q hq).1 (fun e => (ha s hs').2.1 (e ▸ hq))]
theorem fillB_congr {E : Edges} (v v' : List Int → Nat × Int → Int) (m0 : List Int) (hE : ∀ i, ∀ p ∈ edg E i, 0 ≤ p ∧ p < (m0.length : Int)) (R : List Int → Prop) (hR0 : R m0)
    (hv : ∀ (m : List Int) (s : Nat × Int), m.length = m0.length → R m → s.2 ∈ edg E s.1 → rd m s.2 = rd m0 s.2 → v m s = v' m s ∧ R (m.set s.2.toNat (v m s))) :
    ∀ (xs : List (Nat × Int)) (L : List Nat), StepsOk E L xs → fillB v xs m0 = fillB v' xs m0 ∧ R (fillB v xs m0)
  | [], _, _ => ⟨rfl, hR0⟩
  | (i, p) :: t, L, h => by
    obtain ⟨he, hR⟩ := fillB_congr v v' m0 hE R hR0 hv t _ h.2.2.2
    have ha := steps_apart h
    have hp := hE i p h.2.1
    have ho : rd (fillB v t m0) p = rd m0 p := fillB_other v hp.1 t m0 (fun s hs => ⟨(hE s.1 s.2 (steps_later h.2.2.2 s hs).2).1, (ha s hs).2.2⟩)
    obtain ⟨r1, r2⟩ := hv (fillB v t m0) (i, p) (fillB_len v t m0) hR h.2.1 ho
    rw [fillB_cons, fillB_cons, ← he]
    exact ⟨by rw [← r1], r2⟩
theorem peel_takes {P : Nat} {E : Edges} {cs L : List Nat} (hn : L.Nodup) (h : (peelC P E cs L).2 = []) : ∀ i ∈ L, ∃ s ∈ (peelC P E cs L).1, s.1 = i := by
  induction cs generalizing L with
  | nil => simp only [peelC] at h; subst h; simp
  | cons c cs ih =>
    intro i hi
    cases hs : stepE P E L c with
    | none => rw [peelC, hs] at h; simp only at h; subst h; cases hi
    | some x =>
      obtain ⟨j, p⟩ := x
      rw [peelC_cons_some cs hs] at h ⊢
      by_cases e : i = j
      · exact ⟨(j, p), by simp, e.symm⟩
      · obtain ⟨s, h1, h2⟩ := ih (nodup_drop hn j) h i (mem_dropE.2 ⟨hi, e⟩)
        exact ⟨s, by simp [h1], h2⟩
end Go.Proofs.YtmehagedoaopeaaQ
namespace Go.Proofs.YtmehagedoaopeaaQ
open Go Go.RowKit Go.Proofs.YtmehagedoaopeaaW.PrintWords Go.Proofs.YtmehagedoaopeaaW.PrintMore Go.Proofs.YtmehagedoaopeaaGp Go.Proofs.Ytmehagedoaopeaa.PR

theorem trip_form (a0 : Int) (s : ByteArray) {n : Int} (h0 : 1 ≤ n) (h1 : n ≤ 24) : ∃ x y z, tripL a0 s n 3 0 = [x, y, z] ∧ 0 ≤ x ∧ x < y ∧ y < z ∧ z < 3 * n := by
  have h := trip_edge a0 s h0 h1
  unfold isEdgeB at h
  simp only [Bool.and_eq_true, decide_eq_true_eq] at h
  obtain ⟨⟨⟨⟨g1, g2⟩, g3⟩, g4⟩, g5⟩ := h
  match e : tripL a0 s n 3 0, g1 with
  | [a, b, c], _ =>
    rw [e] at g2 g3 g4 g5
    exact ⟨a, b, c, rfl, g2, g3, g4, g5⟩
theorem hyp_edge (a0 : Int) {n : Int} (h0 : 1 ≤ n) (h1 : n ≤ 24) {l : List ByteArray} {i : Nat} (hi : i < l.length) : ∃ x y z, edg (hypE a0 n l) i = [x, y, z] ∧ edg (hypE a0 n l) i = tripL a0 l[i] n 3 0 ∧ 0 ≤ x ∧ x < y ∧ y < z ∧ z < 3 * n := by
  have e : edg (hypE a0 n l) i = tripL a0 l[i] n 3 0 := by
    unfold edg hypE
    rw [List.getD_eq_getElem?_getD, List.getElem?_map, List.getElem?_eq_getElem hi]
    rfl
  obtain ⟨x, y, z, e2, g⟩ := trip_form a0 l[i] h0 h1
  exact ⟨x, y, z, e.trans e2, e, g⟩
def InR (lo hi : Int) (m : List Int) : Prop := ∀ p, 0 ≤ p → p < (m.length : Int) → lo ≤ rd m p ∧ rd m p ≤ hi
theorem InR.set {lo hi : Int} {m : List Int} (h : InR lo hi m) {p v : Int} (hp : 0 ≤ p) (hv : lo ≤ v ∧ v ≤ hi) : InR lo hi (m.set p.toNat v) := fun q h0 h1 => by
  rw [List.length_set] at h1
  by_cases e : p = q
  · subst e; rw [rd_set_eq hp h1]; exact hv
  · rw [rd_set_ne hp h0 e]; exact h q h0 h1
theorem InR.rep {lo hi v : Int} (n : Nat) (hv : lo ≤ v ∧ v ≤ hi) : InR lo hi (List.replicate n v) := fun p h0 h1 => by
  rw [List.length_replicate] at h1
  have : rd (List.replicate n v) p = v := by
    unfold rd
    rw [List.getD_eq_getElem?_getD, List.getElem?_replicate, if_pos (by omega)]
    rfl
  rw [this]; exact hv
theorem rd_rep {v : Int} {n : Nat} {p : Int} (h0 : 0 ≤ p) (h1 : p < (n : Int)) : rd (List.replicate n v) p = v := by
  unfold rd
  rw [List.getD_eq_getElem?_getD, List.getElem?_replicate, if_pos (by omega)]
  rfl
theorem set_same {m : List Int} {p v : Int} (h0 : 0 ≤ p) (_ : p < (m.length : Int)) (h : rd m p = v) : m.set p.toNat v = m := by
  apply List.ext_getElem
  · simp
  · intro i g1 g2
    rw [List.getElem_set]
    split
    · rename_i e
      subst e
      rw [← h]
      have := rd_get g2
      rw [show ((p.toNat : Nat) : Int) = p by omega] at this
      exact this
    · rfl
structure KeySteps (a0 n : Int) (l : List ByteArray) (xs : List (Nat × Int)) : Prop where
  ok : StepsOk (hypE a0 n l) (allE (hypE a0 n l)) xs
  len : xs.length ≤ l.length
  rng : ∀ s ∈ xs, s.1 < l.length ∧ s.2 ∈ edg (hypE a0 n l) s.1
theorem key_steps (a0 n : Int) (l : List ByteArray) : KeySteps a0 n l (peelAll (3 * n).toNat (hypE a0 n l)).1 := by
  have h := peelC_ok (P := (3 * n).toNat) (E := hypE a0 n l) (List.replicate (hypE a0 n l).length 0) (allE (hypE a0 n l))
  have hl := peelC_len (P := (3 * n).toNat) (E := hypE a0 n l) (List.replicate (hypE a0 n l).length 0) (allE (hypE a0 n l)) (allE_nodup _)
  have hal : (allE (hypE a0 n l)).length = l.length := by simp [allE, hypE_len]
  refine ⟨h, by unfold peelAll; omega, fun s hs => ?_⟩
  obtain ⟨h1, h2⟩ := steps_later h s hs
  exact ⟨by simpa [allE, hypE_len] using h1, h2⟩
theorem key_takes {a0 n : Int} {l : List ByteArray} (h : peelsB a0 l n = true) {i : Nat} (hi : i < l.length) : ∃ s ∈ (peelAll (3 * n).toNat (hypE a0 n l)).1, s.1 = i := by
  unfold peelsB at h
  have hc : (peelC (3 * n).toNat (hypE a0 n l) (List.replicate (hypE a0 n l).length 0) (allE (hypE a0 n l))).2 = [] := List.length_eq_zero_iff.1 (by simpa [coreE, peelAll] using h)
  exact peel_takes (allE_nodup _) hc i (by simpa [allE, hypE_len] using hi)
theorem keyedB_ok {a0 n : Int} {l : List ByteArray} (h : keyedB a0 l n = true) : (0 ≤ a0 ∧ a0 ≤ 9999) ∧ areKeysB l = true ∧ 1 ≤ n ∧ n ≤ 24 := by
  simp only [keyedB, Bool.and_eq_true, decide_eq_true_eq] at h
  exact ⟨h.1.1, h.1.2, h.2⟩
end Go.Proofs.YtmehagedoaopeaaQ
namespace Go.Proofs.YtmehagedoaopeaaQ
open Go Go.RowKit Go.Proofs.YtmehagedoaopeaaW.PrintWords Go.Proofs.YtmehagedoaopeaaGp Go.Proofs.Ytmehagedoaopeaa.PR

def hasS (l : List ByteArray) (s : ByteArray) : Bool := l.any fun x => decide (x = s)
theorem hasS_iff {l : List ByteArray} {s : ByteArray} : hasS l s = true ↔ s ∈ l := by simp [hasS]
theorem spec_l1HasS_l0 (x0 : List ByteArray) (s : ByteArray) (hl : (x0.length : Int) ≤ 9223372036854775806) : ∀ (t pre : List ByteArray), x0 = pre ++ t →
    Ev (fun k => spec_l1HasS.l0 k s x0 (x0.length : Int) (pre.length : Int)) (hasS t s) := by
  intro t
  induction t with
  | nil =>
    intro pre h
    refine ev_succ ?_
    simp only [spec_l1HasS.l0]
    exact ev_neg (by rw [h]; exact not_lt_end) (ev_some (by simp [hasS]))
  | cons x t ih =>
    intro pre h
    have hm : ((pre.length : Nat) : Int) < (x0.length : Int) := by rw [h]; exact lt_mid
    have hg : rdOf ByteArray.empty x0 (pre.length : Int) = x := by rw [h]; exact rdOf_mid
    refine ev_succ ?_
    simp only [spec_l1HasS.l0, hg, tl_inj]
    refine ev_pos hm (ev_pos (by omega) (ev_pos hm ?_))
    by_cases c : x = s
    · exact ev_pos c (ev_some (by simp [hasS, c]))
    · refine ev_neg c ?_
      rw [winc (by omega)]
      have := ih (pre ++ [x]) (by rw [h]; simp)
      rw [len_one] at this
      have e : hasS (x :: t) s = hasS t s := by simp [hasS, c]
      rw [e]
      exact this
theorem spec_l1HasS_f (l : List ByteArray) (s : ByteArray) (hl : (l.length : Int) ≤ 9223372036854775806) : Ev (fun k => spec_l1HasS.f k l s) (hasS l s) := by
  unfold spec_l1HasS.f
  exact spec_l1HasS_l0 l s hl l [] rfl
def idxS : List ByteArray → ByteArray → Nat → Int
  | [], _, _ => -1
  | x :: t, s, i => if x = s then (i : Int) else idxS t s (i + 1)
theorem idxS_mem : ∀ (l : List ByteArray) (s : ByteArray) (i : Nat), 0 ≤ idxS l s i ↔ s ∈ l
  | [], s, i => by simp [idxS]
  | x :: t, s, i => by
    simp only [idxS]
    split
    · rename_i c; simp [c]
    · rename_i c; rw [idxS_mem t s (i + 1)]; simp [Ne.symm c]
theorem slices_Index_string_string_l0 (x0 : List ByteArray) (s : ByteArray) (hl : (x0.length : Int) ≤ 9223372036854775806) : ∀ (t pre : List ByteArray), x0 = pre ++ t →
    Ev (fun k => slices_Index_string_string.l0 k x0 s (x0.length : Int) (pre.length : Int)) (idxS t s pre.length) := by
  intro t
  induction t with
  | nil =>
    intro pre h
    refine ev_succ ?_
    simp only [slices_Index_string_string.l0]
    exact ev_neg (by rw [h]; exact not_lt_end) (ev_some (by simp [idxS]))
  | cons x t ih =>
    intro pre h
    have hm : ((pre.length : Nat) : Int) < (x0.length : Int) := by rw [h]; exact lt_mid
    have hg : rdOf ByteArray.empty x0 (pre.length : Int) = x := by rw [h]; exact rdOf_mid
    refine ev_succ ?_
    simp only [slices_Index_string_string.l0, hg, tl_inj]
    refine ev_pos hm (ev_pos (by omega) (ev_pos hm ?_))
    by_cases c : s = x
    · exact ev_pos c (ev_some (by simp [idxS, c]))
    · refine ev_neg c ?_
      rw [winc (by omega)]
      have := ih (pre ++ [x]) (by rw [h]; simp)
      rw [len_one] at this
      have e : idxS (x :: t) s pre.length = idxS t s (pre ++ [x]).length := by simp [idxS, Ne.symm c]
      rw [e]
      exact this
theorem slices_Index_string_string_f (l : List ByteArray) (s : ByteArray) (hl : (l.length : Int) ≤ 9223372036854775806) : Ev (fun k => slices_Index_string_string.f k l s) (idxS l s 0) := by
  unfold slices_Index_string_string.f
  exact slices_Index_string_string_l0 l s hl l [] rfl
theorem slices_Contains_string_string_f (l : List ByteArray) (s : ByteArray) (hl : (l.length : Int) ≤ 9223372036854775806) : Ev (fun k => slices_Contains_string_string.f k l s) (hasS l s) := by
  unfold slices_Contains_string_string.f
  refine ev_bind _ (slices_Index_string_string_f l s hl) (ev_some ?_)
  rw [Bool.eq_iff_iff, hasS_iff, decide_eq_true_eq]
  exact idxS_mem l s 0
end Go.Proofs.YtmehagedoaopeaaQ
namespace Go.Proofs.YtmehagedoaopeaaQ
open Go Go.RowKit Go.Proofs.YtmehagedoaopeaaW.PrintWords Go.Proofs.YtmehagedoaopeaaGp Go.Proofs.Ytmehagedoaopeaa.PR

def textsB (l : List ByteArray) : Bool := l.all isKeyB && decide ((l.length : Int) ≤ 300)
theorem textsB_len {l : List ByteArray} (h : textsB l = true) : l.length ≤ 300 := by
  simp only [textsB, Bool.and_eq_true, decide_eq_true_eq] at h
  omega
theorem spec_fiKeys_l0 (x0 : List ByteArray) (hl : (x0.length : Int) ≤ 9223372036854775806) : ∀ (t pre : List ByteArray), x0 = pre ++ t → (∀ s ∈ t, (s.size : Int) ≤ 9223372036854775806) →
    Ev (fun k => spec_fiKeys.l0 k x0 x0 (x0.length : Int) (pre.length : Int)) (t.all isKeyB && decide ((x0.length : Int) ≤ 300)) := by
  intro t
  induction t with
  | nil =>
    intro pre h hs
    refine ev_succ ?_
    simp only [spec_fiKeys.l0]
    exact ev_neg (by rw [h]; exact not_lt_end) (ev_some (by simp))
  | cons x t ih =>
    intro pre h hs
    have hm : ((pre.length : Nat) : Int) < (x0.length : Int) := by rw [h]; exact lt_mid
    have hg : rdOf ByteArray.empty x0 (pre.length : Int) = x := by rw [h]; exact rdOf_mid
    refine ev_succ ?_
    simp only [spec_fiKeys.l0, hg]
    refine ev_pos hm (ev_pos (by omega) (ev_pos hm (ev_bind _ (spec_IsKey_f x (hs x (by simp))) ?_)))
    by_cases c : isKeyB x = true
    · refine ev_pos c ?_
      rw [winc (by omega)]
      have := ih (pre ++ [x]) (by rw [h]; simp) (fun s h => hs s (by simp [h]))
      rw [len_one] at this
      simpa [c] using this
    · exact ev_neg c (ev_some (by simp [c]))
theorem spec_fiKeys_f (l : List ByteArray) (hl : (l.length : Int) ≤ 9223372036854775806) (hs : ∀ s ∈ l, (s.size : Int) ≤ 9223372036854775806) : Ev (fun k => spec_fiKeys.f k l) (textsB l) := by
  unfold spec_fiKeys.f
  exact spec_fiKeys_l0 l hl l [] rfl hs
theorem impl_areTexts_1_f (s : ByteArray) (hz : (s.size : Int) ≤ 9223372036854775806) : Ev (fun k => impl_areTexts_1.f k s) (!isKeyB s) := by
  unfold impl_areTexts_1.f
  exact ev_bind _ (impl_IsKey_f s hz) (Ev.now _)
theorem IndexFunc_areTexts_l0 (x0 : List ByteArray) (hl : (x0.length : Int) ≤ 9223372036854775806) : ∀ (t pre : List ByteArray), x0 = pre ++ t → (∀ s ∈ t, (s.size : Int) ≤ 9223372036854775806) →
    ∃ r : Int, Ev (fun k => slices_IndexFunc_string_string_at_impl_areTexts_1.l0 k x0 (x0.length : Int) (pre.length : Int)) r ∧ decide (r ≥ 0) = !(t.all isKeyB) := by
  intro t
  induction t with
  | nil =>
    intro pre h hs
    refine ⟨-1, ev_succ ?_, by simp⟩
    simp only [slices_IndexFunc_string_string_at_impl_areTexts_1.l0]
    exact ev_neg (by rw [h]; exact not_lt_end) (ev_some rfl)
  | cons x t ih =>
    intro pre h hs
    have hm : ((pre.length : Nat) : Int) < (x0.length : Int) := by rw [h]; exact lt_mid
    have hg : rdOf ByteArray.empty x0 (pre.length : Int) = x := by rw [h]; exact rdOf_mid
    by_cases c : isKeyB x = true
    · obtain ⟨r, h1, h2⟩ := ih (pre ++ [x]) (by rw [h]; simp) (fun s h => hs s (by simp [h]))
      refine ⟨r, ev_succ ?_, by simpa [c] using h2⟩
      simp only [slices_IndexFunc_string_string_at_impl_areTexts_1.l0, hg]
      refine ev_pos hm (ev_pos (by omega) (ev_pos hm (ev_bind _ (impl_areTexts_1_f x (hs x (by simp))) (ev_neg (by simp [c]) ?_))))
      rw [winc (by omega)]
      rw [len_one] at h1
      exact h1
    · refine ⟨(pre.length : Int), ev_succ ?_, by simp [c]⟩
      simp only [slices_IndexFunc_string_string_at_impl_areTexts_1.l0, hg]
      exact ev_pos hm (ev_pos (by omega) (ev_pos hm (ev_bind _ (impl_areTexts_1_f x (hs x (by simp))) (ev_pos (by simp [c]) (Ev.now _)))))
theorem impl_areTexts_f (l : List ByteArray) (hs : ∀ s ∈ l, (s.size : Int) ≤ 9223372036854775806) : Ev (fun k => impl_areTexts.f k l) (textsB l) := by
  unfold impl_areTexts.f
  by_cases c : (l.length : Int) ≤ 300
  · obtain ⟨r, h1, h2⟩ := IndexFunc_areTexts_l0 l (by omega) l [] rfl hs
    refine ev_pos c (ev_bind (!(l.all isKeyB)) ?_ (ev_some (by simp [textsB, c])))
    unfold slices_ContainsFunc_string_string_at_impl_areTexts_1.f slices_IndexFunc_string_string_at_impl_areTexts_1.f
    exact ev_bind _ h1 (ev_some h2)
  · exact ev_neg c (ev_some (by simp [textsB, c]))

def wrongL (f : ByteArray → Bool) (ks : List ByteArray) : List ByteArray → Nat → List Int
  | [], _ => []
  | s :: t, i => if hasS ks s = true then wrongL f ks t (i + 1) else if f s = true then (i : Int) :: wrongL f ks t (i + 1) else wrongL f ks t (i + 1)
theorem wrongL_len (f : ByteArray → Bool) (ks : List ByteArray) : ∀ t i, (wrongL f ks t i).length ≤ t.length
  | [], _ => by simp [wrongL]
  | s :: t, i => by
    have := wrongL_len f ks t (i + 1)
    simp only [wrongL]
    split
    · simp; omega
    · split <;> simp <;> omega
end Go.Proofs.YtmehagedoaopeaaQ
namespace Go.Proofs.YtmehagedoaopeaaQ
open Go Go.RowKit Go.Proofs.YtmehagedoaopeaaW.PrintWords Go.Proofs.YtmehagedoaopeaaGp Go.Proofs.Ytmehagedoaopeaa.PR

def topV (w : Int) : Int := shl .i64 1 w
def hiV (w : Int) : Int := wrap64 (topV w - 1)
theorem hiV_le {w : Int} (h0 : 1 ≤ w) (h1 : w ≤ 8) : hiV w ≤ 65535 := by
  have : w = 1 ∨ w = 2 ∨ w = 3 ∨ w = 4 ∨ w = 5 ∨ w = 6 ∨ w = 7 ∨ w = 8 := by omega
  rcases this with rfl | rfl | rfl | rfl | rfl | rfl | rfl | rfl <;> simp [hiV, topV, shl, IntKind.wrap, IntKind.bits, IntKind.signed, wrap64]
def allT (hi : Int) (l : List Int) : Bool := l.all (fun x => decide (0 ≤ x ∧ x ≤ hi))
def tableB (a0 n w : Int) (l : List Int) : Bool :=
  decide (0 ≤ a0 ∧ a0 ≤ 9999) && (decide (1 ≤ n ∧ n ≤ 24) && (decide (1 ≤ w ∧ w ≤ 8) && (decide ((l.length : Int) = 3 * n) && allT (hiV w) l)))
theorem tableB_ok {a0 n w : Int} {l : List Int} (h : tableB a0 n w l = true) : (0 ≤ a0 ∧ a0 ≤ 9999) ∧ (1 ≤ n ∧ n ≤ 24) ∧ (1 ≤ w ∧ w ≤ 8) ∧ (l.length : Int) = 3 * n ∧ ∀ x ∈ l, 0 ≤ x ∧ x ≤ 65535 := by
  simp only [tableB, Bool.and_eq_true, decide_eq_true_eq, allT, List.all_eq_true] at h
  refine ⟨h.1, h.2.1, h.2.2.1, h.2.2.2.1, fun x hx => ?_⟩
  have := h.2.2.2.2 x hx
  have := hiV_le h.2.2.1.1 h.2.2.1.2
  omega
theorem spec_l1All_g (hi : Int) (x0 : List Int) (hl : (x0.length : Int) ≤ 9223372036854775806) : ∀ (t pre : List Int), x0 = pre ++ t →
    Ev (fun k => spec_l1All.l0 k 0 hi x0 (x0.length : Int) (pre.length : Int)) (allT hi t) := by
  intro t
  induction t with
  | nil =>
    intro pre h
    refine ev_succ ?_
    simp only [spec_l1All.l0]
    exact ev_neg (by rw [h]; exact not_lt_end) (ev_some (by simp [allT]))
  | cons s t ih =>
    intro pre h
    have hm : ((pre.length : Nat) : Int) < (x0.length : Int) := by rw [h]; exact lt_mid
    have hg : rd x0 (pre.length : Int) = s := by rw [h]; exact rd_mid
    refine ev_succ ?_
    simp only [spec_l1All.l0, hg, spec_in]
    refine ev_pos hm (ev_pos (by omega) (ev_pos hm (ev_bind _ (Ev.now _) ?_)))
    by_cases c : 0 ≤ s ∧ s ≤ hi
    · refine ev_pos (by simpa using c) ?_
      rw [winc (by omega)]
      have := ih (pre ++ [s]) (by rw [h]; simp)
      rw [len_one] at this
      rw [show allT hi (s :: t) = allT hi t from by simp [allT, c]]
      exact this
    · refine ev_neg (by simpa using c) (ev_some ?_)
      have : decide (0 ≤ s ∧ s ≤ hi) = false := decide_eq_false c
      simp only [allT, List.all_cons, this, Bool.false_and]
theorem spec_reTable_f (a0 n w : Int) (l : List Int) (hl : (l.length : Int) ≤ 9223372036854775806) : Ev (fun k => spec_reTable.f k a0 n w l) (tableB a0 n w l) := by
  unfold spec_reTable.f spec_reWidth.f
  simp only [spec_in, Option.bind_some]
  by_cases c0 : 0 ≤ a0 ∧ a0 ≤ 9999
  · refine ev_pos (by simpa using c0) ?_
    by_cases c1 : 1 ≤ n ∧ n ≤ 24
    · refine ev_pos (by simpa using c1) ?_
      by_cases c2 : 1 ≤ w ∧ w ≤ 8
      · refine ev_pos (by simpa using c2) ?_
        rw [w64 (x := 3 * n) (by omega) (by omega)]
        by_cases c3 : (l.length : Int) = 3 * n
        · refine ev_pos c3 ?_
          have ht : spec_reTop.f w = some (topV w) := by unfold spec_reTop.f topV; rw [if_pos (by omega)]
          rw [ht]
          simp only [Option.bind_some]
          refine ev_bind (allT (hiV w) l) ?_ (ev_some (by simp [tableB, c0, c1, c2, c3]))
          unfold spec_l1All.f
          exact spec_l1All_g (hiV w) l hl l [] rfl
        · exact ev_neg c3 (ev_some (by simp [tableB, c3]))
      · refine ev_neg (by simpa using c2) (ev_some ?_)
        have : decide (1 ≤ w ∧ w ≤ 8) = false := decide_eq_false c2
        simp only [tableB, this, Bool.false_and, Bool.and_false]
    · refine ev_neg (by simpa using c1) (ev_some ?_)
      have : decide (1 ≤ n ∧ n ≤ 24) = false := decide_eq_false c1
      simp only [tableB, this, Bool.false_and, Bool.and_false]
  · refine ev_neg (by simpa using c0) (ev_some ?_)
    have : decide (0 ≤ a0 ∧ a0 ≤ 9999) = false := decide_eq_false c0
    simp only [tableB, this, Bool.false_and]
theorem impl_IsTable_1_f (x a0 n : Int) (l : List Int) {w : Int} (h : 0 ≤ w) : impl_IsTable_1.f x a0 n w l = some (!decide (0 ≤ x ∧ x ≤ hiV w)) := by
  unfold impl_IsTable_1.f
  rw [if_pos h, impl_in]
  rfl
theorem IndexFunc_IsTable_l0 (a0 n : Int) {w : Int} (hw : 0 ≤ w) (l : List Int) (x0 : List Int) (hl : (x0.length : Int) ≤ 9223372036854775806) : ∀ (t pre : List Int), x0 = pre ++ t →
    ∃ r : Int, Ev (fun k => slices_IndexFunc_int_int_at_impl_IsTable_1.l0 k x0 (x0.length : Int) (pre.length : Int) a0 n w l) r ∧ decide (r ≥ 0) = !(allT (hiV w) t) := by
  intro t
  induction t with
  | nil =>
    intro pre h
    refine ⟨-1, ev_succ ?_, by simp [allT]⟩
    simp only [slices_IndexFunc_int_int_at_impl_IsTable_1.l0]
    exact ev_neg (by rw [h]; exact not_lt_end) (ev_some rfl)
  | cons x t ih =>
    intro pre h
    have hm : ((pre.length : Nat) : Int) < (x0.length : Int) := by rw [h]; exact lt_mid
    have hg : rd x0 (pre.length : Int) = x := by rw [h]; exact rd_mid
    by_cases c : 0 ≤ x ∧ x ≤ hiV w
    · obtain ⟨r, h1, h2⟩ := ih (pre ++ [x]) (by rw [h]; simp)
      refine ⟨r, ev_succ ?_, by simpa [allT, c] using h2⟩
      simp only [slices_IndexFunc_int_int_at_impl_IsTable_1.l0, hg, impl_IsTable_1_f x a0 n l hw]
      refine ev_pos hm (ev_pos (by omega) (ev_pos hm (ev_bind _ (Ev.now _) (ev_neg (by simp [c]) ?_))))
      rw [winc (by omega)]
      rw [len_one] at h1
      exact h1
    · have hd : decide (0 ≤ x ∧ x ≤ hiV w) = false := decide_eq_false c
      refine ⟨(pre.length : Int), ev_succ ?_, by simp only [allT, List.all_cons, hd, Bool.false_and]; simp⟩
      simp only [slices_IndexFunc_int_int_at_impl_IsTable_1.l0, hg, impl_IsTable_1_f x a0 n l hw, hd]
      exact ev_pos hm (ev_pos (by omega) (ev_pos hm (ev_bind _ (Ev.now _) (ev_pos (by simp) (Ev.now _)))))
theorem impl_IsTable_f (a0 n w : Int) (l : List Int) (hl : (l.length : Int) ≤ 9223372036854775806) : Ev (fun k => impl_IsTable.f k a0 n w l) (tableB a0 n w l) := by
  unfold impl_IsTable.f impl_isSeed.f impl_segmentOk.f impl_widthOk.f
  simp only [impl_in, Option.bind_some]
  by_cases c0 : 0 ≤ a0 ∧ a0 ≤ 9999
  · refine ev_pos (by simpa using c0) ?_
    by_cases c1 : 1 ≤ n ∧ n ≤ 24
    · refine ev_pos (by simpa using c1) ?_
      by_cases c2 : 1 ≤ w ∧ w ≤ 8
      · refine ev_pos (by simpa using c2) ?_
        rw [w64 (x := 3 * n) (by omega) (by omega)]
        by_cases c3 : (l.length : Int) = 3 * n
        · refine ev_pos c3 ?_
          obtain ⟨r, h1, h2⟩ := IndexFunc_IsTable_l0 a0 n (w := w) (by omega) l l hl l [] rfl
          refine ev_bind (!(allT (hiV w) l)) ?_ (ev_some (by simp [tableB, c0, c1, c2, c3]))
          unfold slices_ContainsFunc_int_int_at_impl_IsTable_1.f slices_IndexFunc_int_int_at_impl_IsTable_1.f
          exact ev_bind _ h1 (ev_some h2)
        · exact ev_neg c3 (ev_some (by simp [tableB, c3]))
      · refine ev_neg (by simpa using c2) (ev_some ?_)
        have : decide (1 ≤ w ∧ w ≤ 8) = false := decide_eq_false c2
        simp only [tableB, this, Bool.false_and, Bool.and_false]
    · refine ev_neg (by simpa using c1) (ev_some ?_)
      have : decide (1 ≤ n ∧ n ≤ 24) = false := decide_eq_false c1
      simp only [tableB, this, Bool.false_and, Bool.and_false]
  · refine ev_neg (by simpa using c0) (ev_some ?_)
    have : decide (0 ≤ a0 ∧ a0 ≤ 9999) = false := decide_eq_false c0
    simp only [tableB, this, Bool.false_and]
end Go.Proofs.YtmehagedoaopeaaQ
namespace Go.Proofs.YtmehagedoaopeaaQ
open Go Go.RowKit Go.Proofs.YtmehagedoaopeaaW.PrintWords Go.Proofs.YtmehagedoaopeaaGp Go.Proofs.Ytmehagedoaopeaa.PR

theorem xor_zero {v : Int} (h0 : 0 ≤ v) (h1 : v ≤ 1000000) : Go.bits .xor .i64 0 v = v := by
  have e : Go.bits .xor .i64 0 v = IntKind.i64.wrap (((BitVec.ofInt 64 0 ^^^ BitVec.ofInt 64 v : BitVec 64)).toNat : Int) := by unfold Go.bits; rfl
  have z : (BitVec.ofInt 64 0 ^^^ BitVec.ofInt 64 v : BitVec 64) = BitVec.ofInt 64 v := by
    rw [show (BitVec.ofInt 64 0 : BitVec 64) = 0#64 from rfl, BitVec.zero_xor]
  have n : ((BitVec.ofInt 64 v).toNat : Int) = v := by
    rw [BitVec.toNat_ofInt]
    have : ((2 ^ 64 : Nat) : Int) = 18446744073709551616 := by decide
    rw [this]
    omega
  rw [e, z, n]
  have w : IntKind.i64.wrap v = if v % 18446744073709551616 ≥ 9223372036854775808 then v % 18446744073709551616 - 18446744073709551616 else v % 18446744073709551616 := by
    unfold IntKind.wrap
    simp [IntKind.bits, IntKind.signed]
  rw [w]
  split <;> omega
def xorL (l : List Int) (a : Int) (ps : List Int) : Int := ps.foldl (fun a p => Go.bits .xor .i64 a (rd l p)) a
theorem spec_reValue_l0 (a0 n w : Int) (l : List Int) (x20 : List Int) (hl : (x20.length : Int) ≤ 9223372036854775806) : ∀ (t pre : List Int) (a : Int), x20 = pre ++ t → (∀ p ∈ t, 0 ≤ p ∧ p < (l.length : Int)) →
    Ev (fun k => spec_reValue.l0 k a x20 (x20.length : Int) (pre.length : Int) a0 n w l) (xorL l a t) := by
  intro t
  induction t with
  | nil =>
    intro pre a e hp
    refine ev_succ ?_
    simp only [spec_reValue.l0]
    exact ev_neg (by rw [e]; exact not_lt_end) (ev_some rfl)
  | cons s t ih =>
    intro pre a e hp
    have hm : ((pre.length : Nat) : Int) < (x20.length : Int) := by rw [e]; exact lt_mid
    have hg : rd x20 (pre.length : Int) = s := by rw [e]; exact rd_mid
    obtain ⟨p0, p1⟩ := hp s (by simp)
    refine ev_succ ?_
    simp only [spec_reValue.l0, hg]
    refine ev_pos hm (ev_pos (by omega) (ev_pos hm (ev_pos p0 (ev_pos p1 ?_))))
    rw [winc (by omega)]
    have := ih (pre ++ [s]) (Go.bits .xor .i64 a (rd l s)) (by rw [e]; simp) (fun p h => hp p (by simp [h]))
    rw [len_one] at this
    exact this
def saysT (a0 n w : Int) (l : List Int) (s : ByteArray) : Bool := xorL l 0 (tripL a0 s n 3 0) == placeV a0 9 s (topV w)
theorem rd_mem {l : List Int} {p : Int} (h0 : 0 ≤ p) (h1 : p < (l.length : Int)) : rd l p ∈ l := by
  have h : p.toNat < l.length := by omega
  have e : rd l p = l[p.toNat] := by
    have := rd_get (xs := l) h
    rwa [Int.toNat_of_nonneg h0] at this
  rw [e]
  exact List.getElem_mem h
section
variable {a0 n w : Int} {l : List Int} (hB : tableB a0 n w l = true) {s : ByteArray} (hz : (s.size : Int) ≤ 9223372036854775806)
include hB hz
theorem spec_fiPrints_f : Ev (fun k => spec_fiPrints.f k a0 n w l s) (saysT a0 n w l s) := by
  obtain ⟨⟨p0, p1⟩, ⟨p2, p3⟩, ⟨p4, p5⟩, p6, p7⟩ := tableB_ok hB
  unfold spec_fiPrints.f spec_fiPrint.f spec_reTop.f spec_reValue.f
  refine ev_bind (xorL l 0 (tripL a0 s n 3 0)) (ev_bind _ (spec_peTriple_f a0 n s hz p0 (by omega)) ?_) ?_
  · exact spec_reValue_l0 a0 n w l (tripL a0 s n 3 0) (by simp [tripL]) (tripL a0 s n 3 0) [] 0 rfl (fun p h => by
      have := tripL_range a0 s p2 p3 p h
      omega)
  · rw [if_pos (show 0 ≤ w by omega)]
    simp only [Option.bind_some]
    exact ev_bind (placeV a0 9 s (topV w)) (ev_bind _ (spec_biPlace_f a0 9 s (topV w) hz p0 (by omega) (by omega) (by omega)) (Ev.now _)) (ev_some rfl)
theorem impl_Table_of_f : Ev (fun k => impl_Table_of.f k a0 n w l s) (xorL l 0 (tripL a0 s n 3 0)) := by
  obtain ⟨⟨p0, p1⟩, ⟨p2, p3⟩, ⟨p4, p5⟩, p6, p7⟩ := tableB_ok hB
  unfold impl_Table_of.f
  refine ev_bind _ (impl_threePlaces_f a0 n s hz p0 (by omega)) ?_
  have hr := tripL_range a0 s p2 p3
  generalize ht : tripL a0 s n 3 0 = T at *
  obtain ⟨x, y, z, rfl⟩ : ∃ x y z, T = [x, y, z] := ⟨_, _, _, ht.symm⟩
  have hx := hr x (by simp)
  have hy := hr y (by simp)
  have hz' := hr z (by simp)
  have hv := p7 _ (rd_mem (l := l) hx.1 (by omega))
  have e : impl_Table_value.f a0 n w l [x, y, z] = some (xorL l 0 [x, y, z]) := by
    have r0 : rd [x, y, z] 0 = x := rfl
    have r1 : rd [x, y, z] 1 = y := rfl
    have r2 : rd [x, y, z] 2 = z := rfl
    unfold impl_Table_value.f
    rw [r0, r1, r2, if_pos (by simp), if_pos hx.1, if_pos (by omega), if_pos (by simp), if_pos hy.1, if_pos (by omega), if_pos (by simp), if_pos hz'.1, if_pos (by omega)]
    simp only [xorL, List.foldl_cons, List.foldl_nil]
    rw [xor_zero hv.1 (by omega)]
  rw [e]
  exact ev_bind _ (Ev.now _) (Ev.now _)
theorem impl_Table_says_f : Ev (fun k => impl_Table_says.f k a0 n w l s) (saysT a0 n w l s) := by
  obtain ⟨⟨p0, p1⟩, ⟨p2, p3⟩, ⟨p4, p5⟩, p6, p7⟩ := tableB_ok hB
  unfold impl_Table_says.f
  refine ev_bind _ (impl_Table_of_f hB hz) (ev_pos (by omega) ?_)
  exact ev_bind (placeV a0 9 s (topV w)) (impl_place_f a0 9 s (topV w) hz p0 (by omega) (by omega) (by omega)) (ev_some rfl)
end

theorem spec_PrintFalse_l0 {a0 n w : Int} {l : List Int} (hB : tableB a0 n w l = true) (ks : List ByteArray) (hk : (ks.length : Int) ≤ 9223372036854775806) (x0 : List ByteArray) (hx : x0.length ≤ 300) : ∀ (t pre : List ByteArray) (acc : List Int), x0 = pre ++ t → (∀ s ∈ t, (s.size : Int) ≤ 9223372036854775806) → acc.length ≤ pre.length →
    Ev (fun k => spec_PrintFalse.l0 k ks acc x0 (x0.length : Int) (pre.length : Int) a0 n w l) (acc ++ wrongL (saysT a0 n w l) ks t pre.length, true) := by
  intro t
  induction t with
  | nil =>
    intro pre acc h hs ha
    refine ev_succ ?_
    simp only [spec_PrintFalse.l0]
    exact ev_neg (by rw [h]; exact not_lt_end) (ev_some (by simp [wrongL]))
  | cons x t ih =>
    intro pre acc h hs ha
    have hm : ((pre.length : Nat) : Int) < (x0.length : Int) := by rw [h]; exact lt_mid
    have hg : rdOf ByteArray.empty x0 (pre.length : Int) = x := by rw [h]; exact rdOf_mid
    have e : wrongL (saysT a0 n w l) ks (x :: t) pre.length = if hasS ks x = true then wrongL (saysT a0 n w l) ks t (pre ++ [x]).length else if saysT a0 n w l x = true then (pre.length : Int) :: wrongL (saysT a0 n w l) ks t (pre ++ [x]).length else wrongL (saysT a0 n w l) ks t (pre ++ [x]).length := by simp [wrongL]
    have hI := fun acc ha => ih (pre ++ [x]) acc (by rw [h]; simp) (fun s h => hs s (by simp [h])) ha
    rw [e]
    refine ev_succ ?_
    simp only [spec_PrintFalse.l0, hg]
    refine ev_pos hm (ev_pos (by omega) (ev_pos hm (ev_bind _ (spec_l1HasS_f ks x hk) ?_)))
    rw [winc (by omega), ← len_one]
    by_cases c : hasS ks x = true
    · rw [if_pos c]
      exact ev_pos c (hI acc (by simp; omega))
    · rw [if_neg c]
      refine ev_neg c (ev_bind _ (spec_fiPrints_f hB (hs x (by simp))) ?_)
      by_cases c2 : saysT a0 n w l x = true
      · rw [if_pos c2]
        refine ev_pos c2 (ev_pos (by omega) ?_)
        have := hI (acc ++ [(pre.length : Int)]) (by simp; omega)
        rw [List.append_assoc] at this
        exact this
      · rw [if_neg c2]
        exact ev_neg c2 (hI acc (by simp; omega))
theorem impl_wrongT_l0 {a0 n w : Int} {l : List Int} (hB : tableB a0 n w l = true) (ks : List ByteArray) (hk : (ks.length : Int) ≤ 9223372036854775806) (x0 : List ByteArray) (hx : x0.length ≤ 300) : ∀ (t pre : List ByteArray) (acc : List Int), x0 = pre ++ t → (∀ s ∈ t, (s.size : Int) ≤ 9223372036854775806) → acc.length ≤ pre.length →
    Ev (fun k => impl_wrong_at_impl_Table_says.l0 k ks acc x0 (x0.length : Int) (pre.length : Int) a0 n w l) (acc ++ wrongL (saysT a0 n w l) ks t pre.length) := by
  intro t
  induction t with
  | nil =>
    intro pre acc h hs ha
    refine ev_succ ?_
    simp only [impl_wrong_at_impl_Table_says.l0]
    exact ev_neg (by rw [h]; exact not_lt_end) (ev_some (by simp [wrongL]))
  | cons x t ih =>
    intro pre acc h hs ha
    have hm : ((pre.length : Nat) : Int) < (x0.length : Int) := by rw [h]; exact lt_mid
    have hg : rdOf ByteArray.empty x0 (pre.length : Int) = x := by rw [h]; exact rdOf_mid
    have e : wrongL (saysT a0 n w l) ks (x :: t) pre.length = if hasS ks x = true then wrongL (saysT a0 n w l) ks t (pre ++ [x]).length else if saysT a0 n w l x = true then (pre.length : Int) :: wrongL (saysT a0 n w l) ks t (pre ++ [x]).length else wrongL (saysT a0 n w l) ks t (pre ++ [x]).length := by simp [wrongL]
    have hI := fun acc ha => ih (pre ++ [x]) acc (by rw [h]; simp) (fun s h => hs s (by simp [h])) ha
    rw [e]
    refine ev_succ ?_
    simp only [impl_wrong_at_impl_Table_says.l0, hg]
    refine ev_pos hm (ev_pos (by omega) (ev_pos hm (ev_bind _ (slices_Contains_string_string_f ks x hk) ?_)))
    rw [winc (by omega), ← len_one]
    by_cases c : hasS ks x = true
    · rw [if_pos c]
      exact ev_pos c (hI acc (by simp; omega))
    · rw [if_neg c]
      refine ev_neg c (ev_bind _ (impl_Table_says_f hB (hs x (by simp))) ?_)
      by_cases c2 : saysT a0 n w l x = true
      · rw [if_pos c2]
        refine ev_pos c2 (ev_pos (by omega) ?_)
        have := hI (acc ++ [(pre.length : Int)]) (by simp; omega)
        rw [List.append_assoc] at this
        exact this
      · rw [if_neg c2]
        exact ev_neg c2 (hI acc (by simp; omega))
def printFalseV (a0 n w : Int) (l : List Int) (ks ts : List ByteArray) : List Int × Bool :=
  if (tableB a0 n w l && (areKeysB ks && textsB ts)) = true then (wrongL (saysT a0 n w l) ks ts 0, true) else ([], false)
theorem printFalseV_len (a0 n w : Int) (l : List Int) (ks ts : List ByteArray) : (printFalseV a0 n w l ks ts).1.length ≤ 300 := by
  unfold printFalseV
  split
  · rename_i h
    rw [Bool.and_eq_true, Bool.and_eq_true] at h
    have := textsB_len h.2.2
    have := wrongL_len (saysT a0 n w l) ks ts 0
    simp only
    omega
  · simp
section
variable (a0 n w : Int) (l : List Int) (ks ts : List ByteArray) (hk : (ks.length : Int) ≤ 9223372036854775806) (hks : ∀ s ∈ ks, (s.size : Int) ≤ 9223372036854775806) (hts : ∀ s ∈ ts, (s.size : Int) ≤ 9223372036854775806) (hl : (l.length : Int) ≤ 9223372036854775806)
include hk hks hts hl
theorem spec_PrintFalse_f (ht : (ts.length : Int) ≤ 9223372036854775806) : Ev (fun k => spec_PrintFalse.f k a0 n w l ks ts) (printFalseV a0 n w l ks ts) := by
  unfold spec_PrintFalse.f
  refine ev_bind _ (spec_reTable_f a0 n w l hl) ?_
  by_cases c : tableB a0 n w l = true
  · refine ev_pos c (ev_bind _ (spec_biKeys_f ks hk hks) ?_)
    by_cases c2 : areKeysB ks = true
    · refine ev_pos c2 (ev_bind _ (spec_fiKeys_f ts ht hts) (ev_succ ?_))
      simp only [spec_PrintFalse.j0]
      by_cases c3 : textsB ts = true
      · refine ev_neg (by simp [c3]) ?_
        have := spec_PrintFalse_l0 c ks hk ts (textsB_len c3) ts [] [] rfl hts (by simp)
        simpa [printFalseV, c, c2, c3] using this
      · exact ev_pos (by simp [c3]) (ev_some (by simp [printFalseV, c3]))
    · refine ev_neg c2 (ev_succ ?_)
      simp only [spec_PrintFalse.j0]
      exact ev_pos (by trivial) (ev_some (by simp [printFalseV, c2]))
  · refine ev_neg c (ev_succ ?_)
    simp only [spec_PrintFalse.j0]
    exact ev_pos (by trivial) (ev_some (by simp [printFalseV, c]))
theorem impl_PrintFalse_f : Ev (fun k => impl_PrintFalse.f k a0 n w l ks ts) (printFalseV a0 n w l ks ts) := by
  unfold impl_PrintFalse.f
  refine ev_bind _ (impl_IsTable_f a0 n w l hl) ?_
  by_cases c : tableB a0 n w l = true
  · refine ev_pos c (ev_bind _ (impl_AreKeys_f ks hk hks) ?_)
    by_cases c2 : areKeysB ks = true
    · refine ev_pos c2 (ev_bind _ (impl_areTexts_f ts hts) ?_)
      by_cases c3 : textsB ts = true
      · refine ev_pos c3 (ev_bind (wrongL (saysT a0 n w l) ks ts 0) ?_ (ev_some (by simp [printFalseV, c, c2, c3])))
        unfold impl_wrong_at_impl_Table_says.f
        have := impl_wrongT_l0 c ks hk ts (textsB_len c3) ts [] [] rfl hts (by simp)
        exact this
      · exact ev_neg c3 (ev_some (by simp [printFalseV, c3]))
    · exact ev_neg c2 (ev_some (by simp [printFalseV, c2]))
  · exact ev_neg c (ev_some (by simp [printFalseV, c]))
end
end Go.Proofs.YtmehagedoaopeaaQ
namespace Go.Proofs.YtmehagedoaopeaaQ
open Go Go.RowKit Go.Proofs.YtmehagedoaopeaaW.PrintWords Go.Proofs.YtmehagedoaopeaaW.PrintMore Go.Proofs.YtmehagedoaopeaaGp Go.Proofs.Ytmehagedoaopeaa.PR

theorem ofInt_nat {a : Int} (h0 : 0 ≤ a) (h1 : a ≤ 65535) : (BitVec.ofInt 64 a).toNat = a.toNat := by
  have : ((BitVec.ofInt 64 a).toNat : Int) = a := by
    rw [BitVec.toNat_ofInt]
    have : ((2 ^ 64 : Nat) : Int) = 18446744073709551616 := by decide
    rw [this]
    omega
  omega
theorem xorN {a b : Int} (ha : 0 ≤ a) (ha' : a ≤ 65535) (hb : 0 ≤ b) (hb' : b ≤ 65535) : Go.bits .xor .i64 a b = ((a.toNat ^^^ b.toNat : Nat) : Int) := by
  have e : Go.bits .xor .i64 a b = IntKind.i64.wrap (((BitVec.ofInt 64 a ^^^ BitVec.ofInt 64 b : BitVec 64)).toNat : Int) := by unfold Go.bits; rfl
  have hlt : a.toNat ^^^ b.toNat < 2 ^ 16 := Nat.xor_lt_two_pow (by omega) (by omega)
  rw [e, BitVec.toNat_xor, ofInt_nat ha ha', ofInt_nat hb hb']
  generalize a.toNat ^^^ b.toNat = v at *
  have w : IntKind.i64.wrap (v : Int) = if (v : Int) % 18446744073709551616 ≥ 9223372036854775808 then (v : Int) % 18446744073709551616 - 18446744073709551616 else (v : Int) % 18446744073709551616 := by
    unfold IntKind.wrap
    simp [IntKind.bits, IntKind.signed]
  rw [w]
  split <;> omega
theorem hiV_pow {w : Int} (h0 : 1 ≤ w) (h1 : w ≤ 8) : hiV w = ((2 ^ w.toNat : Nat) : Int) - 1 := by
  have : w = 1 ∨ w = 2 ∨ w = 3 ∨ w = 4 ∨ w = 5 ∨ w = 6 ∨ w = 7 ∨ w = 8 := by omega
  rcases this with rfl | rfl | rfl | rfl | rfl | rfl | rfl | rfl <;> simp [hiV, topV, shl, IntKind.wrap, IntKind.bits, IntKind.signed, wrap64]
theorem topV_hi {w : Int} (h0 : 1 ≤ w) (h1 : w ≤ 8) : topV w = hiV w + 1 ∧ 1 ≤ topV w ∧ topV w ≤ 65536 := by
  have : w = 1 ∨ w = 2 ∨ w = 3 ∨ w = 4 ∨ w = 5 ∨ w = 6 ∨ w = 7 ∨ w = 8 := by omega
  rcases this with rfl | rfl | rfl | rfl | rfl | rfl | rfl | rfl <;> simp [hiV, topV, shl, IntKind.wrap, IntKind.bits, IntKind.signed, wrap64]
theorem xor_hi {w a b : Int} (h0 : 1 ≤ w) (h1 : w ≤ 8) (ha : 0 ≤ a ∧ a ≤ hiV w) (hb : 0 ≤ b ∧ b ≤ hiV w) : 0 ≤ Go.bits .xor .i64 a b ∧ Go.bits .xor .i64 a b ≤ hiV w := by
  have hh := hiV_le h0 h1
  have hp := hiV_pow h0 h1
  rw [xorN ha.1 (by omega) hb.1 (by omega)]
  have hlt : a.toNat ^^^ b.toNat < 2 ^ w.toNat := Nat.xor_lt_two_pow (by omega) (by omega)
  omega
theorem xor3 {m : List Int} {x y z : Int} (hx : 0 ≤ rd m x ∧ rd m x ≤ 65535) (hy : 0 ≤ rd m y ∧ rd m y ≤ 65535) (hz : 0 ≤ rd m z ∧ rd m z ≤ 65535) : xorL m 0 [x, y, z] = (((rd m x).toNat ^^^ (rd m y).toNat ^^^ (rd m z).toNat : Nat) : Int) := by
  have h1 : (rd m x).toNat ^^^ (rd m y).toNat < 2 ^ 16 := Nat.xor_lt_two_pow (by omega) (by omega)
  simp only [xorL, List.foldl_cons, List.foldl_nil]
  rw [xor_zero hx.1 (by omega), xorN hx.1 hx.2 hy.1 hy.2, xorN (by omega) (by omega) hz.1 hz.2, Int.toNat_natCast]
theorem nx1 (v b c : Nat) : (v ^^^ (0 ^^^ b ^^^ c)) ^^^ b ^^^ c = v := by
  apply Nat.eq_of_testBit_eq
  intro i
  simp only [Nat.testBit_xor, Nat.zero_testBit]
  cases v.testBit i <;> cases b.testBit i <;> cases c.testBit i <;> rfl
theorem nx2 (v a c : Nat) : a ^^^ (v ^^^ (a ^^^ 0 ^^^ c)) ^^^ c = v := by
  apply Nat.eq_of_testBit_eq
  intro i
  simp only [Nat.testBit_xor, Nat.zero_testBit]
  cases v.testBit i <;> cases a.testBit i <;> cases c.testBit i <;> rfl
theorem nx3 (v a b : Nat) : a ^^^ b ^^^ (v ^^^ (a ^^^ b ^^^ 0)) = v := by
  apply Nat.eq_of_testBit_eq
  intro i
  simp only [Nat.testBit_xor, Nat.zero_testBit]
  cases v.testBit i <;> cases a.testBit i <;> cases b.testBit i <;> rfl
def vX (E : Edges) (V : List Int) (m : List Int) (s : Nat × Int) : Int := Go.bits .xor .i64 (rd V (s.1 : Int)) (xorL m 0 (edg E s.1))
def vI (E : Edges) (V : List Int) (m : List Int) (s : Nat × Int) : Int := Go.bits .xor .i64 (rd V (s.1 : Int)) (impl_TableByPeeling.sum (m.set s.2.toNat 0) (edg E s.1))
section
variable {a0 n w : Int} {l : List ByteArray} {V : List Int}
theorem tbl_step (h0 : 1 ≤ n) (h1 : n ≤ 24) (w0 : 1 ≤ w) (w1 : w ≤ 8) {m : List Int} {s : Nat × Int} (hm : (m.length : Int) = 3 * n) (hR : InR 0 (hiV w) m) (hV : 0 ≤ rd V (s.1 : Int) ∧ rd V (s.1 : Int) ≤ hiV w) (hi : s.1 < l.length) (hp : s.2 ∈ edg (hypE a0 n l) s.1) (hz : rd m s.2 = 0) :
    vI (hypE a0 n l) V m s = vX (hypE a0 n l) V m s ∧ (0 ≤ vX (hypE a0 n l) V m s ∧ vX (hypE a0 n l) V m s ≤ hiV w) ∧
      xorL (m.set s.2.toNat (vX (hypE a0 n l) V m s)) 0 (edg (hypE a0 n l) s.1) = rd V (s.1 : Int) := by
  obtain ⟨x, y, z, e, _, g0, g1, g2, g3⟩ := hyp_edge a0 h0 h1 hi
  rw [e] at hp
  have hh := hiV_le w0 w1
  have hpr : 0 ≤ s.2 ∧ s.2 < (m.length : Int) := by
    simp only [List.mem_cons, List.not_mem_nil, or_false] at hp
    omega
  have b1 := hR x (by omega) (by omega)
  have b2 := hR y (by omega) (by omega)
  have b3 := hR z (by omega) (by omega)
  have e3 := xor3 (m := m) (x := x) (y := y) (z := z) (by omega) (by omega) (by omega)
  have x12 := xor_hi w0 w1 b1 b2
  have hs : impl_TableByPeeling.sum m [x, y, z] = xorL m 0 [x, y, z] := by
    have r0 : rd [x, y, z] 0 = x := rfl
    have r1 : rd [x, y, z] 1 = y := rfl
    have r2 : rd [x, y, z] 2 = z := rfl
    unfold impl_TableByPeeling.sum
    simp only [xorL, List.foldl_cons, List.foldl_nil, r0, r1, r2]
    rw [xor_zero b1.1 (by omega)]
  have hx3 : 0 ≤ xorL m 0 [x, y, z] ∧ xorL m 0 [x, y, z] ≤ hiV w := by
    rw [← hs]
    unfold impl_TableByPeeling.sum
    exact xor_hi w0 w1 x12 b3
  have hv : vX (hypE a0 n l) V m s = Go.bits .xor .i64 (rd V (s.1 : Int)) (xorL m 0 [x, y, z]) := by unfold vX; rw [e]
  have hvr : 0 ≤ vX (hypE a0 n l) V m s ∧ vX (hypE a0 n l) V m s ≤ hiV w := by rw [hv]; exact xor_hi w0 w1 hV hx3
  refine ⟨?_, hvr, ?_⟩
  · unfold vI vX
    rw [e, set_same hpr.1 hpr.2 hz, hs]
  · have hN : vX (hypE a0 n l) V m s = (((rd V (s.1 : Int)).toNat ^^^ ((rd m x).toNat ^^^ (rd m y).toNat ^^^ (rd m z).toNat) : Nat) : Int) := by
      rw [hv, xorN hV.1 (by omega) hx3.1 (by omega), e3, Int.toNat_natCast]
    generalize vX (hypE a0 n l) V m s = v at *
    have hR' : InR 0 (hiV w) (m.set s.2.toNat v) := hR.set hpr.1 hvr
    have hlen : ((m.set s.2.toNat v).length : Int) = 3 * n := by rw [List.length_set]; exact hm
    have c1 := hR' x (by omega) (by omega)
    have c2 := hR' y (by omega) (by omega)
    have c3 := hR' z (by omega) (by omega)
    rw [e, xor3 (by omega) (by omega) (by omega)]
    simp only [List.mem_cons, List.not_mem_nil, or_false] at hp
    rcases hp with h | h | h
    · rw [h] at hz hpr ⊢
      rw [rd_set_eq hpr.1 hpr.2, rd_set_ne hpr.1 (by omega) (by omega), rd_set_ne hpr.1 (by omega) (by omega), hN, hz, Int.toNat_natCast, show (0 : Int).toNat = 0 from rfl, nx1]
      omega
    · rw [h] at hz hpr ⊢
      rw [rd_set_eq hpr.1 hpr.2, rd_set_ne hpr.1 (by omega) (by omega), rd_set_ne hpr.1 (by omega) (by omega), hN, hz, Int.toNat_natCast, show (0 : Int).toNat = 0 from rfl, nx2]
      omega
    · rw [h] at hz hpr ⊢
      rw [rd_set_eq hpr.1 hpr.2, rd_set_ne hpr.1 (by omega) (by omega), rd_set_ne hpr.1 (by omega) (by omega), hN, hz, Int.toNat_natCast, show (0 : Int).toNat = 0 from rfl, nx3]
      omega
def cell0 (n : Int) : List Int := List.replicate (3 * n).toNat 0
def stepsT (a0 n : Int) (l : List ByteArray) : List (Nat × Int) := (peelAll (3 * n).toNat (hypE a0 n l)).1
def cellsV (a0 n : Int) (l : List ByteArray) (V : List Int) : List Int := fillB (vX (hypE a0 n l) V) (stepsT a0 n l) (cell0 n)
theorem cell0_len (h0 : 1 ≤ n) : ((cell0 n).length : Int) = 3 * n := by simp [cell0]; omega
theorem cellsV_len : (cellsV a0 n l V).length = (3 * n).toNat := by rw [cellsV, fillB_len]; simp [cell0]
theorem edgT_lt {i : Nat} {p : Int} (hp : p ∈ edg (hypE a0 n l) i) : i < l.length := by
  by_cases hi : i < l.length
  · exact hi
  · unfold edg at hp
    rw [List.getD_eq_getElem?_getD, List.getElem?_eq_none (by rw [hypE_len]; omega)] at hp
    simp at hp
theorem cellE (h0 : 1 ≤ n) (h1 : n ≤ 24) : ∀ i, ∀ p ∈ edg (hypE a0 n l) i, 0 ≤ p ∧ p < ((cell0 n).length : Int) := fun i p hp => by
  rw [cell0_len h0]
  obtain ⟨x, y, z, e, _, g0, g1, g2, g3⟩ := hyp_edge a0 h0 h1 (edgT_lt hp)
  rw [e] at hp
  simp only [List.mem_cons, List.not_mem_nil, or_false] at hp
  omega
theorem cellZ (h0 : 1 ≤ n) (h1 : n ≤ 24) : ∀ i, ∀ p ∈ edg (hypE a0 n l) i, rd (cell0 n) p = 0 := fun i p hp => by
  obtain ⟨q0, q1⟩ := cellE h0 h1 i p hp
  exact rd_rep q0 (by simpa [cell0] using q1)
theorem foldl_same {f g : Int → Int → Int} (e : List Int) : ∀ (a : Int), (∀ p ∈ e, ∀ x, f x p = g x p) → e.foldl f a = e.foldl g a := by
  induction e with
  | nil => intro a _; rfl
  | cons p t ih =>
    intro a h
    rw [List.foldl_cons, List.foldl_cons, h p (by simp)]
    exact ih _ (fun q hq => h q (by simp [hq]))
theorem xorL_congr {m m' : List Int} (e : List Int) (a : Int) (h : ∀ p ∈ e, rd m p = rd m' p) : xorL m a e = xorL m' a e := by
  unfold xorL
  exact foldl_same e a (fun p hp x => by rw [h p hp])
theorem tbl_both (h0 : 1 ≤ n) (h1 : n ≤ 24) (w0 : 1 ≤ w) (w1 : w ≤ 8) (hV : InR 0 (hiV w) V) (hl : V.length = l.length) : fillB (vI (hypE a0 n l) V) (stepsT a0 n l) (cell0 n) = cellsV a0 n l V ∧ InR 0 (hiV w) (cellsV a0 n l V) ∧
    ∀ s ∈ stepsT a0 n l, xorL (cellsV a0 n l V) 0 (edg (hypE a0 n l) s.1) = rd V (s.1 : Int) := by
  have hK : KeySteps a0 n l (stepsT a0 n l) := key_steps a0 n l
  have hh : 0 ≤ hiV w := by have := topV_hi w0 w1; omega
  have hR0 : InR 0 (hiV w) (cell0 n) := InR.rep _ (by omega)
  have hml := cell0_len h0
  have hVi : ∀ {i : Nat}, i < l.length → 0 ≤ rd V (i : Int) ∧ rd V (i : Int) ≤ hiV w := fun hi => hV _ (by omega) (by omega)
  have c1 := fillB_congr (vI (hypE a0 n l) V) (vX (hypE a0 n l) V) (cell0 n) (cellE h0 h1) (InR 0 (hiV w)) hR0 (fun m s hm hR hp hz => by
    obtain ⟨e1, e2, _⟩ := tbl_step (w := w) (V := V) h0 h1 w0 w1 (by rw [hm]; exact hml) hR (hVi (edgT_lt hp)) (edgT_lt hp) hp (hz.trans (cellZ h0 h1 _ _ hp))
    exact ⟨e1, hR.set (cellE h0 h1 _ _ hp).1 (by rw [e1]; exact e2)⟩) _ _ hK.ok
  have c2 := fillB_good (E := hypE a0 n l) (vX (hypE a0 n l) V) (fun m i => xorL m 0 (edg (hypE a0 n l) i) = rd V (i : Int)) (cell0 n) (cellE h0 h1) (fun m m' i hc hG => by
    rw [← xorL_congr _ _ hc]; exact hG) (InR 0 (hiV w)) hR0 (fun m s hm hR hp hz => by
    obtain ⟨_, e2, e3⟩ := tbl_step (w := w) (V := V) h0 h1 w0 w1 (by rw [hm]; exact hml) hR (hVi (edgT_lt hp)) (edgT_lt hp) hp (hz.trans (cellZ h0 h1 _ _ hp))
    exact ⟨hR.set (cellE h0 h1 _ _ hp).1 e2, e3⟩) _ _ hK.ok
  exact ⟨c1.1, c2.1, c2.2⟩
theorem cells_table (c : keyedB a0 l n = true) (w0 : 1 ≤ w) (w1 : w ≤ 8) (hV : InR 0 (hiV w) V) (hl : V.length = l.length) : tableB a0 n w (cellsV a0 n l V) = true := by
  obtain ⟨ha, _, h0, h1⟩ := keyedB_ok c
  have hR := (tbl_both (a0 := a0) h0 h1 w0 w1 hV hl).2.1
  have hlen : (cellsV a0 n l V).length = (3 * n).toNat := cellsV_len
  unfold tableB
  rw [decide_eq_true ha, decide_eq_true ⟨h0, h1⟩, decide_eq_true ⟨w0, w1⟩, decide_eq_true (by omega)]
  simp only [Bool.true_and]
  unfold allT
  rw [List.all_eq_true]
  intro x hx
  obtain ⟨i, hi, rfl⟩ := List.mem_iff_getElem.1 hx
  have := hR (i : Int) (by omega) (by omega)
  rw [rd_get hi] at this
  simpa using this
theorem cells_value (c : keyedB a0 l n = true) (w0 : 1 ≤ w) (w1 : w ≤ 8) (hV : InR 0 (hiV w) V) (hl : V.length = l.length) (hp : (coreE (3 * n).toNat (hypE a0 n l)).length = 0) {i : Nat} (hi : i < l.length) : xorL (cellsV a0 n l V) 0 (tripL a0 l[i] n 3 0) = rd V (i : Int) := by
  obtain ⟨ha, _, h0, h1⟩ := keyedB_ok c
  obtain ⟨s, hs, rfl⟩ := key_takes (n := n) (a0 := a0) (l := l) (by simp [peelsB, hp]) hi
  obtain ⟨x, y, z, e, e2, _⟩ := hyp_edge a0 h0 h1 hi
  rw [← e2]
  exact (tbl_both (a0 := a0) h0 h1 w0 w1 hV hl).2.2 s hs
def buildT (a0 n w : Int) (l : List ByteArray) (V : List Int) : Int × Int × Int × List Int × Bool := if (coreE (3 * n).toNat (hypE a0 n l)).length = 0 then (a0, n, w, cellsV a0 n l V, true) else (0, 0, 0, [], false)
theorem tbl_l0 (h0 : 1 ≤ n) (h1 : n ≤ 24) (w0 : 1 ≤ w) (w1 : w ≤ 8) (hV : InR 0 (hiV w) V) (hlV : V.length = l.length) (hl : l.length ≤ 40) (ix hP o0 o1 o2 : Int) : impl_TableByPeeling.l0 (stepsL (stepsT a0 n l)) ix V hP (hypE a0 n l) o0 o1 o2 (cell0 n) = some (o0, o1, o2, cellsV a0 n l V, true) := by
  have hK : KeySteps a0 n l (stepsT a0 n l) := key_steps a0 n l
  have hml := cell0_len h0
  have hg : (stepsL (stepsT a0 n l)).all (impl_TableByPeeling.ok (hypE a0 n l) V (cell0 n).length) = true := by
    rw [List.all_eq_true]
    intro s hs
    obtain ⟨q, hq, rfl⟩ := List.mem_map.1 hs
    obtain ⟨g0, g1⟩ := hK.rng q hq
    obtain ⟨x, y, z, e, _, q0, q1, q2, q3⟩ := hyp_edge a0 h0 h1 g0
    have r0 : rd [x, y, z] 0 = x := rfl
    have r1 : rd [x, y, z] 1 = y := rfl
    have r2 : rd [x, y, z] 2 = z := rfl
    have hpr : 0 ≤ q.2 ∧ q.2 < 3 * n := by
      rw [e] at g1
      simp only [List.mem_cons, List.not_mem_nil, or_false] at g1
      omega
    simp only [impl_TableByPeeling.ok, impl_TableByPeeling.in3, mkS118, rd_edge, e, r0, r1, r2, hypE_len, List.length_cons, List.length_nil, Bool.and_eq_true, decide_eq_true_eq]
    exact ⟨decide_eq_true (by omega), decide_eq_true (by omega), decide_eq_true (by omega), by omega, by omega, decide_eq_true (by omega)⟩
  have hlen : (stepsL (stepsT a0 n l)).length = (stepsT a0 n l).length := by simp [stepsL]
  have hkl := hK.len
  unfold impl_TableByPeeling.l0
  rw [if_pos ⟨hg, by omega, by omega⟩]
  have hf : (stepsL (stepsT a0 n l)).foldr (fun s m => impl_TableByPeeling.step (hypE a0 n l) V m s) (cell0 n) = fillB (vI (hypE a0 n l) V) (stepsT a0 n l) (cell0 n) := by
    unfold stepsL fillB
    rw [List.foldr_map]
    congr 1
    funext s m
    simp only [impl_TableByPeeling.step, mkS118, rd_edge, List.set_set, vI]
  rw [hf, (tbl_both (a0 := a0) h0 h1 w0 w1 hV hlV).1]
theorem valuesOk_l0 (w0 : 0 ≤ w) (x0 : List Int) (hl : (x0.length : Int) ≤ 1000000) : ∀ (t pre : List Int), x0 = pre ++ t → (∀ x ∈ t, 0 ≤ x ∧ x ≤ hiV w) →
    Ev (fun k => slices_IndexFunc_int_int_at_impl_valuesOk_1.l0 k x0 (x0.length : Int) (pre.length : Int) w) (-1) := by
  intro t
  induction t with
  | nil =>
    intro pre h _
    refine ev_succ ?_
    simp only [slices_IndexFunc_int_int_at_impl_valuesOk_1.l0]
    exact ev_neg (by rw [h]; exact not_lt_end) (Ev.now _)
  | cons x t ih =>
    intro pre h hx
    have hm : ((pre.length : Nat) : Int) < (x0.length : Int) := by rw [h]; exact lt_mid
    have hg : rd x0 (pre.length : Int) = x := by rw [h]; exact rd_mid
    have e1 : impl_valuesOk_1.f x w = some false := by
      unfold impl_valuesOk_1.f
      rw [if_pos w0, impl_in, show wrap64 (shl .i64 1 w - 1) = hiV w from rfl, decide_eq_true (hx x (by simp))]; rfl
    have next := ih (pre ++ [x]) (by rw [h]; simp) (fun y hy => hx y (by simp [hy]))
    rw [len_one] at next
    refine ev_succ ?_
    simp only [slices_IndexFunc_int_int_at_impl_valuesOk_1.l0, hg, e1]
    rw [winc (by omega)]
    exact ev_pos hm (ev_pos (by omega) (ev_pos hm (ev_bind _ (Ev.now _) (ev_neg (by simp) next))))
theorem impl_valuesOk_f (w0 : 1 ≤ w) (w1 : w ≤ 8) (hV : InR 0 (hiV w) V) (hlV : V.length = l.length) (hl : l.length ≤ 1000) (hz : ∀ s ∈ l, s.size ≤ 1000) : Ev (fun k => impl_valuesOk.f k a0 l V n w) (keyedB a0 l n) := by
  have h1 := valuesOk_l0 (w := w) (by omega) V (by omega) V [] rfl (fun x hx => by
    obtain ⟨i, hi, rfl⟩ := List.mem_iff_getElem.1 hx
    have := hV (i : Int) (by omega) (by omega)
    rw [rd_get hi] at this
    exact this)
  have ek := impl_AreKeys_f l (by omega) (fun s hs => by have := hz s hs; omega)
  unfold impl_valuesOk.f keyedB slices_ContainsFunc_int_int_at_impl_valuesOk_1.f slices_IndexFunc_int_int_at_impl_valuesOk_1.f impl_widthOk.f
  rw [impl_isSeedP_f, impl_segmentOk_f, impl_in]
  refine ev_bind _ (Ev.now _) ?_
  by_cases c1 : 0 ≤ a0 ∧ a0 ≤ 9999
  · rw [decide_eq_true c1]
    refine ev_pos rfl (ev_bind _ ek ?_)
    by_cases c2 : areKeysB l = true
    · rw [c2]
      refine ev_pos rfl (ev_bind _ (Ev.now _) ?_)
      by_cases c3 : 1 ≤ n ∧ n ≤ 24
      · rw [decide_eq_true c3]
        exact ev_pos rfl (ev_bind true (ev_some (by simp; omega)) (ev_pos rfl (ev_pos (by omega) (ev_bind _ (ev_bind _ h1 (Ev.now _)) (ev_some (by simp))))))
      · rw [decide_eq_false c3]
        exact ev_neg (by simp) (ev_some (by simp))
    · rw [Bool.eq_false_iff.2 c2]
      exact ev_neg (by simp) (ev_some (by simp))
  · rw [decide_eq_false c1]
    exact ev_neg (by simp) (ev_some (by simp))
theorem impl_TableByPeeling_f (w0 : 1 ≤ w) (w1 : w ≤ 8) (hV : InR 0 (hiV w) V) (hlV : V.length = l.length) (hl : l.length ≤ 1000) (hz : ∀ s ∈ l, s.size ≤ 1000) : Ev (fun k => impl_TableByPeeling.f k a0 l V n w) (if keyedB a0 l n = true then buildT a0 n w l V else (0, 0, 0, [], false)) := by
  have hv := impl_valuesOk_f (a0 := a0) (n := n) w0 w1 hV hlV hl hz
  unfold impl_TableByPeeling.f
  refine ev_bind _ hv ?_
  by_cases c : keyedB a0 l n = true
  · obtain ⟨ha, hk, h0, h1⟩ := keyedB_ok c
    have hl40 := (keys_small hk).1
    rw [if_pos c]
    refine ev_pos c (ev_bind _ (impl_hyper_f ha.1 (by omega) (by omega) (by omega) hl hz) (ev_bind _ (impl_order_f (hyp_good a0 h0 h1 hl40)) ?_))
    unfold buildT
    by_cases c3 : (coreE (3 * n).toNat (hypE a0 n l)).length = 0
    · rw [if_pos c3]
      exact ev_pos (by simp [c3]) (ev_pos (by omega) (ev_pos (by omega) (ev_some' (tbl_l0 h0 h1 w0 w1 hV hlV hl40 _ _ a0 n w))))
    · rw [if_neg c3]
      exact ev_neg (by simpa using c3) (Ev.now _)
  · rw [if_neg c]
    exact ev_neg c (Ev.now _)

theorem spec_tbl_l0 (ha : 0 ≤ a0 ∧ a0 ≤ 9999) (h0 : 1 ≤ n) (h1 : n ≤ 24) (hlV : V.length = l.length) (hz : ∀ s ∈ l, s.size ≤ 1000) {xs : List (Nat × Int)} (hx : xs.length ≤ 1000) (hr : ∀ s ∈ xs, s.1 < l.length ∧ s.2 ∈ edg (hypE a0 n l) s.1) : ∀ j, j ≤ xs.length →
    Ev (fun k => spec_rePeeled.l0 k l V (stepsL xs) ((j : Int) - 1) a0 n w (fillB (vX (hypE a0 n l) V) (xs.drop j) (cell0 n))) (a0, n, w, fillB (vX (hypE a0 n l) V) xs (cell0 n), true) := by
  intro j
  induction j with
  | zero =>
    intro _
    refine ev_succ ?_
    simp only [spec_rePeeled.l0, List.drop_zero]
    exact ev_neg (by omega) (Ev.now _)
  | succ j ih =>
    intro hj
    have hs := hr xs[j] (List.getElem_mem (by omega))
    obtain ⟨x, y, z, e, e2, g0, g1, g2, g3⟩ := hyp_edge a0 h0 h1 hs.1
    have hml : (fillB (vX (hypE a0 n l) V) (xs.drop (j + 1)) (cell0 n)).length = (cell0 n).length := fillB_len _ _ _
    have hm0 := cell0_len h0
    have hpr := cellE h0 h1 _ _ hs.2
    have next := ih (by omega)
    have hd : xs.drop j = xs[j] :: xs.drop (j + 1) := List.drop_eq_getElem_cons (by omega)
    rw [hd, fillB_cons] at next
    generalize fillB (vX (hypE a0 n l) V) (xs.drop (j + 1)) (cell0 n) = m at hml next ⊢
    have hsz := hz l[(xs[j]).1] (List.getElem_mem hs.1)
    have hval : Ev (fun k => spec_reValue.f k a0 n w m (rdOf ByteArray.empty l ((xs[j]).1 : Int))) (xorL m 0 (edg (hypE a0 n l) (xs[j]).1)) := by
      rw [rdOf_get hs.1]
      generalize hk : l[(xs[j]).1]'hs.1 = key at *
      rw [e2]
      unfold spec_reValue.f
      refine ev_bind _ (spec_peTriple_f a0 n _ (by omega) ha.1 (by omega)) ?_
      exact spec_reValue_l0 a0 n w m _ (by simp [tripL]) _ [] 0 rfl (fun p h => by
        have := tripL_range a0 key h0 h1 p h
        omega)
    have hst := rd_step xs (n := j) (by omega)
    have hsl : (stepsL xs).length = xs.length := by simp [stepsL]
    refine ev_succ ?_
    rw [show (((j + 1 : Nat) : Int) - 1) = (j : Int) from by omega]
    simp only [spec_rePeeled.l0, hst, mkS118]
    rw [w64 (x := (j : Int) - 1) (by omega) (by omega)]
    have hs1 := hs.1
    exact ev_pos (by omega) (ev_pos (by omega) (ev_pos (by omega) (ev_pos (by omega) (ev_pos (by omega) (ev_pos (by omega) (ev_bind _ hval (ev_pos hpr.1 (ev_pos (by omega) next))))))))
theorem spec_rePeeled_f (ha : 0 ≤ a0 ∧ a0 ≤ 9999) (h0 : 1 ≤ n) (h1 : n ≤ 24) (hlV : V.length = l.length) (hl : l.length ≤ 40) (hz : ∀ s ∈ l, s.size ≤ 1000) : Ev (fun k => spec_rePeeled.f k a0 l V n w) (buildT a0 n w l V) := by
  obtain ⟨hG, hP, _, _⟩ := goodB_ok (hyp_good a0 h0 h1 hl)
  have hp := spec_pePeel_f hG (cs := []) (by simp) (by simp) true
  rw [hP] at hp
  have hX : peelC (3 * n).toNat (hypE a0 n l) (chc [] ++ if true = true then List.replicate (hypE a0 n l).length 0 else []) (allE (hypE a0 n l)) = peelAll (3 * n).toNat (hypE a0 n l) := by
    simp [chc, peelAll]
  rw [hX] at hp
  have hK : KeySteps a0 n l (stepsT a0 n l) := key_steps a0 n l
  have hkl := hK.len
  have this := spec_tbl_l0 (w := w) (V := V) ha h0 h1 hlV hz (xs := stepsT a0 n l) (by omega) hK.rng (stepsT a0 n l).length (Nat.le_refl _)
  rw [List.drop_length] at this
  have hsl : ∀ xs : List (Nat × Int), (stepsL xs).length = xs.length := fun xs => by simp [stepsL]
  have hcl : ∀ c : List Nat, (castL c).length = c.length := fun c => by simp [castL]
  unfold spec_rePeeled.f buildT
  refine ev_bind _ (spec_peHyper_f ha.1 (by omega) (by omega) (by omega) (by omega) hz) (ev_bind _ hp ?_)
  have hkl' : (peelAll (3 * n).toNat (hypE a0 n l)).1.length ≤ l.length := hkl
  rw [w64 (x := 3 * n) (by omega) (by omega), hsl, hcl, w64 (by omega) (by omega)]
  by_cases c3 : (coreE (3 * n).toNat (hypE a0 n l)).length = 0
  · have c3' : (peelAll (3 * n).toNat (hypE a0 n l)).2.length = 0 := c3
    rw [if_pos c3]
    exact ev_neg (by omega) (ev_pos (by omega) (ev_pos (by omega) this))
  · have c3' : ¬ (peelAll (3 * n).toNat (hypE a0 n l)).2.length = 0 := c3
    rw [if_neg c3]
    exact ev_pos (by omega) (Ev.now _)
def printsL (a0 w : Int) (l : List ByteArray) : List Int := l.map (fun s => placeV a0 9 s (topV w))
theorem prints_in (w0 : 1 ≤ w) (w1 : w ≤ 8) : InR 0 (hiV w) (printsL a0 w l) := fun p h0 h1 => by
  obtain ⟨t1, t2, t3⟩ := topV_hi w0 w1
  have hi : p.toNat < (printsL a0 w l).length := by omega
  have : rd (printsL a0 w l) p = (printsL a0 w l)[p.toNat] := by
    have := rd_get hi
    rwa [Int.toNat_of_nonneg h0] at this
  rw [this]
  simp only [printsL, List.getElem_map]
  have := placeV_range a0 9 (l[p.toNat]'(by simpa [printsL] using hi)) (n := topV w) t2 (by omega)
  omega
theorem prints_len : (printsL a0 w l).length = l.length := by simp [printsL]
def printV (a0 n w : Int) (l : List ByteArray) : Int × Int × Int × List Int × Bool := if (1 ≤ w ∧ w ≤ 8) ∧ keyedB a0 l n = true then buildT a0 n w l (printsL a0 w l) else (0, 0, 0, [], false)
theorem impl_pf_l0 (ha : 0 ≤ a0 ∧ a0 ≤ 9999) (w0 : 1 ≤ w) (w1 : w ≤ 8) (hl : l.length ≤ 1000) (hz : ∀ s ∈ l, s.size ≤ 1000) : ∀ (t pre : List ByteArray), l = pre ++ t →
    Ev (fun k => impl_PrintFilterOf.l0 k a0 l n w (printsL a0 w pre) l (l.length : Int) (pre.length : Int)) (if keyedB a0 l n = true then buildT a0 n w l (printsL a0 w l) else (0, 0, 0, [], false)) := by
  intro t
  induction t with
  | nil =>
    intro pre h
    have hpre : pre = l := by rw [h]; simp
    refine ev_succ ?_
    simp only [impl_PrintFilterOf.l0]
    rw [hpre]
    exact ev_neg (by omega) (ev_bind _ (impl_TableByPeeling_f w0 w1 (prints_in w0 w1) prints_len hl hz) (Ev.now _))
  | cons s t ih =>
    intro pre h
    have hm : ((pre.length : Nat) : Int) < (l.length : Int) := by rw [h]; exact lt_mid
    have hg : rdOf ByteArray.empty l (pre.length : Int) = s := by rw [h]; exact rdOf_mid
    have hsz := hz s (by rw [h]; simp)
    have next := ih (pre ++ [s]) (by rw [h]; simp)
    rw [len_one] at next
    have hT : printsL a0 w (pre ++ [s]) = printsL a0 w pre ++ [placeV a0 9 s (topV w)] := by simp [printsL]
    rw [hT] at next
    refine ev_succ ?_
    simp only [impl_PrintFilterOf.l0, hg]
    rw [winc (by omega)]
    exact ev_pos hm (ev_pos (by omega) (ev_pos hm (ev_pos (by omega) (ev_bind _ (impl_place_f a0 9 s (topV w) (by omega) ha.1 (by omega) (by omega) (by omega)) (ev_pos (by rw [prints_len]; omega) next)))))
theorem impl_PrintFilterOf_f (a0 n w : Int) {l : List ByteArray} (hl : l.length ≤ 1000) (hz : ∀ s ∈ l, s.size ≤ 1000) : Ev (fun k => impl_PrintFilterOf.f k a0 l n w) (printV a0 n w l) := by
  have bad : ∀ b : Bool, b = true → Ev (fun k => impl_PrintFilterOf.j0 k a0 l n w b) (0, 0, 0, [], false) := fun b hb => by
    refine ev_succ ?_
    simp only [impl_PrintFilterOf.j0]
    exact ev_pos hb (Ev.now _)
  have ek := impl_AreKeys_f l (by omega) (fun s hs => by have := hz s hs; omega)
  unfold impl_PrintFilterOf.f printV impl_widthOk.f
  rw [impl_isSeedP_f, impl_in]
  refine ev_bind _ (Ev.now _) ?_
  by_cases c1 : 0 ≤ a0 ∧ a0 ≤ 9999
  · refine ev_pos (decide_eq_true c1) (ev_bind _ (Ev.now _) ?_)
    by_cases c2 : 1 ≤ w ∧ w ≤ 8
    · refine ev_pos (decide_eq_true c2) (ev_bind _ ek ?_)
      by_cases c3 : areKeysB l = true
      · have := impl_pf_l0 (n := n) c1 c2.1 c2.2 hl hz l [] rfl
        have e : (if (1 ≤ w ∧ w ≤ 8) ∧ keyedB a0 l n = true then buildT a0 n w l (printsL a0 w l) else (0, 0, 0, [], false)) = (if keyedB a0 l n = true then buildT a0 n w l (printsL a0 w l) else (0, 0, 0, [], false)) := by simp [c2]
        rw [e]
        refine ev_succ ?_
        simp only [impl_PrintFilterOf.j0]
        exact ev_neg (by simp [c3]) this
      · rw [if_neg (fun h => c3 (keyedB_ok h.2).2.1)]
        exact bad _ (by simp [c3])
    · rw [if_neg (fun h => c2 h.1)]
      exact ev_neg (by simpa using c2) (bad _ rfl)
  · rw [if_neg (fun h => c1 (keyedB_ok h.2).1)]
    exact ev_neg (by simpa using c1) (bad _ rfl)
theorem spec_fiPrint_f (ha : 0 ≤ a0 ∧ a0 ≤ 9999) (w0 : 0 ≤ w) {s : ByteArray} (hz : s.size ≤ 1000) : Ev (fun k => spec_fiPrint.f k a0 w s) (placeV a0 9 s (topV w)) := by
  unfold spec_fiPrint.f spec_reTop.f
  rw [if_pos w0]
  exact ev_bind _ (Ev.now _) (ev_bind _ (spec_biPlace_f a0 9 s (topV w) (by omega) ha.1 (by omega) (by omega) (by omega)) (Ev.now _))
theorem spec_pf_l0 (c : keyedB a0 l n = true) (w0 : 1 ≤ w) (hl : l.length ≤ 1000) (hz : ∀ s ∈ l, s.size ≤ 1000) : ∀ (t pre : List ByteArray), l = pre ++ t →
    Ev (fun k => spec_PrintFilterOf.l0 k a0 l n w (printsL a0 w pre) l (l.length : Int) (pre.length : Int)) (buildT a0 n w l (printsL a0 w l)) := by
  obtain ⟨ha, hk, h0, h1⟩ := keyedB_ok c
  have hl40 := (keys_small hk).1
  intro t
  induction t with
  | nil =>
    intro pre h
    have hpre : pre = l := by rw [h]; simp
    refine ev_succ ?_
    simp only [spec_PrintFilterOf.l0]
    rw [hpre]
    exact ev_neg (by omega) (ev_bind _ (spec_rePeeled_f ha h0 h1 prints_len hl40 hz) (Ev.now _))
  | cons s t ih =>
    intro pre h
    have hm : ((pre.length : Nat) : Int) < (l.length : Int) := by rw [h]; exact lt_mid
    have hg : rdOf ByteArray.empty l (pre.length : Int) = s := by rw [h]; exact rdOf_mid
    have hsz := hz s (by rw [h]; simp)
    have next := ih (pre ++ [s]) (by rw [h]; simp)
    rw [len_one] at next
    have hT : printsL a0 w (pre ++ [s]) = printsL a0 w pre ++ [placeV a0 9 s (topV w)] := by simp [printsL]
    rw [hT] at next
    refine ev_succ ?_
    simp only [spec_PrintFilterOf.l0, hg]
    rw [winc (by omega)]
    exact ev_pos hm (ev_pos (by omega) (ev_pos hm (ev_bind _ (spec_fiPrint_f ha (by omega) hsz) (ev_pos (by rw [prints_len]; omega) next))))
theorem spec_PrintFilterOf_f (a0 n w : Int) {l : List ByteArray} (hl : l.length ≤ 1000) (hz : ∀ s ∈ l, s.size ≤ 1000) : Ev (fun k => spec_PrintFilterOf.f k a0 l n w) (printV a0 n w l) := by
  have bad : ∀ b : Bool, b = true → Ev (fun k => spec_PrintFilterOf.j0 k a0 l n w b) (0, 0, 0, [], false) := fun b hb => by
    refine ev_succ ?_
    simp only [spec_PrintFilterOf.j0]
    exact ev_pos hb (Ev.now _)
  unfold spec_PrintFilterOf.f printV spec_reWidth.f
  rw [spec_in]
  refine ev_bind _ (spec_peKeyed_f a0 n hl hz) ?_
  by_cases c : keyedB a0 l n = true
  · refine ev_pos c (ev_bind _ (ev_bind _ (Ev.now _) (Ev.now _)) ?_)
    by_cases c2 : 1 ≤ w ∧ w ≤ 8
    · rw [if_pos ⟨c2, c⟩]
      refine ev_succ ?_
      simp only [spec_PrintFilterOf.j0]
      exact ev_neg (by simp; omega) (spec_pf_l0 c c2.1 hl hz l [] rfl)
    · rw [if_neg (fun h => c2 h.1)]
      exact bad _ (by rw [decide_eq_false c2]; rfl)
  · rw [if_neg (fun h => c h.2)]
    exact ev_neg c (bad _ rfl)
end
end Go.Proofs.YtmehagedoaopeaaQ
namespace Go.Proofs.YtmehagedoaopeaaQ
open Go Go.RowKit Go.Proofs.YtmehagedoaopeaaW.PrintWords Go.Proofs.YtmehagedoaopeaaW.PrintMore Go.Proofs.YtmehagedoaopeaaGp Go.Proofs.Ytmehagedoaopeaa.PR

theorem clip_ok (w : Int) {m : Int} (hm : 0 ≤ m) : ∃ t, spec_l1Clip.f w m = some t ∧ 0 ≤ t ∧ t ≤ m := by
  unfold spec_l1Clip.f spec_l1Least.f spec_l1Most.f
  by_cases c : w < m
  · rw [if_pos c, Option.bind_some]
    by_cases d : 0 > w
    · rw [if_pos d]; exact ⟨0, rfl, by omega, by omega⟩
    · rw [if_neg d]; exact ⟨w, rfl, by omega, by omega⟩
  · rw [if_neg c, Option.bind_some, if_neg (by omega)]; exact ⟨m, rfl, hm, by omega⟩
theorem segment2_ok {s : List Int} (hs : Bys s) {p : Int} (sd a : Int) (h0 : 0 ≤ p) (h1 : p ≤ 1000000000000000000) : ∃ v p' sd', spec_l1Cur_segment2.f s p sd a = some (v, p', sd') ∧ 0 ≤ p' ∧ p' ≤ p + 4 := by
  obtain ⟨b, p1, sd1, e1, q0, q1⟩ := one_ok hs sd 10 h0 (by omega)
  unfold spec_l1Cur_segment2.f
  rw [e1, Option.bind_some]
  by_cases c : b = true
  · obtain ⟨u, p2, sd2, e2, _, r0, r1⟩ := among_ok hs sd1 (l := [(-1), 0, 24, 25]) (by simp) q0 (by omega)
    simp only [if_pos c, e2, Option.bind_some]
    exact ⟨_, _, _, rfl, r0, by omega⟩
  · obtain ⟨u, p2, sd2, e2, _, r0, r1⟩ := pick_ok hs sd1 (n := 4) q0 (by omega)
    have hl : ∃ t, spec_l1Least.f (wrap64 ((wrap64 (Int.tdiv a 3)) + u)) 23 = some t := by
      unfold spec_l1Least.f
      split
      · exact ⟨_, rfl⟩
      · exact ⟨_, rfl⟩
    obtain ⟨t, hl⟩ := hl
    simp only [if_neg c, e2, Option.bind_some, hl]
    exact ⟨_, _, _, rfl, r0, by omega⟩
def DrT (g : Nat → Option (Int × List ByteArray × List Int × Int × Int × Int × Int)) (ks : List ByteArray) (p c : Int) : Prop := ∃ a V n w p' sd', Ev g (a, ks, V, n, w, p', sd') ∧ (V : List Int).length ≤ 1000 ∧ 0 ≤ p' ∧ p' ≤ p + c
theorem task_j3 {s : List Int} (hs : Bys s) (a w : Int) (ks : List ByteArray) {V : List Int} (hV : V.length ≤ 100) {b : Bool} (hb : b = true → 0 < V.length) {p : Int} (sd : Int) (h0 : 0 ≤ p) (h1 : p ≤ 100000000000000000) : DrT (fun k => spec_l1Cur_task.j3 k a ks w V b s p sd) ks p 10 := by
  by_cases c : b = true
  · obtain ⟨t, ht, t0, _⟩ := clip_ok w (m := 8) (by omega)
    obtain ⟨u, p2, sd2, e2, _, r0, r1⟩ := among_ok hs sd (l := [(-1), shl .i64 1 t, 1099511627776]) (by simp) h0 (by omega)
    obtain ⟨n, p3, sd3, e3, u0, u1⟩ := segment2_ok hs sd2 (ks.length : Int) r0 (by omega)
    have := hb c
    refine ⟨a, V.set (0 : Int).toNat u, n, w, p3, sd3, ev_succ ?_, by rw [List.length_set]; omega, u0, by omega⟩
    simp only [spec_l1Cur_task.j3]
    refine ev_pos c ?_
    rw [ht]
    refine ev_bind _ (Ev.now _) ?_
    unfold spec_reTop.f
    rw [if_pos t0]
    refine ev_bind _ (Ev.now _) ?_
    rw [e2]
    refine ev_bind _ (Ev.now _) (ev_pos (by omega) ?_)
    simp only [e3, Option.bind_some]
    exact Ev.now _
  · obtain ⟨n, p3, sd3, e3, u0, u1⟩ := segment2_ok hs sd (ks.length : Int) h0 (by omega)
    refine ⟨a, V, n, w, p3, sd3, ev_succ ?_, by omega, u0, by omega⟩
    simp only [spec_l1Cur_task.j3, e3, Option.bind_some]
    exact ev_neg c (Ev.now _)
theorem task_j2 {s : List Int} (hs : Bys s) (a w : Int) (ks : List ByteArray) {V : List Int} (hV : V.length ≤ 100) {p : Int} (sd : Int) (h0 : 0 ≤ p) (h1 : p ≤ 10000000000000000) : DrT (fun k => spec_l1Cur_task.j2 k a ks w V s p sd) ks p 20 := by
  obtain ⟨b, p1, sd1, e1, q0, q1⟩ := one_ok hs sd 14 h0 (by omega)
  have go : ∀ c : Bool, (c = true → 0 < V.length) → DrT (fun k => spec_l1Cur_task.j3 k a ks w V c s p1 sd1) ks p1 10 := fun c hc => task_j3 hs a w ks hV hc sd1 q0 (by omega)
  by_cases c : b = true
  · obtain ⟨a', V', n', w', p', sd', e, x1, x2, x3⟩ := go (decide ((V.length : Int) > 0)) (fun h => by simpa using h)
    refine ⟨a', V', n', w', p', sd', ev_succ ?_, x1, x2, by omega⟩
    simp only [spec_l1Cur_task.j2, e1, Option.bind_some]
    exact ev_pos c e
  · obtain ⟨a', V', n', w', p', sd', e, x1, x2, x3⟩ := go false (fun h => by cases h)
    refine ⟨a', V', n', w', p', sd', ev_succ ?_, x1, x2, by omega⟩
    simp only [spec_l1Cur_task.j2, e1, Option.bind_some]
    exact ev_neg c e
theorem task_l0 {s : List Int} (hs : Bys s) (a w : Int) (ks : List ByteArray) (hk : ks.length ≤ 50) : ∀ (d i : Nat) (V : List Int) (p sd : Int), i + d = ks.length → V.length ≤ i → 0 ≤ p → p + 2 * (d : Int) ≤ 1000000000000000 →
    DrT (fun k => spec_l1Cur_task.l0 k a ks w V (ks.length : Int) (i : Int) s p sd) ks p (2 * (d : Int) + 40) := by
  intro d
  induction d with
  | zero =>
    intro i V p sd hi hV h0 h1
    obtain ⟨b, p1, sd1, e1, q0, q1⟩ := one_ok hs sd 14 h0 (by omega)
    by_cases c : b = true
    · obtain ⟨u, p2, sd2, e2, _, r0, r1⟩ := among_ok hs sd1 (l := [0, (-1), 300]) (by simp) q0 (by omega)
      obtain ⟨a', V', n', w', p', sd', e, x1, x2, x3⟩ := task_j2 hs a w ks (V := V ++ [u]) (by simp; omega) sd2 r0 (by omega)
      refine ⟨a', V', n', w', p', sd', ev_succ ?_, x1, x2, by omega⟩
      simp only [spec_l1Cur_task.l0, e1, Option.bind_some, e2]
      exact ev_neg (by omega) (ev_pos c (ev_pos (by omega) e))
    · obtain ⟨a', V', n', w', p', sd', e, x1, x2, x3⟩ := task_j2 hs a w ks (V := V) (by omega) sd1 q0 (by omega)
      refine ⟨a', V', n', w', p', sd', ev_succ ?_, x1, x2, by omega⟩
      simp only [spec_l1Cur_task.l0, e1, Option.bind_some]
      exact ev_neg (by omega) (ev_neg c e)
  | succ d ih =>
    intro i V p sd hi hV h0 h1
    obtain ⟨t, ht, t0, _⟩ := clip_ok w (m := 8) (by omega)
    obtain ⟨u, p1, sd1, e1, _, q0, q1⟩ := pick_ok hs sd (n := shl .i64 1 t) h0 (by omega)
    obtain ⟨a', V', n', w', p', sd', e, x1, x2, x3⟩ := ih (i + 1) (V ++ [u]) p1 sd1 (by omega) (by simp; omega) q0 (by omega)
    refine ⟨a', V', n', w', p', sd', ev_succ ?_, x1, x2, by omega⟩
    have htop : spec_reTop.f t = some (shl .i64 1 t) := by unfold spec_reTop.f; exact if_pos t0
    simp only [spec_l1Cur_task.l0, ht, htop, e1, Option.bind_some]
    rw [winc (by omega)]
    exact ev_pos (by omega) (ev_pos (by omega) e)
theorem task_ok {s : List Int} (hs : Bys s) {p : Int} (sd : Int) (h0 : 0 ≤ p) (h1 : p ≤ 10000000000000) : ∃ ks, Kys 42 ks ∧ DrT (fun k => spec_l1Cur_task.f k s p sd) ks p 1000 := by
  obtain ⟨a, p1, sd1, e1, _, q0, q1⟩ := seed9_ok hs sd h0 (by omega)
  obtain ⟨m, p2, sd2, e2, hm, r0, r1⟩ := among_ok hs sd1 (l := [3, 6, 10, 16]) (by simp) q0 (by omega)
  obtain ⟨m', rfl, hm'⟩ : ∃ m' : Nat, m = (m' : Int) ∧ m' ≤ 40 := by
    simp only [List.mem_cons, List.not_mem_nil, or_false] at hm
    rcases hm with rfl | rfl | rfl | rfl
    · exact ⟨3, rfl, by omega⟩
    · exact ⟨6, rfl, by omega⟩
    · exact ⟨10, rfl, by omega⟩
    · exact ⟨16, rfl, by omega⟩
  obtain ⟨ks, p3, sd3, e3, hk, t0, t1⟩ := anyKeys_ok hs sd2 hm' r0 (by omega)
  obtain ⟨w, p4, sd4, e4, _, u0, u1⟩ := among_ok hs sd3 (l := [1, 1, 2, 3, 4, 8]) (by simp) t0 (by omega)
  obtain ⟨b, p5, sd5, e5, v0, v1⟩ := one_ok hs sd4 14 u0 (by omega)
  have hkl := hk.1
  refine ⟨ks, hk, ?_⟩
  unfold spec_l1Cur_task.f
  have j0 : ∀ (w' p' sd' : Int), 0 ≤ p' → p' ≤ 100000000000000 → DrT (fun k => spec_l1Cur_task.j0 k a ks w' s p' sd') ks p' 200 := fun w' p' sd' g0 g1 => by
    obtain ⟨a', V', n', w'', p'', sd'', e, x1, x2, x3⟩ := task_l0 hs a w' ks (by omega) ks.length 0 [] p' sd' (by omega) (by simp) g0 (by omega)
    refine ⟨a', V', n', w'', p'', sd'', ev_succ ?_, x1, x2, by omega⟩
    simp only [spec_l1Cur_task.j0]
    exact e
  by_cases c : b = true
  · obtain ⟨u, p6, sd6, e6, _, y0, y1⟩ := among_ok hs sd5 (l := [0, (-1), 9, 62]) (by simp) v0 (by omega)
    obtain ⟨a', V', n', w'', p'', sd'', e, x1, x2, x3⟩ := j0 u p6 sd6 y0 (by omega)
    refine ⟨a', V', n', w'', p'', sd'', ?_, x1, x2, by omega⟩
    rw [e1]
    refine ev_bind _ (Ev.now _) ?_
    rw [e2]
    refine ev_bind _ (Ev.now _) (ev_bind _ e3 ?_)
    simp only [e4, Option.bind_some, e5]
    refine ev_pos c ?_
    simp only [e6, Option.bind_some]
    exact e
  · obtain ⟨a', V', n', w'', p'', sd'', e, x1, x2, x3⟩ := j0 w p5 sd5 v0 (by omega)
    refine ⟨a', V', n', w'', p'', sd'', ?_, x1, x2, by omega⟩
    rw [e1]
    refine ev_bind _ (Ev.now _) ?_
    rw [e2]
    refine ev_bind _ (Ev.now _) (ev_bind _ e3 ?_)
    simp only [e4, Option.bind_some, e5]
    exact ev_neg c e
theorem DrawPrintFilterOf_ok {s : List Int} (hs : Bys s) : ∃ a l n w, Ev (fun k => spec_DrawPrintFilterOf.f k s) (a, l, n, w) ∧ Kys 42 l := by
  obtain ⟨ks, hk, a, V, n, w, p', sd', e, _⟩ := task_ok hs 0 (p := 0) (by omega) (by omega)
  unfold spec_DrawPrintFilterOf.f
  exact ⟨a, ks, n, w, ev_bind _ e (Ev.now _), hk⟩

def DrB (g : Nat → Option (Int × Int × Int × List Int × Int × Int)) (p c : Int) : Prop := ∃ a n w m p' sd', Ev g (a, n, w, m, p', sd') ∧ (m : List Int).length ≤ 1000 ∧ 0 ≤ p' ∧ p' ≤ p + c
theorem table_l0 {s : List Int} (hs : Bys s) (a : Int) {n w : Int} (hn : 1 ≤ n) (hn' : n ≤ 100) (hw : 0 ≤ w) : ∀ (d i : Nat) (m : List Int) (p sd : Int), ((i + d : Nat) : Int) = 3 * n → m.length = i → 0 ≤ p → p + 2 * (d : Int) ≤ 100000000000000000 →
    DrB (fun k => spec_l1Cur_table.l0 k (i : Int) s p sd a n w m) p (2 * (d : Int) + 20) := by
  have hw3 : wrap64 (3 * n) = 3 * n := w64 (by omega) (by omega)
  have htop : spec_reTop.f w = some (shl .i64 1 w) := by unfold spec_reTop.f; exact if_pos hw
  intro d
  induction d with
  | zero =>
    intro i m p sd hi hm h0 h1
    obtain ⟨v, p1, sd1, e1, _, q0, q1⟩ := pick_ok hs sd (n := 30) h0 (by omega)
    by_cases c0 : v = 0
    · obtain ⟨u, p2, sd2, e2, _, r0, r1⟩ := seed9_ok hs sd1 q0 (by omega)
      refine ⟨u, n, w, m, p2, sd2, ev_succ ?_, by omega, r0, by omega⟩
      simp only [spec_l1Cur_table.l0, hw3, e1, Option.bind_some, e2]
      exact ev_neg (by omega) (ev_pos c0 (Ev.now _))
    by_cases c1 : v = 1
    · obtain ⟨u, p2, sd2, e2, _, r0, r1⟩ := among_ok hs sd1 (l := [0, (-1), 9, 63, 8]) (by simp) q0 (by omega)
      refine ⟨a, n, u, m, p2, sd2, ev_succ ?_, by omega, r0, by omega⟩
      simp only [spec_l1Cur_table.l0, hw3, e1, Option.bind_some, e2]
      exact ev_neg (by omega) (ev_neg c0 (ev_pos c1 (Ev.now _)))
    by_cases c2 : v = 2
    · refine ⟨a, n, w, m ++ [0], p1, sd1, ev_succ ?_, by simp; omega, q0, by omega⟩
      simp only [spec_l1Cur_table.l0, hw3, e1, Option.bind_some]
      exact ev_neg (by omega) (ev_neg c0 (ev_neg c1 (ev_pos c2 (ev_pos (by omega) (Ev.now _)))))
    by_cases c3 : v = 3
    · obtain ⟨u, p2, sd2, e2, _, r0, r1⟩ := among_ok hs sd1 (l := [(-1), shl .i64 1 w]) (by simp) q0 (by omega)
      refine ⟨a, n, w, m.set (0 : Int).toNat u, p2, sd2, ev_succ ?_, by rw [List.length_set]; omega, r0, by omega⟩
      simp only [spec_l1Cur_table.l0, hw3, e1, Option.bind_some, htop, e2]
      exact ev_neg (by omega) (ev_neg c0 (ev_neg c1 (ev_neg c2 (ev_pos c3 (ev_pos (by omega) (Ev.now _))))))
    · refine ⟨a, n, w, m, p1, sd1, ev_succ ?_, by omega, q0, by omega⟩
      simp only [spec_l1Cur_table.l0, hw3, e1, Option.bind_some]
      exact ev_neg (by omega) (ev_neg c0 (ev_neg c1 (ev_neg c2 (ev_neg c3 (Ev.now _)))))
  | succ d ih =>
    intro i m p sd hi hm h0 h1
    obtain ⟨u, p1, sd1, e1, _, q0, q1⟩ := pick_ok hs sd (n := shl .i64 1 w) h0 (by omega)
    obtain ⟨a', n', w', m', p', sd', e, x1, x2, x3⟩ := ih (i + 1) (m ++ [u]) p1 sd1 (by omega) (by simp [hm]) q0 (by omega)
    refine ⟨a', n', w', m', p', sd', ev_succ ?_, x1, x2, by omega⟩
    simp only [spec_l1Cur_table.l0, hw3, htop, Option.bind_some, e1]
    rw [winc (by omega)]
    exact ev_pos (by omega) (ev_pos (by omega) e)
theorem table_ok {s : List Int} (hs : Bys s) {p : Int} (sd : Int) (h0 : 0 ≤ p) (h1 : p ≤ 1000000000000000) : DrB (fun k => spec_l1Cur_table.f k s p sd) p 1000 := by
  obtain ⟨a, p1, sd1, e1, _, q0, q1⟩ := pick_ok hs sd (n := 20) h0 (by omega)
  obtain ⟨n, p2, sd2, e2, hn, r0, r1⟩ := pick_ok hs sd1 (n := 6) q0 (by omega)
  obtain ⟨w, p3, sd3, e3, hw, t0, t1⟩ := pick_ok hs sd2 (n := 4) r0 (by omega)
  obtain ⟨a', n', w', m', p', sd', e, x1, x2, x3⟩ := table_l0 hs a (n := 1 + n) (w := 1 + w) (by omega) (by omega) (by omega) (3 * (1 + n)).toNat 0 [] p3 sd3 (by omega) rfl t0 (by omega)
  refine ⟨a', n', w', m', p', sd', ?_, x1, x2, by omega⟩
  unfold spec_l1Cur_table.f
  simp only [e1, e2, e3, Option.bind_some]
  rw [w64 (x := 1 + n) (by omega) (by omega), w64 (x := 1 + w) (by omega) (by omega)]
  exact e
theorem pf_j2 {ks ts : List ByteArray} {s : List Int} {p sd p2 sd2 : Int} (e2 : Ev (fun k => spec_l1Cur_texts.f k s p sd ks) (ts, p2, sd2)) (a n w : Int) (m : List Int) : Ev (fun k => spec_DrawPrintFalse.j2 k ks s p sd a n w m) (a, n, w, m, ks, ts) := by
  refine ev_succ ?_
  simp only [spec_DrawPrintFalse.j2]
  exact ev_bind _ e2 (Ev.now _)
theorem pf_l0 {s : List Int} (hs : Bys s) {ks : List ByteArray} (hk : Kys 42 ks) (hk2 : areKeysB ks = true) {p : Int} (sd : Int) (h0 : 0 ≤ p) (h1 : p ≤ 1000000000000000) (a n w : Int) (m : List Int) (hm : m.length ≤ 1000) : ∀ (t pre : List ByteArray), ks = pre ++ t →
    ∃ a' n' w' m' ts, Ev (fun k => spec_DrawPrintFalse.l0 k ks (printsL 3 2 pre) ks (ks.length : Int) (pre.length : Int) s p sd a n w m) (a', n', w', m', ks, ts) ∧ (m' : List Int).length ≤ 1000 ∧ Kys 400 ts := by
  have hl := (keys_small hk2).1
  obtain ⟨ts, p2, sd2, e2, ht, _, _⟩ := texts_ok hs hk.2 sd h0 (by omega)
  intro t
  induction t with
  | nil =>
    intro pre h
    have hpre : pre = ks := by rw [h]; simp
    have er := spec_rePeeled_f (a0 := 3) (n := 1 + (ks.length : Int) / 2) (w := 2) (l := ks) (V := printsL 3 2 ks) (by omega) (by omega) (by omega) prints_len hl (fun x hx => by have := hk.2 x hx; omega)
    have hw1 : wrap64 (1 + wrap64 ((ks.length : Int) / 2)) = 1 + (ks.length : Int) / 2 := by rw [w64 (x := (ks.length : Int) / 2) (by omega) (by omega), w64 (by omega) (by omega)]
    have hcl : (buildT 3 (1 + (ks.length : Int) / 2) 2 ks (printsL 3 2 ks)).2.2.2.1.length ≤ 1000 := by
      unfold buildT
      split
      · have : (cellsV 3 (1 + (ks.length : Int) / 2) ks (printsL 3 2 ks)).length = (3 * (1 + (ks.length : Int) / 2)).toNat := cellsV_len
        simp only []
        omega
      · simp
    generalize buildT 3 (1 + (ks.length : Int) / 2) 2 ks (printsL 3 2 ks) = R at er hcl
    by_cases c : R.2.2.2.2 = true
    · refine ⟨R.1, R.2.1, R.2.2.1, R.2.2.2.1, ts, ev_succ ?_, hcl, ht⟩
      simp only [spec_DrawPrintFalse.l0, hw1]
      rw [hpre]
      exact ev_neg (by omega) (ev_bind _ er (ev_pos c (pf_j2 e2 _ _ _ _)))
    · refine ⟨a, n, w, m, ts, ev_succ ?_, hm, ht⟩
      simp only [spec_DrawPrintFalse.l0, hw1]
      rw [hpre]
      exact ev_neg (by omega) (ev_bind _ er (ev_neg c (pf_j2 e2 _ _ _ _)))
  | cons x t ih =>
    intro pre h
    have hm' : ((pre.length : Nat) : Int) < (ks.length : Int) := by rw [h]; exact lt_mid
    have hg : rdOf ByteArray.empty ks (pre.length : Int) = x := by rw [h]; exact rdOf_mid
    have hsz := hk.2 x (by rw [h]; simp)
    obtain ⟨a', n', w', m', ts', e, x1, x2⟩ := ih (pre ++ [x]) (by rw [h]; simp)
    have hT : printsL 3 2 (pre ++ [x]) = printsL 3 2 pre ++ [placeV 3 9 x (topV 2)] := by simp [printsL]
    rw [hT, len_one] at e
    refine ⟨a', n', w', m', ts', ev_succ ?_, x1, x2⟩
    simp only [spec_DrawPrintFalse.l0, hg]
    rw [winc (by omega)]
    exact ev_pos hm' (ev_pos (by omega) (ev_pos hm' (ev_bind _ (spec_fiPrint_f (by omega) (by omega) (by omega)) (ev_pos (by rw [prints_len]; omega) e))))
theorem DrawPrintFalse_ok {s : List Int} (hs : Bys s) : ∃ a n w m ks ts, Ev (fun k => spec_DrawPrintFalse.f k s) (a, n, w, m, ks, ts) ∧ (m : List Int).length ≤ 1000 ∧ Kys 42 ks ∧ Kys 400 ts := by
  obtain ⟨ks, p1, sd1, e1, hk, q0, q1⟩ := anyKeys_ok hs 0 (p := 0) (n := 8) (by omega) (by omega) (by omega)
  obtain ⟨a, n, w, m, p2, sd2, e2, hm, r0, r1⟩ := table_ok hs sd1 q0 (by omega)
  have hkl := hk.1
  have eb := spec_biKeys_f ks (by omega) (fun x hx => by have := hk.2 x hx; omega)
  have no : ∀ (p sd : Int), 0 ≤ p → p ≤ 1000000000000000 → ∃ ts, Ev (fun k => spec_DrawPrintFalse.j0 k ks false s p sd a n w m) (a, n, w, m, ks, ts) ∧ Kys 400 ts := fun p sd g0 g1 => by
    obtain ⟨ts, p', sd', e, ht, _, _⟩ := texts_ok hs hk.2 sd g0 (by omega)
    refine ⟨ts, ev_succ ?_, ht⟩
    simp only [spec_DrawPrintFalse.j0]
    exact ev_neg (by simp) (pf_j2 e _ _ _ _)
  unfold spec_DrawPrintFalse.f
  by_cases c : areKeysB ks = true
  · obtain ⟨b, p3, sd3, e3, t0, t1⟩ := one_ok hs sd2 4 r0 (by omega)
    by_cases cb : b = true
    · obtain ⟨ts, e, ht⟩ := no p3 sd3 t0 (by omega)
      refine ⟨a, n, w, m, ks, ts, ev_bind _ e1 (ev_bind _ e2 (ev_bind _ eb (ev_pos c ?_))), hm, hk, ht⟩
      simp only [e3, Option.bind_some]
      rw [cb]
      exact e
    · obtain ⟨a', n', w', m', ts, e, x1, x2⟩ := pf_l0 hs hk c sd3 t0 (by omega) a n w m hm ks [] rfl
      refine ⟨a', n', w', m', ks, ts, ev_bind _ e1 (ev_bind _ e2 (ev_bind _ eb (ev_pos c ?_))), x1, hk, x2⟩
      simp only [e3, Option.bind_some]
      rw [Bool.eq_false_iff.2 cb]
      refine ev_succ ?_
      simp only [spec_DrawPrintFalse.j0]
      exact ev_pos (by simp) e
  · obtain ⟨ts, e, ht⟩ := no p2 sd2 r0 (by omega)
    exact ⟨a, n, w, m, ks, ts, ev_bind _ e1 (ev_bind _ e2 (ev_bind _ eb (ev_neg c e))), hm, hk, ht⟩
end Go.Proofs.YtmehagedoaopeaaQ
namespace Go.Proofs.YtmehagedoaopeaaQ
open Go Go.RowKit Go.Proofs.YtmehagedoaopeaaW.PrintWords Go.Proofs.YtmehagedoaopeaaGp Go.Proofs.Ytmehagedoaopeaa.PR

namespace LW
theorem has_l0 (x0 : List Int) (a : Int) (hl : (x0.length : Int) ≤ 9223372036854775806) : ∀ (t pre : List Int), x0 = pre ++ t →
    Ev (fun k => laws_pHas.l0 k a x0 (x0.length : Int) (pre.length : Int)) (t.contains a) := by
  intro t
  induction t with
  | nil =>
    intro pre h
    refine ev_succ ?_
    simp only [laws_pHas.l0]
    exact ev_neg (by rw [h]; exact not_lt_end) (ev_some (by simp))
  | cons x t ih =>
    intro pre h
    have hm : ((pre.length : Nat) : Int) < (x0.length : Int) := by rw [h]; exact lt_mid
    have hg : rd x0 (pre.length : Int) = x := by rw [h]; exact rd_mid
    refine ev_succ ?_
    simp only [laws_pHas.l0, hg]
    refine ev_pos hm (ev_pos (by omega) (ev_pos hm ?_))
    by_cases c : x = a
    · exact ev_pos c (ev_some (by simp [c]))
    · refine ev_neg c ?_
      rw [winc (by omega)]
      have := ih (pre ++ [x]) (by rw [h]; simp)
      rw [len_one] at this
      have e : (x :: t).contains a = t.contains a := by simp [Ne.symm c]
      rw [e]
      exact this
theorem has_f (l : List Int) (a : Int) (hl : (l.length : Int) ≤ 9223372036854775806) : Ev (fun k => laws_pHas.f k l a) (l.contains a) := by
  unfold laws_pHas.f
  exact has_l0 l a hl l [] rfl
theorem hasT_l0 (x0 : List ByteArray) (a : ByteArray) (hl : (x0.length : Int) ≤ 9223372036854775806) : ∀ (t pre : List ByteArray), x0 = pre ++ t →
    Ev (fun k => laws_rHasText.l0 k a x0 (x0.length : Int) (pre.length : Int)) (hasS t a) := by
  intro t
  induction t with
  | nil =>
    intro pre h
    refine ev_succ ?_
    simp only [laws_rHasText.l0]
    exact ev_neg (by rw [h]; exact not_lt_end) (ev_some (by simp [hasS]))
  | cons x t ih =>
    intro pre h
    have hm : ((pre.length : Nat) : Int) < (x0.length : Int) := by rw [h]; exact lt_mid
    have hg : rdOf ByteArray.empty x0 (pre.length : Int) = x := by rw [h]; exact rdOf_mid
    refine ev_succ ?_
    simp only [laws_rHasText.l0, hg, tl_inj]
    refine ev_pos hm (ev_pos (by omega) (ev_pos hm ?_))
    by_cases c : x = a
    · exact ev_pos c (ev_some (by simp [hasS, c]))
    · refine ev_neg c ?_
      rw [winc (by omega)]
      have := ih (pre ++ [x]) (by rw [h]; simp)
      rw [len_one] at this
      have e : hasS (x :: t) a = hasS t a := by simp [hasS, c]
      rw [e]
      exact this
theorem hasT_f (l : List ByteArray) (a : ByteArray) (hl : (l.length : Int) ≤ 9223372036854775806) : Ev (fun k => laws_rHasText.f k l a) (hasS l a) := by
  unfold laws_rHasText.f
  exact hasT_l0 l a hl l [] rfl
theorem same_l0 (x0 y0 : List Int) (hl : (x0.length : Int) ≤ 9223372036854775806) (hy : y0.length = x0.length) : ∀ (t pre u pru : List Int), x0 = pre ++ t → y0 = pru ++ u → pru.length = pre.length →
    Ev (fun k => laws_pSameInts.l0 k x0 y0 (x0.length : Int) (pre.length : Int)) (decide (t = u)) := by
  intro t
  induction t with
  | nil =>
    intro pre u pru h h2 hp
    have : u = [] := by
      have e1 : y0.length = pru.length + u.length := by rw [h2]; simp
      have e2 : x0.length = pre.length := by rw [h]; simp
      exact List.length_eq_zero_iff.1 (by omega)
    subst this
    refine ev_succ ?_
    simp only [laws_pSameInts.l0]
    exact ev_neg (by rw [h]; exact not_lt_end) (ev_some (by simp))
  | cons x t ih =>
    intro pre u pru h h2 hp
    have hm : ((pre.length : Nat) : Int) < (x0.length : Int) := by rw [h]; exact lt_mid
    have hg : rd x0 (pre.length : Int) = x := by rw [h]; exact rd_mid
    cases u with
    | nil =>
      have e1 : y0.length = pru.length := by rw [h2]; simp
      omega
    | cons y u =>
      have hg2 : rd y0 (pre.length : Int) = y := by rw [h2, ← hp]; exact rd_mid
      refine ev_succ ?_
      simp only [laws_pSameInts.l0, hg, hg2]
      by_cases c : x = y
      · subst c
        have := ih (pre ++ [x]) u (pru ++ [x]) (by rw [h]; simp) (by rw [h2]; simp) (by simp [hp])
        rw [len_one] at this
        rw [show decide (x :: t = x :: u) = decide (t = u) from by simp, winc (by omega)]
        exact ev_pos hm (ev_pos (by omega) (ev_pos hm (ev_pos (by omega) (ev_pos rfl this))))
      · rw [decide_eq_false (fun e => c (List.cons.inj e).1)]
        exact ev_pos hm (ev_pos (by omega) (ev_pos hm (ev_pos (by omega) (ev_neg c (Ev.now _)))))
theorem same_f (l l' : List Int) (hl : (l.length : Int) ≤ 9223372036854775806) (h : l'.length = l.length) : Ev (fun k => laws_pSameInts.f k l l') (decide (l = l')) := by
  unfold laws_pSameInts.f
  exact ev_pos (by omega) (same_l0 l l' hl h l [] l' [] rfl rfl rfl)
theorem sameI_f (l l' : List Int) (hl : (l.length : Int) ≤ 9223372036854775806) : Ev (fun k => laws_pSameInts.f k l l') (decide (l = l')) := by
  by_cases h : l'.length = l.length
  · exact same_f l l' hl h
  · unfold laws_pSameInts.f
    exact ev_neg (by omega) (ev_some (decide_eq_false (fun e => h (by rw [e]))).symm)
end LW
end Go.Proofs.YtmehagedoaopeaaQ
namespace Go.Proofs.Ytmehagedoaopeaa.Pure
open Go Go.RowKit Go.Proofs.YtmehagedoaopeaaW.PrintWords Go.Proofs.YtmehagedoaopeaaW.PrintMore Go.Proofs.YtmehagedoaopeaaGp Go.Proofs.Ytmehagedoaopeaa.PR Go.Proofs.YtmehagedoaopeaaQ

theorem wrongL_has (f : ByteArray → Bool) (ks : List ByteArray) : ∀ (t : List ByteArray) (i m : Nat), (wrongL f ks t i).contains ((m : Nat) : Int) = (decide (i ≤ m) && (match t[m - i]? with | none => false | some s => !hasS ks s && f s))
  | [], i, m => by simp [wrongL]
  | s :: t, i, m => by
    have ih := wrongL_has f ks t (i + 1) m
    have e1 : i < m → (s :: t)[m - i]? = t[m - (i + 1)]? := fun h => by
      rw [show m - i = (m - (i + 1)) + 1 from by omega, List.getElem?_cons_succ]
    simp only [wrongL]
    by_cases c : hasS ks s = true
    · rw [if_pos c, ih]
      by_cases h : i = m
      · subst h; simp [c]; intro h; omega
      · by_cases h2 : i < m
        · rw [e1 h2, decide_eq_true (show i + 1 ≤ m by omega), decide_eq_true (show i ≤ m by omega)]
        · rw [decide_eq_false (show ¬ i + 1 ≤ m by omega), decide_eq_false (show ¬ i ≤ m by omega)]; rfl
    · rw [if_neg c]
      by_cases c2 : f s = true
      · rw [if_pos c2, List.contains_cons, ih]
        by_cases h : i = m
        · subst h; simp [c, c2]
        · have : (((m : Nat) : Int) == (i : Int)) = false := by simp; omega
          rw [this, Bool.false_or]
          by_cases h2 : i < m
          · rw [e1 h2, decide_eq_true (show i + 1 ≤ m by omega), decide_eq_true (show i ≤ m by omega)]
          · rw [decide_eq_false (show ¬ i + 1 ≤ m by omega), decide_eq_false (show ¬ i ≤ m by omega)]; rfl
      · rw [if_neg c2, ih]
        by_cases h : i = m
        · subst h; simp [c, c2]; intro h; omega
        · by_cases h2 : i < m
          · rw [e1 h2, decide_eq_true (show i + 1 ≤ m by omega), decide_eq_true (show i ≤ m by omega)]
          · rw [decide_eq_false (show ¬ i + 1 ≤ m by omega), decide_eq_false (show ¬ i ≤ m by omega)]; rfl
section
variable {a n w : Int} {m : List Int}
theorem has_f (h : tableB a n w m = true) {s : ByteArray} (hk : isKeyB s = true) : Ev (fun k => impl_PrintHas.f k a n w m s) (saysT a n w m s, true) := by
  have hz := isKeyB_size hk
  obtain ⟨_, hn, _, hl, _⟩ := tableB_ok h
  have e1 := impl_IsTable_f a n w m (by omega)
  rw [h] at e1
  have e2 := impl_IsKey_f s (by omega)
  rw [hk] at e2
  unfold impl_PrintHas.f
  exact ev_bind _ e1 (ev_pos rfl (ev_bind _ e2 (ev_pos rfl (ev_bind _ (impl_Table_says_f h (by omega)) (Ev.now _)))))
theorem ret_f (h : tableB a n w m = true) {s : ByteArray} (hk : isKeyB s = true) : Ev (fun k => impl_RetrieveValue.f k a n w m s) (xorL m 0 (tripL a s n 3 0), true) := by
  have hz := isKeyB_size hk
  obtain ⟨_, hn, _, hl, _⟩ := tableB_ok h
  have e1 := impl_IsTable_f a n w m (by omega)
  rw [h] at e1
  have e2 := impl_IsKey_f s (by omega)
  rw [hk] at e2
  unfold impl_RetrieveValue.f
  exact ev_bind _ e1 (ev_pos rfl (ev_bind _ e2 (ev_pos rfl (ev_bind _ (impl_Table_of_f h (by omega)) (Ev.now _)))))
theorem print_f (ha : 0 ≤ a ∧ a ≤ 9999) (hw : 1 ≤ w ∧ w ≤ 8) {s : ByteArray} (hk : isKeyB s = true) : Ev (fun k => impl_PrintOf.f k a w s) (placeV a 9 s (topV w), true) := by
  have hz := isKeyB_size hk
  have e2 := impl_IsKey_f s (by omega)
  rw [hk] at e2
  unfold impl_PrintOf.f impl_widthOk.f
  rw [impl_isSeedP_f, impl_in]
  exact ev_bind _ (Ev.now _) (ev_pos (decide_eq_true ha) (ev_bind _ (Ev.now _) (ev_pos (decide_eq_true hw) (ev_bind _ e2 (ev_pos rfl (ev_pos (by omega) (ev_bind _ (impl_place_f a 9 s (topV w) (by omega) ha.1 (by omega) (by omega) (by omega)) (Ev.now _))))))))
theorem keys_law {l : List ByteArray} {x1 : List Int} (H : Ev (fun k => laws_FnPrintsNeverDeny.j2 k x1) true) (c : keyedB a l n = true) (hw : 1 ≤ w ∧ w ≤ 8) (hp : (coreE (3 * n).toNat (hypE a n l)).length = 0) : ∀ (d i : Nat), i + d = l.length →
    Ev (fun k => laws_FnPrintsNeverDeny.l0 k x1 a w l (l.length : Int) (i : Int) a n w (cellsV a n l (printsL a w l))) true := by
  obtain ⟨ha, hk, h0, h1⟩ := keyedB_ok c
  have hsm := keys_small hk
  have hV := prints_in (a0 := a) (l := l) hw.1 hw.2
  have hT := cells_table c hw.1 hw.2 hV prints_len
  intro d
  induction d with
  | zero =>
    intro i hi
    refine ev_succ ?_
    simp only [laws_FnPrintsNeverDeny.l0]
    exact ev_neg (by omega) H
  | succ d ih =>
    intro i hi
    have hi' : i < l.length := by omega
    have hkk := areKeysB_all hk _ (List.getElem_mem hi')
    have hval := cells_value c hw.1 hw.2 hV prints_len hp hi'
    have hpr : rd (printsL a w l) (i : Int) = placeV a 9 l[i] (topV w) := by
      rw [rd_get (by rw [prints_len]; exact hi')]
      simp [printsL]
    rw [hpr] at hval
    have e1 := has_f hT hkk
    have hs : saysT a n w (cellsV a n l (printsL a w l)) l[i] = true := by unfold saysT; rw [hval]; simp
    rw [hs] at e1
    have e3 := ret_f hT hkk
    rw [hval] at e3
    refine ev_succ ?_
    simp only [laws_FnPrintsNeverDeny.l0]
    rw [rdOf_get hi', winc (by omega)]
    exact ev_pos (by omega) (ev_pos (by omega) (ev_pos (by omega) (ev_bind _ e1 (ev_bind _ (print_f ha hw hkk) (ev_bind _ e3 (ev_pos rfl (ev_pos rfl (ev_pos rfl (ev_pos rfl (ev_pos rfl (ih (i + 1) (by omega))))))))))))
end
theorem textsB_all {l : List ByteArray} (h : textsB l = true) : ∀ s ∈ l, isKeyB s = true := by
  simp only [textsB, Bool.and_eq_true, List.all_eq_true] at h
  exact h.1
theorem false_l1 {a n w : Int} {m : List Int} {ks ts : List ByteArray} (hB : tableB a n w m = true) (hk : (ks.length : Int) ≤ 9223372036854775806) (ht : textsB ts = true) : ∀ (t pre : List ByteArray), ts = pre ++ t →
    Ev (fun k => laws_FnPrintsNeverDeny.l1 k ks (wrongL (saysT a n w m) ks ts 0) ts (ts.length : Int) (pre.length : Int) a n w m) true := by
  have hlen := textsB_len ht
  have hwl := wrongL_len (saysT a n w m) ks ts 0
  intro t
  induction t with
  | nil =>
    intro pre h
    refine ev_succ ?_
    simp only [laws_FnPrintsNeverDeny.l1]
    exact ev_neg (by rw [h]; exact not_lt_end) (Ev.now _)
  | cons s t ih =>
    intro pre h
    have hm : ((pre.length : Nat) : Int) < (ts.length : Int) := by rw [h]; exact lt_mid
    have hg : rdOf ByteArray.empty ts (pre.length : Int) = s := by rw [h]; exact rdOf_mid
    have hsk := textsB_all ht s (by rw [h]; simp)
    have e1 := has_f hB hsk
    have hw : (wrongL (saysT a n w m) ks ts 0).contains ((pre.length : Nat) : Int) = (!hasS ks s && saysT a n w m s) := by
      have := wrongL_has (saysT a n w m) ks ts 0 pre.length
      rw [show ts[pre.length - 0]? = some s from by rw [h]; simp, decide_eq_true (Nat.zero_le _), Bool.true_and] at this
      exact this
    have next := ih (pre ++ [s]) (by rw [h]; simp)
    have hh := LW.has_f (wrongL (saysT a n w m) ks ts 0) (pre.length : Int) (by omega)
    rw [hw] at hh
    rw [len_one] at next
    have ht := LW.hasT_f ks s hk
    refine ev_succ ?_
    simp only [laws_FnPrintsNeverDeny.l1, hg]
    rw [winc (by omega)]
    refine ev_pos hm (ev_pos (by omega) (ev_pos hm (ev_bind _ e1 (ev_pos rfl (ev_bind _ hh ?_)))))
    by_cases c : saysT a n w m s = true
    · refine ev_pos c (ev_bind _ ht (ev_neg ?_ next))
      rw [c]; simp
    · refine ev_neg c (ev_neg ?_ next)
      rw [Bool.eq_false_iff.2 c]; simp
theorem second {x1 : List Int} (hs : Bys x1) : Ev (fun k => laws_FnPrintsNeverDeny.j2 k x1) true := by
  obtain ⟨a, n, w, m, ks, ts, ed, hm, hk, ht⟩ := DrawPrintFalse_ok hs
  have hk9 : (ks.length : Int) ≤ 9223372036854775806 := by have := hk.1; omega
  have ht9 : (ts.length : Int) ≤ 9223372036854775806 := by have := ht.1; omega
  have hks : ∀ s ∈ ks, (s.size : Int) ≤ 9223372036854775806 := fun s h => by have := hk.2 s h; omega
  have hts : ∀ s ∈ ts, (s.size : Int) ≤ 9223372036854775806 := fun s h => by have := ht.2 s h; omega
  have e1 := impl_PrintFalse_f a n w m ks ts hk9 hks hts (by omega)
  have e2 := spec_PrintFalse_f a n w m ks ts hk9 hks hts (by omega) ht9
  have hl := printFalseV_len a n w m ks ts
  have es := LW.sameI_f (printFalseV a n w m ks ts).1 (printFalseV a n w m ks ts).1 (by omega)
  rw [decide_eq_true rfl] at es
  refine ev_succ ?_
  simp only [laws_FnPrintsNeverDeny.j2]
  refine ev_bind _ ed (ev_bind _ e1 (ev_bind _ e2 (ev_neg (by simp) (ev_bind _ es (ev_succ ?_)))))
  simp only [laws_FnPrintsNeverDeny.j3]
  refine ev_neg (by simp) ?_
  by_cases g : (tableB a n w m && (areKeysB ks && textsB ts)) = true
  · have hv : printFalseV a n w m ks ts = (wrongL (saysT a n w m) ks ts 0, true) := if_pos g
    rw [hv]
    simp only [Bool.and_eq_true] at g
    exact ev_pos rfl (false_l1 g.1 hk9 g.2.2 ts [] rfl)
  · have hv : printFalseV a n w m ks ts = ([], false) := if_neg g
    rw [hv]
    exact ev_neg (by simp) (Ev.now _)
theorem FnPrintsNeverDeny : laws_FnPrintsNeverDeny.Pure := by
  intro l0 l1 h0 _ hw0 h1 _ hw1
  refine Ev.rounds (r := true) ?_
  unfold laws_FnPrintsNeverDeny.f
  obtain ⟨b, eb, hb⟩ := big_f h0 h1
  rw [eb]
  refine ev_bind _ (Ev.now _) ?_
  by_cases c : b = true
  · exact ev_pos c (Ev.now _)
  obtain ⟨g0, g1⟩ := hb (by simpa using c)
  have hs := bys g0 hw0
  have H := second (bys g1 hw1)
  obtain ⟨a, l, n, w, ed, hk⟩ := DrawPrintFilterOf_ok hs
  have hl : l.length ≤ 1000 := by have := hk.1; omega
  have hz : ∀ s ∈ l, s.size ≤ 1000 := fun s h => by have := hk.2 s h; omega
  refine ev_neg c (ev_bind _ ed (ev_bind _ (impl_PrintFilterOf_f a n w hl hz) (ev_bind _ (spec_PrintFilterOf_f a n w hl hz) (ev_neg (by simp) ?_))))
  have done : printV a n w l = (0, 0, 0, [], false) → Ev (fun k => (laws_rSameTable.f k (printV a n w l).1 (printV a n w l).2.1 (printV a n w l).2.2.1 (printV a n w l).2.2.2.1 (printV a n w l).1 (printV a n w l).2.1 (printV a n w l).2.2.1 (printV a n w l).2.2.2.1).bind fun t => laws_FnPrintsNeverDeny.j0 k l1 a l w (printV a n w l).2.2.2.2 (!t) (printV a n w l).1 (printV a n w l).2.1 (printV a n w l).2.2.1 (printV a n w l).2.2.2.1) true := fun e => by
    rw [e]
    have es := LW.sameI_f [] [] (by simp)
    rw [decide_eq_true rfl] at es
    unfold laws_rSameTable.f
    refine ev_bind _ (ev_pos rfl (ev_pos rfl (ev_pos rfl (ev_bind _ es (Ev.now _))))) (ev_succ ?_)
    simp only [laws_FnPrintsNeverDeny.j0]
    exact ev_neg (by simp) (ev_neg (by simp) H)
  by_cases ok : (1 ≤ w ∧ w ≤ 8) ∧ keyedB a l n = true
  · have e : printV a n w l = buildT a n w l (printsL a w l) := if_pos ok
    by_cases hp : (coreE (3 * n).toNat (hypE a n l)).length = 0
    · have e2 : printV a n w l = (a, n, w, cellsV a n l (printsL a w l), true) := by rw [e]; exact if_pos hp
      obtain ⟨_, _, _, n1⟩ := keyedB_ok ok.2
      have hcl : (cellsV a n l (printsL a w l)).length = (3 * n).toNat := cellsV_len
      have es := LW.sameI_f (cellsV a n l (printsL a w l)) (cellsV a n l (printsL a w l)) (by omega)
      rw [decide_eq_true rfl] at es
      rw [e2]
      unfold laws_rSameTable.f
      refine ev_bind _ (ev_pos rfl (ev_pos rfl (ev_pos rfl (ev_bind _ es (Ev.now _))))) (ev_succ ?_)
      simp only [laws_FnPrintsNeverDeny.j0]
      exact ev_neg (by simp) (ev_pos trivial (keys_law H ok.2 ok.1 hp l.length 0 (by omega)))
    · exact done (by rw [e]; exact if_neg hp)
  · exact done (if_neg ok)
end Go.Proofs.Ytmehagedoaopeaa.Pure
