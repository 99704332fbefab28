import Derived.Laws.Strings
import Derived.Tactics
import Derived.Lib.LazyBuf
import Derived.Test.YtpkpjikkfikejaaCF0
import Derived.WalkKit
import Derived.KernelRfl
import Derived.Test.YtpkpjikkfikejaaProg
import Derived.Below
import Derived.Deep.Draws
import Derived.Deep.AppendLies
import Derived.Maps.AppendAt
import Derived.OwnWalk
import Derived.Laws.BytesArg
import Derived.Laws.MakeOwn
import Derived.Laws.OwnMore
import Derived.Deep.OwnRows
import Derived.Lib.ConvBytes
import Derived.Laws.Slices
import Derived.RowKit3
import Derived.Deep.LoopGhost
import Derived.Deep.QuietTactic
import Derived.BigQuiet
import Derived.WideLaws
import Derived.Deep.DeepCutAuto
import Derived.Deep.CutBlock
import Derived.Deep.RegionHeld3
import Derived.Laws.Rows
import Derived.Lib.AppendStr
import Derived.ArgAppend
import Derived.Laws.IdiomCopy
import Derived.OrdersHeld
import Derived.Laws.BitsLemmas
import Derived.RowKit
namespace Go.Proofs.YtpkpjikkfikejaaGp
open Go

theorem str_geq (t : TypeId) (a b : ByteArray) : binOp .geq t (.string a) (.string b) = pure (.bool !(Op.bytesLess a.toList b.toList)) := by simp [binOp, Op.stringOp]

theorem bl_total : ∀ a b : List UInt8, (Op.bytesLess a b || a == b) = !(Op.bytesLess b a)
  | [], [] => by simp [Op.bytesLess]
  | [], b :: l => by simp [Op.bytesLess]
  | a :: l, [] => by simp [Op.bytesLess]
  | a :: l, b :: m => by
    have ih := bl_total l m
    simp only [Op.bytesLess, List.cons_beq_cons]
    by_cases h1 : a < b
    · have h2 : ¬ b < a := fun h => absurd (UInt8.lt_iff_toNat_lt.mp h1) (by have := UInt8.lt_iff_toNat_lt.mp h; omega)
      have h3 : ¬ b = a := fun h => by subst h; exact h2 h1
      simp [h1, h2, h3]
    · by_cases h2 : b < a
      · have h3 : ¬ a = b := fun h => by subst h; exact h1 h2
        simp [h1, h2, h3]
      · have h3 : a = b := by
          apply UInt8.toNat_inj.mp
          have := mt UInt8.lt_iff_toNat_lt.mpr h1; have := mt UInt8.lt_iff_toNat_lt.mpr h2; omega
        subst h3
        simpa using ih

theorem str_gtr (t : TypeId) (a b : ByteArray) : binOp .gtr t (.string a) (.string b) = pure (.bool (Op.bytesLess b.toList a.toList)) := by
  have h := bl_total a.toList b.toList
  have e : binOp .gtr t (.string a) (.string b) = pure (.bool !(Op.bytesLess a.toList b.toList || a.toList == b.toList)) := by simp [binOp, Op.stringOp]
  rw [e, h, Bool.not_not]
theorem str_leq (t : TypeId) (a b : ByteArray) : binOp .leq t (.string a) (.string b) = pure (.bool !(Op.bytesLess b.toList a.toList)) := by
  have h := bl_total a.toList b.toList
  have e : binOp .leq t (.string a) (.string b) = pure (.bool (Op.bytesLess a.toList b.toList || a.toList == b.toList)) := by simp [binOp, Op.stringOp]
  rw [e, h]

section
open Go.Proofs.YtpkpjikkfikejaaW.PrintLast
variable {P : Program} {ops : Array Oper} {Q : Exit → Act → World → Prop}
end

section
open Go.Proofs.YtpkpjikkfikejaaW.PrintWords
theorem C_isNone {α : Type} {d : Kd α} {w : World} {A : Option Addr} {n : Nat} {xs : List α} (h : d.C w A n xs) (hA : A.isNone = true) : xs = [] := by
  cases A with
  | some a => simp at hA
  | none =>
    obtain ⟨h1, _, h3⟩ := h
    cases n with
    | zero => exact List.length_eq_zero_iff.1 h1
    | succ n => obtain ⟨a, e, _⟩ := h3 (Nat.succ_pos n); cases e
theorem run_eql_nil_ {P : Program} (w : World) (t e : TypeId) (a : Option Addr) (l c : Nat) (h : P.underlying t = some (.slice e)) : (binOp .eql t (.slice a l c) (.slice none 0 0)).run P w = .ok (.bool a.isNone) w := run_eql_slice_nil w t e a l c h
end

end Go.Proofs.YtpkpjikkfikejaaGp
namespace Go.Proofs.YtpkpjikkfikejaaSq
open Go Go.RowKit Go.Proofs.YtpkpjikkfikejaaW.PrintWords Go.Proofs.YtpkpjikkfikejaaW.PrintLast

class Stp (W W' : World) : Prop where
  out : Below W.heap.size W W'
instance Stp.rfl_ (W : World) : Stp W W := ⟨Below.refl _ _⟩
instance Stp.alloc_ (W W' : World) (o : Obj) [h : Stp W W'] : Stp W (W'.alloc o) := ⟨below_alloc h.out o⟩
instance Stp.drewN_ (W W' : World) (n : Nat) [h : Stp W W'] : Stp W (W'.drewN n) := ⟨pw_below_drewN h.out n⟩
instance Stp.drewA_ (W w : World) (k n : Nat) [h : Stp W (w.drewN k)] : Stp W (w.drewN (k + n)) := ⟨by rw [← World.drewN_drewN]; exact pw_below_drewN h.out n⟩
instance Stp.drew_ (W W' : World) [h : Stp W W'] : Stp W W'.drew := ⟨below_drew h.out⟩
section
variable {α : Type} {d : Kd α} {e base n : Nat} {ok : Nat → Prop} {u v : Value} {xs : List α} {w W0 W W1 : World} {A : Option Addr} {g : Nat} {o : Obj}
theorem Rz [h' : Stp W0 W] (h : d.R e W0 base ok v xs) : d.R e W base ok v xs := Kd.R_below h h'.out
theorem Kz [h' : Stp W0 W] (h : W0.heap[g]? = some o) : W.heap[g]? = some o := blk_below h h'.out
theorem Bz [h' : Stp W0 W] (h : Below w.heap.size w W0) : Below w.heap.size w W := below_step h h'.out
theorem Bq (h : Below w.heap.size w W := by repeat (first | (with_reducible (refine Aside0.out ?_; assumption)) | (with_reducible apply below_alloc) | (with_reducible apply pw_below_drewN) | (with_reducible apply below_drew1) | ((with_reducible refine below_set ?_ ?_); rotate_left; (with_reducible (refine Aside0.out ?_; assumption))))) : Below w.heap.size w W := h
theorem Cz [h' : Stp W0 W] (h : d.C W0 A n xs) : d.C W A n xs := Kd.C_below h h'.out
theorem Rb [Stp W0 W] (h : Aside0 (d.R e W0 base ok v xs)) (hb : Below W.heap.size W W1) : Aside0 (d.R e W1 base ok v xs) := ⟨Kd.R_below (Rz h.out) hb⟩
theorem Kb [Stp W0 W] (h : Aside0 (W0.heap[g]? = some o)) (hb : Below W.heap.size W W1) : Aside0 (W1.heap[g]? = some o) := ⟨blk_below (Kz h.out) hb⟩
theorem Bb [Stp W0 W] (h : Aside0 (Below w.heap.size w W0)) (hb : Below W.heap.size W W1) : Aside0 (Below w.heap.size w W1) := ⟨below_step (Bz h.out) hb⟩
theorem Re [Stp W0 W] (h : Aside0 (d.R e W0 base ok u xs)) (hv : ∀ k, v.ownBlock = some k → W.heap.size ≤ k) (hb : Below W.heap.size W W1) : Aside0 (d.R e W1 base (fun k => ok k ∧ some k ≠ v.ownBlock) u xs) := ⟨Kd.R_elder' (Rz h.out) hv hb⟩
theorem Rl [Stp W0 W] (h : d.R e W1 W.heap.size ok v xs) (hb : Aside0 (Below w.heap.size w W0)) : Aside0 (d.R e W1 w.heap.size ok v xs) := ⟨Kd.R_lower h (below_size (Bz hb.out))⟩
theorem Gl [Stp W0 W] (hb : Aside0 (Below w.heap.size w W0)) (hg : g = W.heap.size) : Aside0 (w.heap.size ≤ g) := ⟨by rw [hg]; exact below_size (Bz hb.out)⟩
theorem Bc (_h : Aside0 (Below w.heap.size w W0)) (hb : Below W.heap.size W W1) (h : Below w.heap.size w W := by repeat (first | (with_reducible (refine Aside0.out ?_; assumption)) | (with_reducible apply below_alloc) | (with_reducible apply pw_below_drewN) | (with_reducible apply below_drew1) | ((with_reducible refine below_set ?_ ?_); rotate_left; (with_reducible (refine Aside0.out ?_; assumption))))) : Aside0 (Below w.heap.size w W1) := ⟨below_step h hb⟩
theorem Rm (h' : d.R e W1 W.heap.size ok v xs) (_h : Aside0 (Below w.heap.size w W0)) (h : Below w.heap.size w W := by repeat (first | (with_reducible (refine Aside0.out ?_; assumption)) | (with_reducible apply below_alloc) | (with_reducible apply pw_below_drewN) | (with_reducible apply below_drew1) | ((with_reducible refine below_set ?_ ?_); rotate_left; (with_reducible (refine Aside0.out ?_; assumption))))) : Aside0 (d.R e W1 w.heap.size ok v xs) := ⟨Kd.R_lower h' (below_size h)⟩
theorem Gm (_h : Aside0 (Below w.heap.size w W0)) (hg : g = W.heap.size) (h : Below w.heap.size w W := by repeat (first | (with_reducible (refine Aside0.out ?_; assumption)) | (with_reducible apply below_alloc) | (with_reducible apply pw_below_drewN) | (with_reducible apply below_drew1) | ((with_reducible refine below_set ?_ ?_); rotate_left; (with_reducible (refine Aside0.out ?_; assumption))))) : Aside0 (w.heap.size ≤ g) := ⟨by rw [hg]; exact below_size h⟩
theorem Nl [Stp W0 W] {g' : Nat} (h : Aside0 (W0.heap[g]? = some o)) (hg : g' = W.heap.size) : Aside0 (g ≠ g') := ⟨by rw [hg]; exact Nat.ne_of_lt (blk_lt (Kz (W := W) h.out))⟩
theorem Ng [Stp W0 W] {g' : Nat} (h : Aside0 (W0.heap[g]? = some o)) (hg : g' = W.heap.size) : Aside0 (g' ≠ g) := ⟨by rw [hg]; exact Nat.ne_of_gt (blk_lt (Kz (W := W) h.out))⟩
end

theorem aP : (∀ (a : Act) (d : Tmp) (v : Value), a.put (some d) v = { a with tmps := a.tmps.setIfInBounds d v }) ∧ (∀ (a : Act) (v : Value), a.put none v = a) ∧ (∀ (l : List Value) (i : Nat) (x : Value), l.toArray.setIfInBounds i x = (l.set i x).toArray) ∧ (∀ (x : Value) (xs : List Value) (b : Value), (x :: xs).set 0 b = b :: xs) ∧ (∀ (x : Value) (xs : List Value) (n : Nat) (b : Value), (x :: xs).set (n + 1) b = x :: xs.set n b) := ⟨fun _ _ _ => rfl, fun _ _ => rfl, fun _ _ _ => List.setIfInBounds_toArray _ _ _, fun _ _ _ => List.set_cons_zero, fun _ _ _ _ => List.set_cons_succ⟩
theorem wZ {p : Prop} (h : p := by first | rfl | (simp; done) | (simp [*]; done)) : p := h
theorem eZ {p : Prop} (h : p := by first | rfl | (simp [errW_none, errW_some] <;> rfl) | (simp [*, errW_none, errW_some] <;> rfl)) : p := h
theorem nZ {p : Prop} (h : p := by first | exact Kd.R_nil _ _ _ _ _ | exact Kd.N_nil _ _ _ _ _ | exact Kd.V_nil _ _ _ _ _ | exact Kd.Q_nil _ _ _ _ _ | exact Kd.S_nil _ _ _ _ _) : p := h
theorem yZ {p : Prop} (h : p := by first | exact ⟨rfl, _, World.drewN_drewN _ _ _⟩ | exact ⟨rfl, _, Eq.trans (World.drewN_drewN _ _ _) (congrArg (World.drewN _) (Nat.add_assoc _ _ _))⟩) : p := h
theorem eT (p : Prop) [Decidable p] (h : decide p = true := by first | (with_reducible assumption) | assumption) : p = True := eq_true (of_decide_eq_true h)
theorem am {p : Prop} (h : p) : Aside0 p := ⟨h⟩

section
variable {w : World} {g : Nat} {t : TypeId}
theorem dT {p : Prop} [Decidable p] (h : decide p = true := by first | (with_reducible assumption) | assumption) : p := of_decide_eq_true h
theorem cz {cs : Array Value} {v : Value} (h : Aside0 (w.heap[g]? = some (.cells cs t (0, 0)))) (i : Nat) (hv : cs[i]? = some v := by exact rfl) : w.cell? ⟨g, i, none⟩ = some v := (blk_cell h.out i).trans hv
theorem cf2 {v0 v1 : Value} (h : Aside0 (w.heap[g]? = some (.cells #[v0, v1] t (0, 0)))) : w.cell? ⟨g, 0, none⟩ = some v0 ∧ w.cell? ⟨g, 1, none⟩ = some v1 ∧ w.frozen? ⟨g, 0, none⟩ = false ∧ w.frozen? ⟨g, 1, none⟩ = false := ⟨cz h 0, cz h 1, blk_frozen h.out 0, blk_frozen h.out 1⟩
theorem cf4 {v0 v1 v2 v3 : Value} (h : Aside0 (w.heap[g]? = some (.cells #[v0, v1, v2, v3] t (0, 0)))) : w.cell? ⟨g, 0, none⟩ = some v0 ∧ w.cell? ⟨g, 1, none⟩ = some v1 ∧ w.cell? ⟨g, 2, none⟩ = some v2 ∧ w.cell? ⟨g, 3, none⟩ = some v3 ∧ w.frozen? ⟨g, 0, none⟩ = false ∧ w.frozen? ⟨g, 1, none⟩ = false ∧ w.frozen? ⟨g, 2, none⟩ = false ∧ w.frozen? ⟨g, 3, none⟩ = false := ⟨cz h 0, cz h 1, cz h 2, cz h 3, blk_frozen h.out 0, blk_frozen h.out 1, blk_frozen h.out 2, blk_frozen h.out 3⟩
end

theorem bE {P : Program} {ops : Array Oper} {rest : List Oper} {o : Oper} {a : Act} {Q : Exit → Act → World → Prop} {W : World} (N : Tmp) (cs : Array Value) (t : TypeId)
    (h : ∀ g, g = W.heap.size → ∀ w1, w1.heap[g]? = some (.cells cs t (0, 0)) → Below W.heap.size W w1 → wpList P ops Q rest (a.put o.dst (.pointer (some ⟨g, 0, none⟩))) w1)
    (hg : o.guard = none := by exact rfl) (hd : o.dst = some N := by exact rfl)
    (hr : (execOp a.eval o).run P W = .ok (.value (.pointer (some ⟨W.heap.size, 0, none⟩))) (W.alloc (.cells cs t (0, 0))) := by first | (go_simp; done) | (go_simp; rfl)) : wpList P ops Q (o :: rest) a W := box_event hg hd hr h

def bL : Nat → Nat → List Bool
  | 0, _ => []
  | n + 1, m => (m % 2 == 1) :: bL n (m / 2)
def bA (n m : Nat) : Array Bool := ⟨bL n m⟩

section
variable {P : Program} {md : Region.Mode} {ops : Array Oper} {Q : Exit → Act → World → Prop} {S : World → Prop} {ds : List Nat} {T : Bool × List (List Nat × List Nat)}
theorem pZ (i : Nat) (N : Option Tmp) {oi : Oper} {v : Value} {fuel : Nat} {l : Array Bool} {a a' : Act} {w : World} (l' : Array Bool) (hT : rtab md ops = T) (h : wpAnyLast P md ops Q S ds fuel l' a' w)
    (hi : ops[i]? = some oi := by exact rfl) (hN : oi.dst = N := by exact rfl) (hc : anyT T l.toList l'.toList i = true := by kernel_rfl) (hQ : ∀ c a w, Q (.panic c) (a.put oi.dst v) w → Q (.panic c) a w := by exact fun _ _ _ h => h)
    (hw : Region.wanted oi (yielded ops a.tmps) = true := by exact rfl) (hy : ∀ w, (execOp a.eval oi).run P w = .ok (.value v) w := by intro w'; go_simp; with_reducible rfl)
    (ha : a.put N v = a' := by simp only [Act.put, List.setIfInBounds_toArray, List.set_cons_zero, List.set_cons_succ, i64_w, i32_w]; rfl) : wpAnyLast P md ops Q S ds (fuel + 1) l a w :=
  pure_ l' hi hN (any_of hT hc) hQ (Or.inl ⟨hw, hy⟩) ha h
theorem tZ2 (i : Nat) (N : Option Tmp) {oi : Oper} {v : Value} {fuel : Nat} {l : Array Bool} {a a' : Act} {w : World} (l' : Array Bool) (hT : rtab md ops = T) {B : List Nat} (hB : waitsOk T.2 B = true) (hS : S w) (h : wpAnyLast P md ops Q S ds fuel l' a' w)
    (hi : ops[i]? = some oi := by exact rfl) (hN : oi.dst = N := by exact rfl) (hc : takeW T B ds l.toList l'.toList i = true := by kernel_rfl) (hQ : ∀ c a w, Q (.panic c) (a.put oi.dst v) w → Q (.panic c) a w := by exact fun _ _ _ h => h)
    (hw : Region.wanted oi (yielded ops a.tmps) = true := by exact rfl) (hy : ∀ w, S w → (execOp a.eval oi).run P w = .ok (.value v) w := by rintro w' ⟨s0, s1⟩; go_simp; with_reducible rfl)
    (ha : a.put N v = a' := by simp only [Act.put, List.setIfInBounds_toArray, List.set_cons_zero, List.set_cons_succ, i64_w, i32_w]; rfl) : wpAnyLast P md ops Q S ds (fuel + 1) l a w :=
  take_ l' hi hN (take_ofW hT hB hc) hQ (Or.inl ⟨hw, hy⟩) hS ha h
theorem tZ3 (i : Nat) (N : Option Tmp) {oi : Oper} {v : Value} {fuel : Nat} {l : Array Bool} {a a' : Act} {w : World} (l' : Array Bool) (hT : rtab md ops = T) {B : List Nat} (hB : waitsOk T.2 B = true) (hS : S w) (h : wpAnyLast P md ops Q S ds fuel l' a' w)
    (hi : ops[i]? = some oi := by exact rfl) (hN : oi.dst = N := by exact rfl) (hc : takeW T B ds l.toList l'.toList i = true := by kernel_rfl) (hQ : ∀ c a w, Q (.panic c) (a.put oi.dst v) w → Q (.panic c) a w := by exact fun _ _ _ h => h)
    (hw : Region.wanted oi (yielded ops a.tmps) = true := by exact rfl) (hy : ∀ w, S w → (execOp a.eval oi).run P w = .ok (.value v) w := by rintro w' ⟨s0, s1, s2⟩; go_simp; with_reducible rfl)
    (ha : a.put N v = a' := by simp only [Act.put, List.setIfInBounds_toArray, List.set_cons_zero, List.set_cons_succ, i64_w, i32_w]; rfl) : wpAnyLast P md ops Q S ds (fuel + 1) l a w :=
  take_ l' hi hN (take_ofW hT hB hc) hQ (Or.inl ⟨hw, hy⟩) hS ha h
theorem tZ4 (i : Nat) (N : Option Tmp) {oi : Oper} {v : Value} {fuel : Nat} {l : Array Bool} {a a' : Act} {w : World} (l' : Array Bool) (hT : rtab md ops = T) {B : List Nat} (hB : waitsOk T.2 B = true) (hS : S w) (h : wpAnyLast P md ops Q S ds fuel l' a' w)
    (hi : ops[i]? = some oi := by exact rfl) (hN : oi.dst = N := by exact rfl) (hc : takeW T B ds l.toList l'.toList i = true := by kernel_rfl) (hQ : ∀ c a w, Q (.panic c) (a.put oi.dst v) w → Q (.panic c) a w := by exact fun _ _ _ h => h)
    (hw : Region.wanted oi (yielded ops a.tmps) = true := by exact rfl) (hy : ∀ w, S w → (execOp a.eval oi).run P w = .ok (.value v) w := by rintro w' ⟨s0, s1, s2, s3⟩; go_simp; with_reducible rfl)
    (ha : a.put N v = a' := by simp only [Act.put, List.setIfInBounds_toArray, List.set_cons_zero, List.set_cons_succ, i64_w, i32_w]; rfl) : wpAnyLast P md ops Q S ds (fuel + 1) l a w :=
  take_ l' hi hN (take_ofW hT hB hc) hQ (Or.inl ⟨hw, hy⟩) hS ha h
theorem tZ5 (i : Nat) (N : Option Tmp) {oi : Oper} {v : Value} {fuel : Nat} {l : Array Bool} {a a' : Act} {w : World} (l' : Array Bool) (hT : rtab md ops = T) {B : List Nat} (hB : waitsOk T.2 B = true) (hS : S w) (h : wpAnyLast P md ops Q S ds fuel l' a' w)
    (hi : ops[i]? = some oi := by exact rfl) (hN : oi.dst = N := by exact rfl) (hc : takeW T B ds l.toList l'.toList i = true := by kernel_rfl) (hQ : ∀ c a w, Q (.panic c) (a.put oi.dst v) w → Q (.panic c) a w := by exact fun _ _ _ h => h)
    (hw : Region.wanted oi (yielded ops a.tmps) = true := by exact rfl) (hy : ∀ w, S w → (execOp a.eval oi).run P w = .ok (.value v) w := by rintro w' ⟨s0, s1, s2, s3, s4⟩; go_simp; with_reducible rfl)
    (ha : a.put N v = a' := by simp only [Act.put, List.setIfInBounds_toArray, List.set_cons_zero, List.set_cons_succ, i64_w, i32_w]; rfl) : wpAnyLast P md ops Q S ds (fuel + 1) l a w :=
  take_ l' hi hN (take_ofW hT hB hc) hQ (Or.inl ⟨hw, hy⟩) hS ha h
theorem oZ (i : Nat) (N : Option Tmp) {oi : Oper} {fuel : Nat} {l : Array Bool} {a : Act} {w : World} (l' : Array Bool) (hT : rtab md ops = T)
    (h : ∀ K : Act → World → Prop, Shut (∀ a' w', S w' → (S w' → wpAnyLast P md ops Q S ds fuel l' a' w') → K a' w') → if Region.wanted oi (yielded ops a.tmps) = true then Oper.wp P oi a w K Q else K (a.put N undef) w)
    (hi : ops[i]? = some oi := by exact rfl) (hN : oi.dst = N := by exact rfl) (hc : (readyT T.2 l.toList == [i] && l.toList.set i true == l'.toList) = true := by kernel_rfl) (hd : i ∉ ds := by decide) : wpAnyLast P md ops Q S ds (fuel + 1) l a w :=
  one_ l' hi hN (one_of hT hc) hd h
theorem lZ (i : Nat) (N : Option Tmp) {oi : Oper} {fuel : Nat} {l : Array Bool} {a : Act} {w : World} (l' : Array Bool) (hT : rtab md ops = T)
    (h : ∀ K : Act → World → Prop, Shut (∀ a' w', wpAnyLast P md ops Q S ds fuel l' a' w' → K a' w') → if Region.wanted oi (yielded ops a.tmps) = true then Oper.wp P oi a w K Q else K (a.put N undef) w)
    (hi : ops[i]? = some oi := by exact rfl) (hN : oi.dst = N := by exact rfl) (hc : (readyT T.2 l.toList == [i] && l.toList.set i true == l'.toList) = true := by kernel_rfl) (hd : i ∈ ds := by decide) : wpAnyLast P md ops Q S ds (fuel + 1) l a w :=
  last_ l' hi hN (one_of hT hc) hd h
theorem gZ {oi : Oper} {N : Option Tmp} {a : Act} {w : World} {K : Act → World → Prop} {f : FuncId} {fn : Func} {as_ : Array Operand} {ts : Array TypeId} (hf : P.funcs[f]? = some fn) (args : Array Value)
    (h : Calls P f args w fun e w' => ∃ v, e = .returned v ∧ K (a.put N v) w') (hname : (fn.name == "runtime.NumGoroutine") = false := by kernel_rfl) (hb : fn.body.isSome = true := by exact rfl)
    (hw : Region.wanted oi (yielded ops a.tmps) = true := by rfl) (hN : oi.dst = N := by exact rfl) (hop : oi.op = .call { callee := .value (.func f), args := as_, argTypes := ts } := by exact rfl)
    (hargs : as_.map a.eval = args := by (try simp only [List.map_toArray, List.map_cons, List.map_nil]); first | done | rfl | (simp only [List.length_drop, List.length_take]; rfl)) :
    if Region.wanted oi (yielded ops a.tmps) = true then Oper.wp P oi a w K Q else K (a.put N undef) w :=
  goes_ hf hname hb args hw hN hop hargs h
theorem gL {rest : List Oper} {oi : Oper} {a : Act} {w : World} (N : Option Tmp) {f : FuncId} {fn : Func} {as_ : Array Operand} {ts : Array TypeId} (hf : P.funcs[f]? = some fn) (args : Array Value)
    (h : Calls P f args w fun e w' => ∃ v, e = .returned v ∧ wpList P ops Q rest (a.put N v) w') (hd : oi.dst = N := by exact rfl) (hg : oi.guard = none := by exact rfl) (hname : (fn.name == "runtime.NumGoroutine") = false := by kernel_rfl) (hb : fn.body.isSome = true := by exact rfl)
    (hop : oi.op = .call { callee := .value (.func f), args := as_, argTypes := ts } := by exact rfl)
    (hargs : as_.map a.eval = args := by (try simp only [List.map_toArray, List.map_cons, List.map_nil]); first | done | rfl | (simp only [List.length_drop, List.length_take]; rfl)) : wpList P ops Q (oi :: rest) a w :=
  goesL_ N hd hg hf hname hb args hop hargs h
end
end Go.Proofs.YtpkpjikkfikejaaSq
-- printed by a program of this session (wip/gp) out of the translation; Lean checks it
namespace Go.Proofs.Ytpkpjikkfikejaa.PA
open Go.RowKit Go.Proofs.YtpkpjikkfikejaaW.PrintWords Go.Proofs.YtpkpjikkfikejaaW.PrintLast Go.Proofs.YtpkpjikkfikejaaW.PrintMore Go.Proofs.YtpkpjikkfikejaaSq
attribute [local go_sem] max2_int min2_int max_two min_two max_three min_three max_four min_four   -- for this text's walks alone
attribute [local go_sem] Go.Proofs.YtpkpjikkfikejaaGp.str_geq Go.Proofs.YtpkpjikkfikejaaGp.str_gtr Go.Proofs.YtpkpjikkfikejaaGp.str_leq
set_option linter.unusedVariables false
set_option linter.unusedSimpArgs false



def errW : Option Int → Value
 | none => .nilIface
 | some c => .iface 0 (.int .i64 c)
theorem errW_none : errW none = .nilIface := rfl
theorem errW_some (c : Int) : errW (some c) = .iface 0 (.int .i64 c) := rfl

theorem info3 : (Try.prog.info? 3).map (fun i => (i.zero, i.size, i.bytes)) = some (some (.int .i64 0), 1, 8) := by kernel_rfl
theorem info4 : (Try.prog.info? 4).map (fun i => (i.zero, i.size, i.bytes)) = some (some (.bool false), 1, 1) := by kernel_rfl
theorem info5 : (Try.prog.info? 5).map (fun i => (i.zero, i.size, i.bytes)) = some (some (.int .u8 0), 1, 1) := by kernel_rfl
theorem info9 : (Try.prog.info? 9).map (fun i => (i.zero, i.size, i.bytes)) = some (some (.string ⟨#[]⟩), 1, 16) := by kernel_rfl
-- the values' own types

end Go.Proofs.Ytpkpjikkfikejaa.PA
-- printed by a program of this session (wip/gp) out of the translation; Lean checks it
namespace Go.Proofs.Ytpkpjikkfikejaa.PA
open Go.RowKit Go.Proofs.YtpkpjikkfikejaaW.PrintWords Go.Proofs.YtpkpjikkfikejaaW.PrintLast Go.Proofs.YtpkpjikkfikejaaW.PrintMore Go.Proofs.YtpkpjikkfikejaaSq
attribute [local go_sem] max2_int min2_int max_two min_two max_three min_three max_four min_four   -- for this text's walks alone
attribute [local go_sem] Go.Proofs.YtpkpjikkfikejaaGp.str_geq Go.Proofs.YtpkpjikkfikejaaGp.str_gtr Go.Proofs.YtpkpjikkfikejaaGp.str_leq
set_option linter.unusedVariables false
set_option linter.unusedSimpArgs false

set_option maxHeartbeats 8000000
set_option maxRecDepth 100000
def spec_biSet.f (a0_0 : Int) (l0_1 : List Int) (a1 : Int) : Option (List Int) := if 0 ≤ (wrap64 (Int.tdiv a1 16)) then (if (wrap64 (Int.tdiv a1 16)) < (l0_1.length : Int) then (if 0 ≤ (Int.tmod a1 16) then (some (l0_1.set ((wrap64 (Int.tdiv a1 16)) : Int).toNat (Go.bits .or .i64 (rd l0_1 (wrap64 (Int.tdiv a1 16))) (shl .i64 1 (Int.tmod a1 16))))) else (none)) else (none)) else (none)
def spec_biSet.T1 : Bool × List (List Nat × List Nat) := (true, [([], []), ([0], [0]), ([], []), ([2], [2]), ([1, 3], [1, 3]), ([4], [4]), ([], []), ([6], [6]), ([7], [7]), ([5, 8], [5, 8]), ([1, 3, 0, 1, 2, 3, 4, 5, 6, 7, 8, 9], [1, 3]), ([10, 9, 0, 1, 2, 3, 4, 5, 6, 7, 8, 9], [9, 10])])
def spec_biSet.B1 : List Nat := [0, 1, 0, 4, 15, 31, 0, 64, 192, 511, 1023, 2047]
theorem spec_biSet.tab1 : rtab .any (opsOf Try.f145 1) = spec_biSet.T1 := by kernel_rfl
theorem spec_biSet.bits1 : waitsOk spec_biSet.T1.2 spec_biSet.B1 = true := by kernel_rfl
theorem spec_biSet.calls (a0_0 : Int) (P0_1_ : Nat → Prop) (u9000_ : Value) (l0_1 : List Int) (a1 : Int) (r : List Int) (w0 w : World) (hB : Below w0.heap.size w0 w) (ho0_1 : Kd.R (Kd.int .i64) 3 w w0.heap.size P0_1_ u9000_ l0_1) (h : spec_biSet.f a0_0 l0_1 a1 = some r) :
  Calls Try.prog 145 #[.agg #[.int .i64 a0_0, u9000_], .int .i64 a1] w fun e w' => e = .returned (.tuple #[]) ∧ Kd.R (Kd.int .i64) 3 w' w0.heap.size (fun k_ => (P0_1_ k_ ∨ w.heap.size ≤ k_)) u9000_ r ∧ Below w0.heap.size w0 w' ∧ Kept w w' (fun k_ => P0_1_ k_) := by
 have hu26 := Try.underlying26; have HO0_1 := am (show Kd.R (Kd.int .i64) 3 w w0.heap.size (fun k_ => (P0_1_ k_ ∨ w.heap.size ≤ k_)) u9000_ l0_1 from Kd.R_mono ho0_1 (fun k_ hk => (.inl hk))); have HK := am (Kept.refl w (fun k_ => P0_1_ k_)); have HW0 := am hB.size; have HB := am hB; clear hB; have H : (if 0 ≤ (wrap64 (Int.tdiv a1 16)) then (if (wrap64 (Int.tdiv a1 16)) < (l0_1.length : Int) then (if 0 ≤ (Int.tmod a1 16) then (some (l0_1.set ((wrap64 (Int.tdiv a1 16)) : Int).toNat (Go.bits .or .i64 (rd l0_1 (wrap64 (Int.tdiv a1 16))) (shl .i64 1 (Int.tmod a1 16))))) else (none)) else (none)) else (none)) = some r := h; clear h; obtain ⟨ji3, hji3⟩ : ∃ j_ : Int, (wrap64 (Int.tdiv a1 16)) = j_ := ⟨_, rfl⟩
 replace H : (if 0 ≤ (ji3) then (if (ji3) < (l0_1.length : Int) then (if 0 ≤ (Int.tmod a1 16) then (some (l0_1.set ((ji3) : Int).toNat (Go.bits .or .i64 (rd l0_1 (ji3)) (shl .i64 1 (Int.tmod a1 16))))) else (none)) else (none)) else (none)) = some r := by first | (rw [hji3] at H; exact H) | (simp only [hji3] at H ⊢; exact H)
 have hji3w : (IntKind.i64.wrap (Int.tdiv a1 16)) = ji3 := (i64_w _).trans hji3
 by_cases c4 : 0 ≤ (ji3)
 ·rw [if_pos c4] at H
  have c4b0 : decide (0 ≤ (ji3)) = true := decide_eq_true c4; clear c4
  by_cases c5 : (ji3) < (l0_1.length : Int)
  ·rw [if_pos c5] at H
   have c5b0 : decide ((ji3) < (l0_1.length : Int)) = true := decide_eq_true c5; clear c5; obtain ⟨ji6, hji6⟩ : ∃ j_ : Int, (Int.tmod a1 16) = j_ := ⟨_, rfl⟩
   replace H : (if 0 ≤ (ji6) then (some (l0_1.set ((ji3) : Int).toNat (Go.bits .or .i64 (rd l0_1 (ji3)) (shl .i64 1 (ji6))))) else (none)) = some r := by first | (rw [hji6] at H; exact H) | (simp only [hji6] at H ⊢; exact H)
   by_cases c7 : 0 ≤ (ji6)
   ·rw [if_pos c7] at H
    have c7b0 := eq_true c7; have c7b1 : decide (0 ≤ (ji6)) = true := decide_eq_true c7; clear c7; obtain ⟨ji8, hji8⟩ : ∃ j_ : Int, (shl .i64 1 (ji6)) = j_ := ⟨_, rfl⟩
    replace H : (some (l0_1.set ((ji3) : Int).toNat (Go.bits .or .i64 (rd l0_1 (ji3)) (ji8)))) = some r := by first | (rw [hji8] at H; exact H) | (simp only [hji8] at H ⊢; exact H)
    have hji8_ : (IntKind.i64.wrap (1 * 2 ^ min (ji6).toNat 64)) = ji8 := hji8; have hji8z : (ji6) ≤ 64 → (IntKind.i64.wrap (1 * 2 ^ (ji6).toNat)) = ji8 := shl_small hji8
    have hji8u : (IntKind.i64.wrap (2 ^ min (ji6).toNat 64)) = ji8 := by have h_ := hji8_; rw [Int.one_mul] at h_; exact h_
    have hji8v : (ji6) ≤ 64 → (IntKind.i64.wrap (2 ^ (ji6).toNat)) = ji8 := fun hle_ => by have h_ := hji8z hle_; rw [Int.one_mul] at h_; exact h_
    have hji8y : (wrap64 (1 * 2 ^ min (ji6).toNat 64)) = ji8 := (i64_w _).symm.trans hji8_
    have hji8x : (ji6) ≤ 64 → (wrap64 (1 * 2 ^ (ji6).toNat)) = ji8 := fun h_ => (i64_w _).symm.trans (hji8z h_)
    obtain ⟨y103, hy103⟩ : ∃ y_ : List Int, y_ = (l0_1.set ((ji3) : Int).toNat (Go.bits .or .i64 (rd l0_1 (ji3)) (ji8))) := ⟨_, rfl⟩
    replace H : (some y103) = some r := by first | (rw [hy103]; with_reducible exact H) | (have H2_ := (Option.bind_some _ _).symm.trans H; rw [hy103]; with_reducible exact H2_) | (have H2_ := (Option.bind_some _ _).symm.trans H; with_reducible exact H2_) | with_reducible exact H | (rw [hy103]; exact H) | exact H
    have Ny103 := am hy103; clear hy103; obtain rfl := Option.some.inj H; obtain ⟨Ao10, co10, eo10⟩ := Kd.R_slice HO0_1.out; subst eo10
    go_enter Try.func145, Try.ntmps145
    try go_wp2_with (first | ((with_reducible refine gate_dst (N := 2) rfl ?_); refine bE 2 #[.int .i64 a0_0, .slice Ao10 l0_1.length co10] 26 ?_; intro gb101 hg w11 hbox hb; have n0_ := Rb HO0_1 hb; have n1_ := am (Kept.below (S := (fun k_ => P0_1_ k_)) (by repeat (first | (with_reducible first | exact HK.out | apply Kept.alloc | apply Kept.drewN | apply Kept.drew) | exact HK.out)) hb); have n2_ := Bb HB hb; have n3_ := am (hbox); have n4_ := am ((by rw [hg]; exact (by first | exact HK.out.1 | exact (show Kept w _ (fun k_ => P0_1_ k_) from by repeat (first | (with_reducible first | exact HK.out | apply Kept.alloc | apply Kept.drewN | apply Kept.drew) | exact HK.out)).1) : w.heap.size ≤ gb101)); have n5_ := am ((by rw [hg]; exact (below_size (Bz HB.out)) : w0.heap.size ≤ gb101)); clear HO0_1 HK HB; revert n0_ n1_ n2_ n3_ n4_ n5_; intro HO0_1 HK HB BK101 GW101 GE101; clear hb hbox hg))
    have n0_ := am (Kd.R_drew HO0_1.out); have n1_ := am (blk_drew BK101.out); have n2_ := am (Kept.drew HK.out); have n3_ := am (below_drew1 HB.out); clear HO0_1 BK101 HK HB; revert n0_ n1_ n2_ n3_; intro HO0_1 BK101 HK HB; obtain ⟨ad102, e102, hx102_0⟩ := Kd.at_int (Kd.R_reads' HO0_1.out).2.2 (ji3) dT dT; cases e102; have p102 := eT (0 ≤ ((ji3) : Int)); have q102 := eT ((ji3) < (l0_1.length : Int)); have p9 : 0 ≤ ((ji3) : Int) := dT; have q9 : ((ji3) : Int) < ((l0_1.length : Int) : Int) := dT; obtain ⟨go9, co9, eo9, gb9, gl9, cl9, HG9⟩ := Kd.R_form HO0_1.out (by omega)
    (first | cases eo9 | (injection eo9 with ea_ en_ ec_; (first | subst ea_ | (injection ea_ with ea_; subst ea_)); subst ec_; clear en_))
    have GB9 := am gb9; have GG9 := am HG9; clear gb9 gl9 HG9; have HMgo9 := am (show (P0_1_ go9 ∨ w.heap.size ≤ go9) from (HO0_1.out.1 _ rfl))
    (first | simp only [add_plain] at hx102_0 | skip)
    obtain ⟨hx9_0, hf9_0⟩ := Kd.R_celln 0 HO0_1.out ((ji3) : Int) p9 q9; replace p9 := eq_true p9; replace q9 := eq_true q9; have HP13 := Kd.R_putn HO0_1.out ((ji3) : Int) (Go.bits .or .i64 (rd l0_1 (ji3)) (ji8)); rw [← Ny103.out] at HP13; have HQ13 := am HP13; clear HP13; refine start_ (n := 12) (S := fun w' => w'.cell? ⟨gb101, 0, none⟩ = some (.int .i64 a0_0) ∧ w'.cell? ⟨gb101, 1, none⟩ = some (.slice (some ⟨go9, 0, none⟩) l0_1.length co10) ∧ w'.cell? ⟨go9, ((ji3)).toNat, none⟩ = some (.int .i64 (rd l0_1 (ji3)))) (ds := [11]) (bA 12 0) (by kernel_rfl) rfl rfl ⟨cz BK101 0, cz BK101 1, hx102_0⟩ (fun hHeld => ?_); refine with_tabW spec_biSet.tab1 spec_biSet.bits1 (fun HT_ HW_ => ?_); generalize w11.drew = w12 at HO0_1 BK101 HK HB GG9 HQ13 hf9_0 hx102_0 hx9_0 hHeld ⊢; refine pZ 0 (some 4) (bA 12 1) HT_.out ?_; refine pZ 2 (some 6) (bA 12 5) HT_.out ?_; refine pZ 3 (some 7) (bA 12 13) HT_.out ?_; refine pZ 6 (some 10) (bA 12 77) HT_.out ?_; refine pZ 7 (some 11) (bA 12 205) HT_.out ?_; refine pZ 8 (some 12) (bA 12 461) HT_.out ?_; refine tZ3 1 (some 5) (bA 12 463) HT_.out HW_.out hHeld ?_; refine pZ 4 (some 8) (bA 12 479) HT_.out ?_; refine tZ3 5 (some 9) (bA 12 511) HT_.out HW_.out hHeld ?_; refine pZ 9 (some 13) (bA 12 1023) HT_.out ?_; refine pZ 10 (some 14) (bA 12 2047) HT_.out ?_; refine lZ 11 none (bA 12 4095) HT_.out (fun K hK => ?_); refine skip_ (w1 := ?_) (by rfl) rfl ?_ ?_
    rotate_left
    ·go_simp
     rfl
    refine hK.out _ _ ?_; clear hK K; refine done_ (done_of HT_.out (by kernel_rfl)) ?_
    try go_wp2
    first | go_end0 | ((try simp only [Exit.inBlock, Exit.then]); refine bodyPost_ret (results_none rfl _ _ _) rfl ?_)
    exact ⟨by first | rfl | (simp [errW_none, errW_some] <;> rfl) | (simp only [← hji3, ← hji6, ← hji8]; first | rfl | (simp [errW_none, errW_some] <;> rfl)) | (simp [*, errW_none, errW_some] <;> rfl), Rz HQ13.out, Bq, by repeat (first | (with_reducible first | exact HK.out | apply Kept.alloc | apply Kept.drewN | apply Kept.drew | refine Kept.setCell ?_ HMgo9.out _ | refine Kept.setCell ?_ (.inr GW101.out) _) | exact HK.out)⟩
   ·rw [if_neg c7] at H
    exact absurd H (by simp)
  ·rw [if_neg c5] at H
   exact absurd H (by simp)
 ·rw [if_neg c4] at H
  exact absurd H (by simp)

def spec_l1Own.f (l0 : List Int) : Option (List Int) := (some (([] : List Int) : List Int)).bind fun y104 => (if y104.length + l0.length < 17592186044416 then (some (y104 ++ l0)) else (none))
theorem spec_l1Own.calls (A0 : Option Addr) (c0 : Nat) (l0 : List Int) (r : List Int) (w : World) (hr0 : Kd.C (Kd.int .i64) w A0 l0.length l0) (hc0 : l0.length ≤ c0) (h : spec_l1Own.f l0 = some r) :
  Calls Try.prog 162 #[.slice A0 l0.length c0] w fun e w' => ∃ v0_ : Value, e = .returned (v0_) ∧ Kd.R (Kd.int .i64) 3 w' w.heap.size (fun _ => True) v0_ r ∧ Below w.heap.size w w' := by
 have HR0 := am hr0; have HC0 := am hc0; clear hr0 hc0; have HB := am (Below.refl w.heap.size w); have H : ((some (([] : List Int) : List Int)).bind fun y104 => (if y104.length + l0.length < 17592186044416 then (some (y104 ++ l0)) else (none))) = some r := h; clear h; obtain ⟨y104, hy104⟩ : ∃ y_ : List Int, y_ = (([] : List Int)) := ⟨_, rfl⟩
 replace H : (if y104.length + l0.length < 17592186044416 then (some (y104 ++ l0)) else (none)) = some r := by first | (rw [hy104]; with_reducible exact H) | (have H2_ := (Option.bind_some _ _).symm.trans H; rw [hy104]; with_reducible exact H2_) | (have H2_ := (Option.bind_some _ _).symm.trans H; with_reducible exact H2_) | with_reducible exact H | (rw [hy104]; exact H) | exact H
 have Ny104 := am hy104; clear hy104
 by_cases c2 : y104.length + l0.length < 17592186044416
 ·rw [if_pos c2] at H
  have LMc2 := am c2; clear c2; obtain ⟨y107, hy107⟩ : ∃ y_ : List Int, y_ = (y104 ++ l0) := ⟨_, rfl⟩
  replace H : (some y107) = some r := by first | (rw [hy107]; with_reducible exact H) | (have H2_ := (Option.bind_some _ _).symm.trans H; rw [hy107]; with_reducible exact H2_) | (have H2_ := (Option.bind_some _ _).symm.trans H; with_reducible exact H2_) | with_reducible exact H | (rw [hy107]; exact H) | exact H
  have Ny107 := am hy107; clear hy107; obtain rfl := Option.some.inj H
  go_enter Try.func162, Try.ntmps162
  go_wp2_with (first | ((with_reducible refine gate_dst (N := 3) rfl ?_); refine Kd.R_lit (Kd.int .i64) _ 3 ?hg (N := 3) ?hd (xs := ([] : List Int)) (inner := []) (ok := fun _ => True) (okp := fun _ => True) ?hr ?hp (fun _ hk => hk) trivial (Below.refl _ _) (Nat.le_refl _) (by simp) ?_; (case hd => rfl); (case hg => rfl); (case hr => first | (go_simp; done) | (go_simp; rfl)); (case hp => exact (Reps.none _ _)); intro v105 w3 ho4 hb hg_ hnew_; clear hg_ hnew_; (first | rw [← Ny104.out] at ho4 | (simp only [Int.reduceToNat] at ho4; rw [← Ny104.out] at ho4)); have n0_ := Rl ho4 HB; have n1_ := Bb HB hb; clear HB; revert n0_ n1_; intro HO106 HB; clear hb ho4) | ((with_reducible refine gate_builtin (b := .append) (xs := #[.tmp 3, .tmp 4]) rfl ?_); at_builtin; refine Kd.R_append_rows (Kd.int .i64) (w0 := w) w.heap.size rfl (.tmp 3) (.tmp 4) 24 3 (.int .i64 0) 8 rfl Try.underlying24 info3 rfl (by decide) (by omega) v105 y104 l0 _ _ _ (fun _ => True) (fun _ => False) rfl rfl ?aO ?aR (fun _ _ h => h) (fun _ h => h.elim) ?aF ?aB ?aS ?aL ?_; (case aR => repeat (first | exact (Kd.C_below HR0.out HB.out) | (with_reducible refine Kd.C_alloc ?_ _) | (with_reducible refine Kd.C_drewN ?_ _) | (with_reducible refine Kd.C_drew ?_))); (case aB => exact (Bz HB.out)); (case aF => exact (fun _ _ => trivial)); (case aO => exact (Rz HO106.out)); (case aS => exact (below_size (Bz HB.out))); (case aL => have := LMc2.out; omega); intro v108 w5 ho hb hg hat; rw [← Ny107.out] at ho; have n0_ := am (hb); have n1_ := am (ho); clear HB HO106; revert n0_ n1_; intro HB HO109; clear ho hb hg hat))
  go_ret
  exact ⟨_, eZ, Rz HO109.out, Bz HB.out⟩
 ·rw [if_neg c2] at H
  exact absurd H (by simp)

def spec_biOwn.f (a0_0 : Int) (l0_1 : List Int) : Option (Int × List Int) := (spec_l1Own.f l0_1).bind fun t112 => (some (a0_0, t112))
theorem spec_biOwn.calls (a0_0 : Int) (A0_1 : Option Addr) (c0_1 : Nat) (l0_1 : List Int) (r1 : Int) (r2 : List Int) (w : World) (hr0_1 : Kd.C (Kd.int .i64) w A0_1 l0_1.length l0_1) (hc0_1 : l0_1.length ≤ c0_1) (h : spec_biOwn.f a0_0 l0_1 = some (r1, r2)) :
  Calls Try.prog 152 #[.agg #[.int .i64 a0_0, .slice A0_1 l0_1.length c0_1]] w fun e w' => ∃ v1_ : Value, e = .returned (.agg #[.int .i64 r1, v1_]) ∧ Kd.R (Kd.int .i64) 3 w' w.heap.size (fun _ => True) v1_ r2 ∧ Below w.heap.size w w' := by
 have hu26 := Try.underlying26; have HR0_1 := am hr0_1; have HC0_1 := am hc0_1; clear hr0_1 hc0_1; have HB := am (Below.refl w.heap.size w); have H : ((spec_l1Own.f l0_1).bind fun t112 => (some (a0_0, t112))) = some (r1, r2) := h; clear h; replace H := Option.bind_eq_some_iff.mp H; obtain ⟨t112, A20, H⟩ := H; (try dsimp -simprocs only at H); have A2 := am A20; clear A20
 simp only [Option.some.injEq, Prod.mk.injEq] at H
 obtain ⟨rfl, rfl⟩ := H
 go_enter Try.func152, Try.ntmps152
 try go_wp2_with (first | ((with_reducible refine gate_dst (N := 1) rfl ?_); refine bE 1 #[.int .i64 a0_0, .slice A0_1 l0_1.length c0_1] 26 ?_; intro gb110 hg w3 hbox hb; have n0_ := Bb HB hb; have n1_ := am (hbox); have n2_ := Gl HB hg; have n3_ := Gl HB hg; clear HB; revert n0_ n1_ n2_ n3_; intro HB BK110 GW110 GE110; clear hb hbox hg) | ((with_reducible refine gate_dst (N := 2) rfl ?_); refine bE 2 #[.int .i64 0, .slice none 0 0] 26 ?_; intro gb111 hg w4 hbox hb; have n0_ := Kb BK110 hb; have n1_ := Bc HB hb; have n2_ := am (hbox); have n3_ := Gm HB hg; have n4_ := Gm HB hg; have n5_ := Nl BK110 hg; have n6_ := Ng BK110 hg; clear BK110 HB; revert n0_ n1_ n2_ n3_ n4_ n5_ n6_; intro BK110 HB BK111 GW111 GE111 NB110_111 NB111_110; clear hb hbox hg))
 have n0_ := am (blk_drew BK110.out); have n1_ := am (blk_drew BK111.out); have n2_ := am (below_drew1 HB.out); clear BK110 BK111 HB; revert n0_ n1_ n2_; intro BK110 BK111 HB; refine start_ (n := 7) (S := fun w' => w'.cell? ⟨gb110, 0, none⟩ = some (.int .i64 a0_0) ∧ w'.cell? ⟨gb110, 1, none⟩ = some (.slice A0_1 l0_1.length c0_1)) (ds := []) (bA 7 0) (by kernel_rfl) rfl rfl ⟨cz BK110 0, cz BK110 1⟩ (fun hHeld => ?_); generalize w4.drew = w5 at BK110 BK111 HB hHeld ⊢; refine pure_ (i := 0) (N := some 3) (v := ?_) (a' := ?_) (bA 7 1) rfl rfl (by kernel_rfl) (fun _ _ _ h => h) (Or.inl ⟨by rfl, ?_⟩) ?_ ?_
 rotate_left
 ·intro w'
  go_simp
  with_reducible rfl
 rotate_left
 ·simp only [aP, i64_w, i32_w]
  rfl
 refine pure_ (i := 2) (N := some 5) (v := ?_) (a' := ?_) (bA 7 5) rfl rfl (by kernel_rfl) (fun _ _ _ h => h) (Or.inl ⟨by rfl, ?_⟩) ?_ ?_
 rotate_left
 ·intro w'
  go_simp
  with_reducible rfl
 rotate_left
 ·simp only [aP, i64_w, i32_w]
  rfl
 refine take_ (i := 1) (N := some 4) (v := ?_) (a' := ?_) (bA 7 7) rfl rfl (by kernel_rfl) (fun _ _ _ h => h) (Or.inl ⟨by rfl, ?_⟩) hHeld ?_ ?_
 rotate_left
 ·rintro w' ⟨s0, s1⟩
  go_simp
  with_reducible rfl
 rotate_left
 ·simp only [aP, i64_w, i32_w]
  rfl
 refine take_ (i := 3) (N := some 6) (v := ?_) (a' := ?_) (bA 7 15) rfl rfl (by kernel_rfl) (fun _ _ _ h => h) (Or.inl ⟨by rfl, ?_⟩) hHeld ?_ ?_
 rotate_left
 ·rintro w' ⟨s0, s1⟩
  go_simp
  with_reducible rfl
 rotate_left
 ·simp only [aP, i64_w, i32_w]
  rfl
 refine one_ (i := 4) (N := some 7) (bA 7 31) rfl rfl (by kernel_rfl) (by decide) (fun K hK => ?_); refine gZ Try.func162 #[.slice A0_1 l0_1.length c0_1] ?_
 with_reducible refine (spec_l1Own.calls _ _ l0_1 t112 _ ?side1 ?side2 A2.out).mono ?_
 (case side1 => exact Cz (Kd.C_below HR0_1.out HB.out))
 (case side2 => exact HC0_1.out)
 rintro e w6 ⟨v113, rfl, ho0, hb⟩; refine ⟨_, rfl, ?_⟩; have n0_ := Rm ho0 HB; have n1_ := Kb BK110 hb; have n2_ := Kb BK111 hb; have n3_ := Bc HB hb; clear BK110 BK111 HB; revert n0_ n1_ n2_ n3_; intro HO114 BK110 BK111 HB
 (try clear hb)
 (try clear hb2)
 (try clear hk)
 (try clear hi)
 (try clear ho0)
 obtain ⟨Ao7, co7, eo7⟩ := Kd.R_slice HO114.out
 (first | subst eo7 | (injection eo7 with f1_ f2_ f3_; have f4_ := f1_.symm; have f5_ := f3_.symm; clear f1_ f2_ f3_; subst f4_; subst f5_))
 refine hK.out _ _ ⟨cz BK110 0, cz BK110 1⟩ (fun hHeld => ?_); clear hK K; refine norm_ (a' := ?_) ?_ ?_; rotate_left; show Act.put _ (some 7) _ = _; simp only [aP, i64_w, i32_w]; rfl; refine pure_ (i := 5) (N := some 8) (v := ?_) (a' := ?_) (bA 7 63) rfl rfl (by kernel_rfl) (fun _ _ _ h => h) (Or.inl ⟨by rfl, ?_⟩) ?_ ?_
 rotate_left
 ·intro w'
  go_simp
  with_reducible rfl
 rotate_left
 ·simp only [aP, i64_w, i32_w]
  rfl
 refine one_ (i := 6) (N := none) (bA 7 127) rfl rfl (by kernel_rfl) (by decide) (fun K hK => ?_); have hs8 : w6.cell? ⟨gb111, 0, none⟩ = some (.int .i64 0) := cz BK111 0; have hfs8 := blk_frozen BK111.out 0; have hns8_0 := NB110_111.out; have hms8_0 := NB111_110.out; have hs9 : w6.cell? ⟨gb111, 1, none⟩ = some (.slice none 0 0) := cz BK111 1; have hfs9 := blk_frozen BK111.out 1; have hns9_0 := NB110_111.out; have hms9_0 := NB111_110.out; refine skip_ (w1 := ?_) (by rfl) rfl ?_ ?_
 rotate_left
 ·go_simp
  rfl
 refine hK.out _ _ ⟨((cell_far (p := ⟨gb111, _, none⟩) NB110_111.out _).trans (((cell_far (p := ⟨gb111, _, none⟩) NB110_111.out _).trans (hHeld.1)))), ((cell_far (p := ⟨gb111, _, none⟩) NB110_111.out _).trans (((cell_far (p := ⟨gb111, _, none⟩) NB110_111.out _).trans (hHeld.2))))⟩ (fun hHeld => ?_); clear hK K; refine done_ (by kernel_rfl) ?_
 try go_wp2
 refine bodyPost_ret (results_cell_row rfl _ _ gb111 26 #[.int .i64 a0_0, .slice Ao7 t112.length co7] (0, 0) _ rfl (by (with_reducible repeat (first | refine blk_drewN ?_ _ | refine blk_drew ?_ | refine blk_alloc ?_ _)); refine blk_put (cs := #[.int .i64 a0_0, .slice none 0 0]) ?_ 1 _ rfl; (with_reducible repeat (first | refine blk_drewN ?_ _ | refine blk_drew ?_ | refine blk_alloc ?_ _)); refine blk_put (cs := #[.int .i64 0, .slice none 0 0]) ?_ 0 _ rfl; exact Kz BK111.out) Try.underlying26 rfl (by kernel_rfl)) rfl ?_; exact ⟨_, eZ, Rz (Kd.R_mono (Kd.R_far (p := ⟨gb111, 1, none⟩) (Kd.R_far (p := ⟨gb111, 0, none⟩) (Kd.R_types HO114.out BK111.out (by decide)) (fun _ hk => hk.2) (.int .i64 a0_0)) (fun _ hk => hk.2) (.slice Ao7 t112.length co7)) (fun _ hk => trivial)), Bq⟩

def spec_biHash.l0 : Nat → ByteArray → Int → Int → Option (Int)
 | 0, _, _, _ => none
 | k + 1, x2, x7, x8 => if x8 < (x2.size : Int) then (if 0 ≤ x8 then (spec_biHash.l0 k x2 (Int.tmod (wrap64 ((wrap64 (263 * x7)) + (wrap64 (bt x2 x8)))) 65521) (wrap64 (x8 + 1))) else (none)) else (some (Int.tmod (wrap64 ((Int.tmod (wrap64 ((Int.tmod (wrap64 ((Int.tmod (wrap64 ((Int.tmod (wrap64 (x7 * x7)) 65521) * (Int.tmod (wrap64 (x7 * x7)) 65521))) 65521) * x7)) 65521) * (Int.tmod (wrap64 ((Int.tmod (wrap64 ((Int.tmod (wrap64 (x7 * x7)) 65521) * (Int.tmod (wrap64 (x7 * x7)) 65521))) 65521) * x7)) 65521))) 65521) * x7)) 65521))
def spec_biHash.f (k : Nat) (a0 : Int) (a1 : Int) (a2 : ByteArray) : Option (Int) := spec_biHash.l0 k a2 (Int.tmod (wrap64 ((wrap64 ((wrap64 (31 * a0)) + (wrap64 (977 * a1)))) + 7)) 65521) 0
theorem spec_biHash.calls (k : Nat) (a0 : Int) (a1 : Int) (a2 : ByteArray) (r : Int) (w : World) (h : spec_biHash.f k a0 a1 a2 = some r) :
  Calls Try.prog 191 #[.int .i64 a0, .int .i64 a1, .string a2] w fun e w' => e = .returned (.int .i64 r) ∧ Drawn0 w w' := by
 have H : (spec_biHash.l0 k a2 (Int.tmod (wrap64 ((wrap64 ((wrap64 (31 * a0)) + (wrap64 (977 * a1)))) + 7)) 65521) 0) = some r := h; clear h; have H' := am H; clear H
 go_enter Try.func191, Try.ntmps191
 go_wp2
 go_loopg [7, 8] k (fun kq v7 v8 w' => ∃ (x7_1 : Int) (x8_1 : Int), v7 = .int .i64 x7_1 ∧ v8 = .int .i64 x8_1 ∧ Aside0 (spec_biHash.l0 kq a2 x7_1 x8_1 = some r) ∧ Aside0 (kq ≤ k) ∧ Drawn0 w w')
 case atStart => exact ⟨(Int.tmod (wrap64 ((wrap64 ((wrap64 (31 * a0)) + (wrap64 (977 * a1)))) + 7)) 65521), (0), wZ, wZ, H', ⟨Nat.le_refl _⟩, by repeat (first | exact Drawn0.refl _ | apply Drawn0.step)⟩
 case round =>
  clear H'
  try clear c1
  try clear p2
  obtain ⟨x7_1, x8_1, rfl, rfl, HA, HK1, ⟨m1, rfl⟩⟩ := hrel; cases gk with
  | zero => exact absurd HA.out (by simp [spec_biHash.l0])
  | succ k1 =>
   have H := HA.out; clear HA
   simp only [spec_biHash.l0] at H
   by_cases c4 : x8_1 < (a2.size : Int)
   ·rw [if_pos c4] at H
    have c4b0 : decide (x8_1 < (a2.size : Int)) = true := decide_eq_true c4; clear c4
    by_cases c5 : 0 ≤ x8_1
    ·rw [if_pos c5] at H
     have c5b0 : decide (0 ≤ x8_1) = true := decide_eq_true c5; clear c5; have H' := am H; clear H; have p6 : 0 ≤ (x8_1 : Int) := dT; have q6 : x8_1 < (a2.size : Int) := dT; have hx6 := bt_at a2 x8_1; replace p6 := eq_true p6; replace q6 := eq_true q6
     go_wp2
     go_roundg k1
     case measure => have := HK1.out; omega
     case rel => exact ⟨(Int.tmod (wrap64 ((wrap64 (263 * x7_1)) + (wrap64 (bt a2 x8_1)))) 65521), (wrap64 (x8_1 + 1)), wZ, wZ, H', ⟨by have := HK1.out; omega⟩, by repeat (first | exact Drawn0.refl _ | apply Drawn0.step)⟩
    ·rw [if_neg c5] at H
     exact absurd H (by simp)
   ·rw [if_neg c4] at H
    have c4b0 : decide (x8_1 < (a2.size : Int)) = false := decide_eq_false c4; clear c4; obtain rfl := Option.some.inj H
    go_wp2
    go_ret
    exact ⟨by first | rfl | (simp; done) | (simp [*]; done), by repeat (first | exact Drawn0.refl _ | apply Drawn0.step)⟩

def spec_biPlace.f (k : Nat) (a0 : Int) (a1 : Int) (a2 : ByteArray) (a3 : Int) : Option (Int) := (spec_biHash.f k a0 a1 a2).bind fun t115 => (some (wrap64 (Int.tdiv (wrap64 (t115 * a3)) 65521)))
theorem spec_biPlace.calls (k : Nat) (a0 : Int) (a1 : Int) (a2 : ByteArray) (a3 : Int) (r : Int) (w : World) (h : spec_biPlace.f k a0 a1 a2 a3 = some r) :
  Calls Try.prog 183 #[.int .i64 a0, .int .i64 a1, .string a2, .int .i64 a3] w fun e w' => e = .returned (.int .i64 r) ∧ Drawn0 w w' := by
 have H : ((spec_biHash.f k a0 a1 a2).bind fun t115 => (some (wrap64 (Int.tdiv (wrap64 (t115 * a3)) 65521)))) = some r := h; clear h; replace H := Option.bind_eq_some_iff.mp H; obtain ⟨t115, A50, H⟩ := H; (try dsimp -simprocs only at H); have A5 := am A50; clear A50; obtain rfl := Option.some.inj H
 go_enter Try.func183, Try.ntmps183
 go_wp2_with (first | ((with_reducible refine gate_callee (f := 191) rfl ?_); refine gL (some 12) Try.func191 #[.int .i64 a0, .int .i64 a1, .string a2] ?_; (with_reducible refine (spec_biHash.calls k a0 a1 a2 t115 _ A5.out).mono ?_); rintro e w' ⟨rfl, ⟨nd, rfl⟩⟩; refine ⟨_, rfl, ?_⟩))
 go_ret
 exact ⟨by first | rfl | (simp; done) | (simp [*]; done), by repeat (first | exact Drawn0.refl _ | apply Drawn0.step)⟩

def spec_fiProbes.l0 : Nat → Int → Int → Int → ByteArray → List Int → Int → Option (List Int)
 | 0, _, _, _, _, _, _ => none
 | k + 1, x0, x1, x2, x3, x9, x10 => if x10 < x1 then ((spec_biPlace.f k x0 x10 x3 x2).bind fun t116 => (if x9.length < 17592186044416 then (spec_fiProbes.l0 k x0 x1 x2 x3 (x9 ++ [t116]) (wrap64 (x10 + 1))) else (none))) else (some x9)
def spec_fiProbes.f (k : Nat) (a0 : Int) (a1 : Int) (a2 : Int) (a3 : ByteArray) : Option (List Int) := spec_fiProbes.l0 k a0 a1 a2 a3 ([] : List Int) 0
theorem spec_fiProbes.calls (k : Nat) (a0 : Int) (a1 : Int) (a2 : Int) (a3 : ByteArray) (r : List Int) (w : World) (h : spec_fiProbes.f k a0 a1 a2 a3 = some r) :
  Calls Try.prog 153 #[.int .i64 a0, .int .i64 a1, .int .i64 a2, .string a3] w fun e w' => ∃ v0_ : Value, e = .returned (v0_) ∧ Kd.R (Kd.int .i64) 3 w' w.heap.size (fun _ => True) v0_ r ∧ Below w.heap.size w w' := by
 have HB := am (Below.refl w.heap.size w); have H : (spec_fiProbes.l0 k a0 a1 a2 a3 ([] : List Int) 0) = some r := h; clear h; have H' := am H; clear H
 go_enter Try.func153, Try.ntmps153
 go_wp2
 go_loopg [9, 10] k (fun kq v9 v10 w' => ∃ (x9_1 : List Int) (x10_1 : Int), v10 = .int .i64 x10_1 ∧ Aside0 (spec_fiProbes.l0 kq a0 a1 a2 a3 x9_1 x10_1 = some r) ∧ Aside0 (kq ≤ k) ∧ Aside0 (Kd.R (Kd.int .i64) 3 w' w.heap.size (fun _ => True) v9 x9_1) ∧ Aside0 (Below w.heap.size w w'))
 case atStart => exact ⟨(([] : List Int)), (0), wZ, H', ⟨Nat.le_refl _⟩, ⟨nZ⟩, ⟨Bz HB.out⟩⟩
 case round =>
  clear H'
  try clear c1
  try clear p2
  obtain ⟨x9_1, x10_1, rfl, HA, HK1, HO_9, HB⟩ := hrel; cases gk with
  | zero => exact absurd HA.out (by simp [spec_fiProbes.l0])
  | succ k1 =>
   have H := HA.out; clear HA
   simp only [spec_fiProbes.l0] at H
   by_cases c5 : x10_1 < a1
   ·rw [if_pos c5] at H
    have c5b0 : decide (x10_1 < a1) = true := decide_eq_true c5; clear c5; replace H := Option.bind_eq_some_iff.mp H; obtain ⟨t116, A60, H⟩ := H; (try dsimp -simprocs only at H); have A6 := am A60; clear A60
    by_cases c7 : x9_1.length < 17592186044416
    ·rw [if_pos c7] at H
     have LMc7 := am c7; clear c7; obtain ⟨y117, hy117⟩ : ∃ y_ : List Int, y_ = (x9_1 ++ [t116]) := ⟨_, rfl⟩
     replace H : (spec_fiProbes.l0 k1 a0 a1 a2 a3 y117 (wrap64 (x10_1 + 1))) = some r := by first | (rw [hy117]; with_reducible exact H) | (have H2_ := (Option.bind_some _ _).symm.trans H; rw [hy117]; with_reducible exact H2_) | (have H2_ := (Option.bind_some _ _).symm.trans H; with_reducible exact H2_) | with_reducible exact H | (rw [hy117]; exact H) | exact H
     have Ny117 := am hy117; clear hy117; have H' := am H; clear H
     go_wp2_with (first | ((with_reducible refine gate_callee (f := 183) rfl ?_); refine gL (some 21) Try.func183 #[.int .i64 a0, .int .i64 x10_1, .string a3, .int .i64 a2] ?_; (with_reducible refine (spec_biPlace.calls k1 a0 x10_1 a3 a2 t116 _ A6.out).mono ?_); rintro e w' ⟨rfl, ⟨nd, rfl⟩⟩; refine ⟨_, rfl, ?_⟩) | ((with_reducible refine gate_builtin (b := .append) (xs := #[.tmp 16, .tmp 22]) rfl ?_); at_builtin; refine Kd.R_append (Kd.int .i64) (w0 := w) w.heap.size rfl (.tmp 16) (.tmp 22) 24 3 (.int .i64 0) 8 rfl Try.underlying24 info3 rfl (by decide) (by omega) u9 x9_1 t116 [.int .i64 t116] (fun _ => True) (fun _ => False) rfl rfl ?aP (fun _ hk => hk.elim) ?aF ?aO ?aB ?aS ?aL ?_; (case aP => exact rfl); (case aB => exact (Bz HB.out)); (case aF => exact (fun _ _ => trivial)); (case aO => exact (Rz HO_9.out)); (case aS => exact (below_size (Bz HB.out))); (case aL => have := LMc7.out; omega); intro v118 w8 ho hb hg hat; rw [← Ny117.out] at ho; have n0_ := am (hb); have n1_ := am (ho); clear HB HO_9; revert n0_ n1_; intro HB HO119; clear ho hb hg hat))
     go_roundg k1
     case measure => have := HK1.out; omega
     case rel => exact ⟨(y117), (wrap64 (x10_1 + 1)), wZ, H', ⟨by have := HK1.out; omega⟩, ⟨Rz HO119.out⟩, ⟨Bz HB.out⟩⟩
    ·rw [if_neg c7] at H
     exact absurd H (by simp)
   ·rw [if_neg c5] at H
    have c5b0 : decide (x10_1 < a1) = false := decide_eq_false c5; clear c5; obtain rfl := Option.some.inj H
    go_wp2
    go_ret
    exact ⟨_, eZ, Rz HO_9.out, Bz HB.out⟩

mutual
def spec_fiAdd.l0 : Nat → List ByteArray → Int → Int → Int → Int → Int → List Int → Int → Int → Int → List Int → Option (Int × Int × Int × List Int)
 | 0, _, _, _, _, _, _, _, _, _, _, _ => none
 | k + 1, x18, x19, x20, x121000, x121001, x121002, x121003, x127000, x127001, x127002, x127003 => if x20 < x19 then (if 0 ≤ x20 then (if x20 < (x18.length : Int) then ((spec_fiProbes.f k x121000 x121001 x121002 (rdOf ByteArray.empty x18 x20)).bind fun t128 => (spec_fiAdd.l1 k x18 x19 x20 t128 (t128.length : Int) 0 x121000 x121001 x121002 x121003 x127000 x127001 x127002 x127003)) else (none)) else (none)) else (some (x127000, x127001, x127002, x127003))
def spec_fiAdd.l1 : Nat → List ByteArray → Int → Int → List Int → Int → Int → Int → Int → Int → List Int → Int → Int → Int → List Int → Option (Int × Int × Int × List Int)
 | 0, _, _, _, _, _, _, _, _, _, _, _, _, _, _ => none
 | k + 1, x18, x19, x20, x32, x33, x34, x121000, x121001, x121002, x121003, x127000, x127001, x127002, x127003 => if x34 < x33 then (if 0 ≤ x34 then (if x34 < (x32.length : Int) then ((spec_biSet.f x127002 x127003 (rd x32 x34)).bind fun t132 => (spec_fiAdd.l1 k x18 x19 x20 x32 x33 (wrap64 (x34 + 1)) x121000 x121001 x121002 x121003 x127000 x127001 x127002 t132)) else (none)) else (none)) else (spec_fiAdd.l0 k x18 x19 (wrap64 (x20 + 1)) x121000 x121001 x121002 x121003 x127000 x127001 x127002 x127003)
end
def spec_fiAdd.f (k : Nat) (a0_0 : Int) (a0_1 : Int) (a0_2 : Int) (l0_3 : List Int) (l1 : List ByteArray) : Option (Int × Int × Int × List Int) := (spec_biOwn.f a0_2 l0_3).bind fun bt122 => (spec_fiAdd.l0 k l1 (l1.length : Int) 0 a0_0 a0_1 a0_2 l0_3 a0_0 a0_1 bt122.1 bt122.2)
def spec_fiAdd.T1 : Bool × List (List Nat × List Nat) := (true, [([], []), ([0], [0]), ([], []), ([2], [2]), ([], []), ([4], [4]), ([5], [5]), ([1, 3, 6], [1, 3, 6]), ([], []), ([8, 7, 6, 0, 1, 2, 3, 4, 5, 6, 7, 8], [7, 8])])
def spec_fiAdd.B1 : List Nat := [0, 1, 0, 4, 0, 16, 48, 127, 0, 511]
theorem spec_fiAdd.tab1 : rtab .any (opsOf Try.f85 1) = spec_fiAdd.T1 := by kernel_rfl
theorem spec_fiAdd.bits1 : waitsOk spec_fiAdd.T1.2 spec_fiAdd.B1 = true := by kernel_rfl
theorem spec_fiAdd.calls (k : Nat) (a0_0 : Int) (a0_1 : Int) (a0_2 : Int) (A0_3 : Option Addr) (c0_3 : Nat) (l0_3 : List Int) (A1 : Option Addr) (c1 : Nat) (l1 : List ByteArray) (r1 : Int) (r2 : Int) (r3 : Int) (r4 : List Int) (w : World) (hr0_3 : Kd.C (Kd.int .i64) w A0_3 l0_3.length l0_3) (hc0_3 : l0_3.length ≤ c0_3) (hr1 : Kd.C Kd.string w A1 l1.length l1) (hc1 : l1.length ≤ c1) (h : spec_fiAdd.f k a0_0 a0_1 a0_2 l0_3 l1 = some (r1, r2, r3, r4)) :
  Calls Try.prog 85 #[.agg #[.int .i64 a0_0, .int .i64 a0_1, .int .i64 a0_2, .slice A0_3 l0_3.length c0_3], .slice A1 l1.length c1] w fun e w' => ∃ v3_ : Value, e = .returned (.agg #[.int .i64 r1, .int .i64 r2, .int .i64 r3, v3_]) ∧ Kd.R (Kd.int .i64) 3 w' w.heap.size (fun _ => True) v3_ r4 ∧ Below w.heap.size w w' := by
 have hu28 := Try.underlying28; have hu26 := Try.underlying26; have HR0_3 := am hr0_3; have HC0_3 := am hc0_3; clear hr0_3 hc0_3; have HR1 := am hr1; have HC1 := am hc1; clear hr1 hc1; have HB := am (Below.refl w.heap.size w); have H : ((spec_biOwn.f a0_2 l0_3).bind fun bt122 => (spec_fiAdd.l0 k l1 (l1.length : Int) 0 a0_0 a0_1 a0_2 l0_3 a0_0 a0_1 bt122.1 bt122.2)) = some (r1, r2, r3, r4) := h; clear h; replace H := Option.bind_eq_some_iff.mp H; obtain ⟨⟨t122, t123⟩, A30, H⟩ := H; (try dsimp -simprocs only at H); have A3 := am A30; clear A30; have H' := am H; clear H
 go_enter Try.func85, Try.ntmps85
 try go_wp2_with (first | ((with_reducible refine gate_dst (N := 2) rfl ?_); refine bE 2 #[.int .i64 a0_0, .int .i64 a0_1, .int .i64 a0_2, .slice A0_3 l0_3.length c0_3] 28 ?_; intro gb120 hg w4 hbox hb; have n0_ := Bb HB hb; have n1_ := am (hbox); have n2_ := Gl HB hg; have n3_ := Gl HB hg; clear HB; revert n0_ n1_ n2_ n3_; intro HB BK120 GW120 GE120; clear hb hbox hg) | ((with_reducible refine gate_dst (N := 4) rfl ?_); refine bE 4 #[.int .i64 0, .int .i64 0, .int .i64 0, .slice none 0 0] 28 ?_; intro gb121 hg w5 hbox hb; have n0_ := Kb BK120 hb; have n1_ := Bc HB hb; have n2_ := am (hbox); have n3_ := Gm HB hg; have n4_ := Gm HB hg; have n5_ := Nl BK120 hg; have n6_ := Ng BK120 hg; clear BK120 HB; revert n0_ n1_ n2_ n3_ n4_ n5_ n6_; intro BK120 HB BK121 GW121 GE121 NB120_121 NB121_120; clear hb hbox hg))
 have n0_ := am (blk_drew BK120.out); have n1_ := am (blk_drew BK121.out); have n2_ := am (below_drew1 HB.out); clear BK120 BK121 HB; revert n0_ n1_ n2_; intro BK120 BK121 HB; refine start_ (n := 10) (S := fun w' => w'.cell? ⟨gb120, 0, none⟩ = some (.int .i64 a0_0) ∧ w'.cell? ⟨gb120, 1, none⟩ = some (.int .i64 a0_1) ∧ w'.cell? ⟨gb120, 2, none⟩ = some (.int .i64 a0_2) ∧ w'.cell? ⟨gb120, 3, none⟩ = some (.slice A0_3 l0_3.length c0_3)) (ds := []) (bA 10 0) (by kernel_rfl) rfl rfl ⟨cz BK120 0, cz BK120 1, cz BK120 2, cz BK120 3⟩ (fun hHeld => ?_); refine with_tabW spec_fiAdd.tab1 spec_fiAdd.bits1 (fun HT_ HW_ => ?_); generalize w5.drew = w6 at BK120 BK121 HB hHeld ⊢; refine pZ 0 (some 10) (bA 10 1) HT_.out ?_; refine pZ 2 (some 12) (bA 10 5) HT_.out ?_; refine pZ 4 (some 14) (bA 10 21) HT_.out ?_; refine tZ4 1 (some 11) (bA 10 23) HT_.out HW_.out hHeld ?_; refine tZ4 3 (some 13) (bA 10 31) HT_.out HW_.out hHeld ?_; refine tZ4 5 (some 15) (bA 10 63) HT_.out HW_.out hHeld ?_; refine join_ (σ := Value × Nat) 1 (bA 10 511) (fun s_ => [(16, .agg #[.int .i64 t122, s_.1]), (5, .pointer (some ⟨s_.2, 0, none⟩)), (17, .agg #[.int .i64 a0_0, .int .i64 a0_1, .int .i64 t122, s_.1])]) (fun s_ w' => (w'.cell? ⟨gb120, 0, none⟩ = some (.int .i64 a0_0) ∧ w'.cell? ⟨gb120, 1, none⟩ = some (.int .i64 a0_1) ∧ w'.cell? ⟨gb120, 2, none⟩ = some (.int .i64 a0_2) ∧ w'.cell? ⟨gb120, 3, none⟩ = some (.slice A0_3 l0_3.length c0_3)) ∧ (Kd.R (Kd.int .i64) 3 w' w.heap.size (fun _ => True) s_.1 t123) ∧ (w'.heap[gb120]? = some (.cells #[.int .i64 a0_0, .int .i64 a0_1, .int .i64 a0_2, .slice A0_3 l0_3.length c0_3] 28 (0, 0))) ∧ (w'.heap[gb121]? = some (.cells #[.int .i64 0, .int .i64 0, .int .i64 0, .slice none 0 0] 28 (0, 0))) ∧ (w'.heap[s_.2]? = some (.cells #[.int .i64 0, .int .i64 0, .int .i64 0, .slice none 0 0] 28 (0, 0))) ∧ (w.heap.size ≤ s_.2) ∧ (w.heap.size ≤ s_.2) ∧ (gb120 ≠ s_.2) ∧ (s_.2 ≠ gb120) ∧ (gb121 ≠ s_.2) ∧ (s_.2 ≠ gb121) ∧ (Below w.heap.size w w')) ?_ ?_
 rotate_left
 ·intro hCont
  refine two_ (i := 6) (j := 8) (Ni := some 16) (Nj := some 5) (bA 10 127) (bA 10 319) rfl rfl rfl rfl (two_of HT_.out (by kernel_rfl)) (by decide) (by decide) (fun K hK => ?_) (fun K hK => ?_)
  ·skip
   refine gZ Try.func152 #[.agg #[.int .i64 a0_2, .slice A0_3 l0_3.length c0_3]] ?_
   with_reducible refine (spec_biOwn.calls a0_2 _ _ l0_3 t122 t123 _ ?side1 ?side2 A3.out).mono ?_
   (case side1 => exact Cz (Kd.C_below HR0_3.out HB.out))
   (case side2 => exact HC0_3.out)
   rintro e w7 ⟨v124, rfl, ho0, hb⟩; refine ⟨_, rfl, ?_⟩; have n0_ := Rm ho0 HB; have n1_ := Kb BK120 hb; have n2_ := Kb BK121 hb; have n3_ := Bc HB hb; clear BK120 BK121 HB; revert n0_ n1_ n2_ n3_; intro HO125 BK120 BK121 HB
   (try clear hb)
   (try clear hb2)
   (try clear hk)
   (try clear hi)
   (try clear ho0)
   obtain ⟨Ao8, co8, eo8⟩ := Kd.R_slice HO125.out
   (first | subst eo8 | (injection eo8 with f1_ f2_ f3_; have f4_ := f1_.symm; have f5_ := f3_.symm; clear f1_ f2_ f3_; subst f4_; subst f5_))
   refine hK.out _ _ ⟨cz BK120 0, cz BK120 1, cz BK120 2, cz BK120 3⟩ (fun hHeld => ?_); clear hK K; refine norm_ (a' := ?_) ?_ ?_; rotate_left; show Act.put _ (some 16) _ = _; simp only [aP, i64_w, i32_w]; rfl; refine pZ 7 (some 17) (bA 10 255) HT_.out ?_; refine oZ 8 (some 5) (bA 10 511) HT_.out (fun K hK => ?_); refine box_step ?hg (N := 5) ?hd (cs := #[.int .i64 0, .int .i64 0, .int .i64 0, .slice none 0 0]) (t := 28) ?hr ?_; (case hd => rfl); (case hg => rfl); (case hr => first | (go_simp; done) | (go_simp; rfl)); intro gb126 hg w9 hbox hb; have n0_ := Rb HO125 hb; have n1_ := Kb BK120 hb; have n2_ := Kb BK121 hb; have n3_ := Bc HB hb; have n4_ := am (hbox); have n5_ := Gm HB hg; have n6_ := Gm HB hg; have n7_ := Nl BK120 hg; have n8_ := Ng BK120 hg; have n9_ := Nl BK121 hg; have n10_ := Ng BK121 hg; clear HO125 BK120 BK121 HB; revert n0_ n1_ n2_ n3_ n4_ n5_ n6_ n7_ n8_ n9_ n10_; intro HO125 BK120 BK121 HB BK126 GW126 GE126 NB120_126 NB126_120 NB121_126 NB126_121; clear hb hbox hg; refine hK.out _ _ ⟨cz BK120 0, cz BK120 1, cz BK120 2, cz BK120 3⟩ (fun hHeld => ?_); clear hK K; refine norm_ (a' := ?_) ?_ ?_; rotate_left; show Act.put _ (some 5) _ = _; simp only [aP, i64_w, i32_w]; rfl; exact norm_ (by simp only [putAll, aP]) (hCont (.slice Ao8 t123.length co8, gb126) _ ⟨hHeld, (Rz HO125.out), (Kz BK120.out), (Kz BK121.out), (Kz BK126.out), GW126.out, GE126.out, NB120_126.out, NB126_120.out, NB121_126.out, NB126_121.out, (Bq)⟩)
  ·skip
   refine box_step ?hg (N := 5) ?hd (cs := #[.int .i64 0, .int .i64 0, .int .i64 0, .slice none 0 0]) (t := 28) ?hr ?_; (case hd => rfl); (case hg => rfl); (case hr => first | (go_simp; done) | (go_simp; rfl)); intro gb126 hg w7 hbox hb; have n0_ := Kb BK120 hb; have n1_ := Kb BK121 hb; have n2_ := Bc HB hb; have n3_ := am (hbox); have n4_ := Gm HB hg; have n5_ := Gm HB hg; have n6_ := Nl BK120 hg; have n7_ := Ng BK120 hg; have n8_ := Nl BK121 hg; have n9_ := Ng BK121 hg; clear BK120 BK121 HB; revert n0_ n1_ n2_ n3_ n4_ n5_ n6_ n7_ n8_ n9_; intro BK120 BK121 HB BK126 GW126 GE126 NB120_126 NB126_120 NB121_126 NB126_121; clear hb hbox hg; refine hK.out _ _ ⟨cz BK120 0, cz BK120 1, cz BK120 2, cz BK120 3⟩ (fun hHeld => ?_); clear hK K; refine norm_ (a' := ?_) ?_ ?_; rotate_left; show Act.put _ (some 5) _ = _; simp only [aP, i64_w, i32_w]; rfl; refine oZ 6 (some 16) (bA 10 383) HT_.out (fun K hK => ?_); refine gZ Try.func152 #[.agg #[.int .i64 a0_2, .slice A0_3 l0_3.length c0_3]] ?_
   with_reducible refine (spec_biOwn.calls a0_2 _ _ l0_3 t122 t123 _ ?side1 ?side2 A3.out).mono ?_
   (case side1 => exact Cz (Kd.C_below HR0_3.out HB.out))
   (case side2 => exact HC0_3.out)
   rintro e w8 ⟨v124, rfl, ho0, hb⟩; refine ⟨_, rfl, ?_⟩; have n0_ := Rm ho0 HB; have n1_ := Kb BK120 hb; have n2_ := Kb BK121 hb; have n3_ := Kb BK126 hb; have n4_ := Bc HB hb; clear BK120 BK121 BK126 HB; revert n0_ n1_ n2_ n3_ n4_; intro HO125 BK120 BK121 BK126 HB
   (try clear hb)
   (try clear hb2)
   (try clear hk)
   (try clear hi)
   (try clear ho0)
   obtain ⟨Ao9, co9, eo9⟩ := Kd.R_slice HO125.out
   (first | subst eo9 | (injection eo9 with f1_ f2_ f3_; have f4_ := f1_.symm; have f5_ := f3_.symm; clear f1_ f2_ f3_; subst f4_; subst f5_))
   refine hK.out _ _ ⟨cz BK120 0, cz BK120 1, cz BK120 2, cz BK120 3⟩ (fun hHeld => ?_); clear hK K; refine norm_ (a' := ?_) ?_ ?_; rotate_left; show Act.put _ (some 16) _ = _; simp only [aP, i64_w, i32_w]; rfl; refine pZ 7 (some 17) (bA 10 511) HT_.out ?_; exact norm_ (by simp only [putAll, aP]) (hCont (.slice Ao9 t123.length co9, gb126) _ ⟨hHeld, (Rz HO125.out), (Kz BK120.out), (Kz BK121.out), (Kz BK126.out), GW126.out, GE126.out, NB120_126.out, NB126_120.out, NB121_126.out, NB126_121.out, (Bq)⟩)
 rintro ⟨v124, gb126⟩ w10 ⟨hS_, h0_, h1_, h2_, h3_, h4_, h5_, h6_, h7_, h8_, h9_, h10_⟩; (try dsimp -simprocs only at h0_ h1_ h2_ h3_ h4_ h5_ h6_ h7_ h8_ h9_ h10_); have n0_ := am h0_; have n1_ := am h1_; have n2_ := am h2_; have n3_ := am h3_; have n4_ := am h4_; have n5_ := am h5_; have n6_ := am h6_; have n7_ := am h7_; have n8_ := am h8_; have n9_ := am h9_; have n10_ : Aside0 (Below w.heap.size w w10) := ⟨h10_⟩; clear BK120 BK121 HB; clear h0_ h1_ h2_ h3_ h4_ h5_ h6_ h7_ h8_ h9_ h10_; revert n0_ n1_ n2_ n3_ n4_ n5_ n6_ n7_ n8_ n9_ n10_; intro HO125 BK120 BK121 BK126 GW126 GE126 NB120_126 NB126_120 NB121_126 NB126_121 HB; have hHeld : w10.cell? ⟨gb120, 0, none⟩ = some (.int .i64 a0_0) ∧ w10.cell? ⟨gb120, 1, none⟩ = some (.int .i64 a0_1) ∧ w10.cell? ⟨gb120, 2, none⟩ = some (.int .i64 a0_2) ∧ w10.cell? ⟨gb120, 3, none⟩ = some (.slice A0_3 l0_3.length c0_3) := hS_; obtain ⟨Ao11, co11, eo11⟩ := Kd.R_slice HO125.out
 (first | subst eo11 | (injection eo11 with f1_ f2_ f3_; have f4_ := f1_.symm; have f5_ := f3_.symm; clear f1_ f2_ f3_; subst f4_; subst f5_))
 refine norm_ (a' := ?_) ?_ ?_
 rotate_left
 ·simp only [putAll, aP]
  rfl
 refine oZ 9 none (bA 10 1023) HT_.out (fun K hK => ?_); have hs12 : w10.cell? ⟨gb126, 0, none⟩ = some (.int .i64 0) := cz BK126 0; have hfs12 := blk_frozen BK126.out 0; have hns12_0 := NB120_126.out; have hns12_1 := NB121_126.out; have hms12_0 := NB126_120.out; have hms12_1 := NB126_121.out; have hs13 : w10.cell? ⟨gb126, 1, none⟩ = some (.int .i64 0) := cz BK126 1; have hfs13 := blk_frozen BK126.out 1; have hns13_0 := NB120_126.out; have hns13_1 := NB121_126.out; have hms13_0 := NB126_120.out; have hms13_1 := NB126_121.out; have hs14 : w10.cell? ⟨gb126, 2, none⟩ = some (.int .i64 0) := cz BK126 2; have hfs14 := blk_frozen BK126.out 2; have hns14_0 := NB120_126.out; have hns14_1 := NB121_126.out; have hms14_0 := NB126_120.out; have hms14_1 := NB126_121.out; have hs15 : w10.cell? ⟨gb126, 3, none⟩ = some (.slice none 0 0) := cz BK126 3; have hfs15 := blk_frozen BK126.out 3; have hns15_0 := NB120_126.out; have hns15_1 := NB121_126.out; have hms15_0 := NB126_120.out; have hms15_1 := NB126_121.out; refine skip_ (w1 := ?_) (by rfl) rfl ?_ ?_
 rotate_left
 ·go_simp
  rfl
 refine hK.out _ _ ⟨((cell_far (p := ⟨gb126, _, none⟩) NB120_126.out _).trans (((cell_far (p := ⟨gb126, _, none⟩) NB120_126.out _).trans (((cell_far (p := ⟨gb126, _, none⟩) NB120_126.out _).trans (((cell_far (p := ⟨gb126, _, none⟩) NB120_126.out _).trans (hHeld.1)))))))), ((cell_far (p := ⟨gb126, _, none⟩) NB120_126.out _).trans (((cell_far (p := ⟨gb126, _, none⟩) NB120_126.out _).trans (((cell_far (p := ⟨gb126, _, none⟩) NB120_126.out _).trans (((cell_far (p := ⟨gb126, _, none⟩) NB120_126.out _).trans (hHeld.2.1)))))))), ((cell_far (p := ⟨gb126, _, none⟩) NB120_126.out _).trans (((cell_far (p := ⟨gb126, _, none⟩) NB120_126.out _).trans (((cell_far (p := ⟨gb126, _, none⟩) NB120_126.out _).trans (((cell_far (p := ⟨gb126, _, none⟩) NB120_126.out _).trans (hHeld.2.2.1)))))))), ((cell_far (p := ⟨gb126, _, none⟩) NB120_126.out _).trans (((cell_far (p := ⟨gb126, _, none⟩) NB120_126.out _).trans (((cell_far (p := ⟨gb126, _, none⟩) NB120_126.out _).trans (((cell_far (p := ⟨gb126, _, none⟩) NB120_126.out _).trans (hHeld.2.2.2))))))))⟩ (fun hHeld => ?_); clear hK K; refine done_ (done_of HT_.out (by kernel_rfl)) ?_
 try go_wp2
 go_loopg [20] k (fun kq v20 w' => ∃ (x20_1 : Int) (x127003_1 : List Int) (u127003 : Value), v20 = .int .i64 x20_1 ∧ Aside0 (spec_fiAdd.l0 kq l1 (l1.length : Int) x20_1 a0_0 a0_1 a0_2 l0_3 a0_0 a0_1 t122 x127003_1 = some (r1, r2, r3, r4)) ∧ Aside0 (kq ≤ k) ∧ Aside0 (Kd.R (Kd.int .i64) 3 w' w.heap.size (fun _ => True) u127003 x127003_1) ∧ Aside0 (w'.heap[gb120]? = some (.cells #[.int .i64 a0_0, .int .i64 a0_1, .int .i64 a0_2, (.slice A0_3 l0_3.length c0_3)] 28 (0, 0))) ∧ Aside0 (w'.heap[gb121]? = some (.cells #[.int .i64 0, .int .i64 0, .int .i64 0, (.slice none 0 0)] 28 (0, 0))) ∧ Aside0 (w'.heap[gb126]? = some (.cells #[.int .i64 a0_0, .int .i64 a0_1, .int .i64 t122, u127003] 28 (0, 0))) ∧ Aside0 (Below w.heap.size w w'))
 case atStart => exact ⟨(0), (t123), (.slice Ao11 t123.length co11), wZ, H', ⟨Nat.le_refl _⟩, ⟨Rz (Kd.R_mono (Kd.R_far (p := ⟨gb126, 3, none⟩) (Kd.R_far (p := ⟨gb126, 2, none⟩) (Kd.R_far (p := ⟨gb126, 1, none⟩) (Kd.R_far (p := ⟨gb126, 0, none⟩) (Kd.R_types HO125.out BK126.out (by decide)) (fun _ hk => hk.2) (.int .i64 a0_0)) (fun _ hk => hk.2) (.int .i64 a0_1)) (fun _ hk => hk.2) (.int .i64 t122)) (fun _ hk => hk.2) (.slice Ao11 t123.length co11)) (fun _ hk => trivial))⟩, ⟨by (with_reducible repeat (first | refine blk_drewN ?_ _ | refine blk_drew ?_ | refine blk_alloc ?_ _)); refine blk_far ?_ NB120_126.out _; (with_reducible repeat (first | refine blk_drewN ?_ _ | refine blk_drew ?_ | refine blk_alloc ?_ _)); refine blk_far ?_ NB120_126.out _; (with_reducible repeat (first | refine blk_drewN ?_ _ | refine blk_drew ?_ | refine blk_alloc ?_ _)); refine blk_far ?_ NB120_126.out _; (with_reducible repeat (first | refine blk_drewN ?_ _ | refine blk_drew ?_ | refine blk_alloc ?_ _)); refine blk_far ?_ NB120_126.out _; (with_reducible repeat (first | refine blk_drewN ?_ _ | refine blk_drew ?_ | refine blk_alloc ?_ _)); exact BK120.out⟩, ⟨by (with_reducible repeat (first | refine blk_drewN ?_ _ | refine blk_drew ?_ | refine blk_alloc ?_ _)); refine blk_far ?_ NB121_126.out _; (with_reducible repeat (first | refine blk_drewN ?_ _ | refine blk_drew ?_ | refine blk_alloc ?_ _)); refine blk_far ?_ NB121_126.out _; (with_reducible repeat (first | refine blk_drewN ?_ _ | refine blk_drew ?_ | refine blk_alloc ?_ _)); refine blk_far ?_ NB121_126.out _; (with_reducible repeat (first | refine blk_drewN ?_ _ | refine blk_drew ?_ | refine blk_alloc ?_ _)); refine blk_far ?_ NB121_126.out _; (with_reducible repeat (first | refine blk_drewN ?_ _ | refine blk_drew ?_ | refine blk_alloc ?_ _)); exact BK121.out⟩, ⟨by (with_reducible repeat (first | refine blk_drewN ?_ _ | refine blk_drew ?_ | refine blk_alloc ?_ _)); refine blk_put (cs := #[.int .i64 a0_0, .int .i64 a0_1, .int .i64 t122, .slice none 0 0]) ?_ 3 _ rfl; (with_reducible repeat (first | refine blk_drewN ?_ _ | refine blk_drew ?_ | refine blk_alloc ?_ _)); refine blk_put (cs := #[.int .i64 a0_0, .int .i64 a0_1, .int .i64 0, .slice none 0 0]) ?_ 2 _ rfl; (with_reducible repeat (first | refine blk_drewN ?_ _ | refine blk_drew ?_ | refine blk_alloc ?_ _)); refine blk_put (cs := #[.int .i64 a0_0, .int .i64 0, .int .i64 0, .slice none 0 0]) ?_ 1 _ rfl; (with_reducible repeat (first | refine blk_drewN ?_ _ | refine blk_drew ?_ | refine blk_alloc ?_ _)); refine blk_put (cs := #[.int .i64 0, .int .i64 0, .int .i64 0, .slice none 0 0]) ?_ 0 _ rfl; (with_reducible repeat (first | refine blk_drewN ?_ _ | refine blk_drew ?_ | refine blk_alloc ?_ _)); exact BK126.out⟩, ⟨Bq⟩⟩
 case round =>
  clear H'
  try clear c1
  try clear p2
  try clear c8
  try clear c15
  obtain ⟨x20_1, x127003_1, u127003, rfl, HA, HK1, HO_127003, BK120, BK121, BK126, HB⟩ := hrel; cases gk with
  | zero => exact absurd HA.out (by simp [spec_fiAdd.l0])
  | succ k1 =>
   have H := HA.out; clear HA
   simp only [spec_fiAdd.l0] at H
   by_cases c16 : x20_1 < (l1.length : Int)
   ·rw [if_pos c16] at H
    have c16b0 : decide (x20_1 < (l1.length : Int)) = true := decide_eq_true c16; clear c16
    by_cases c17 : 0 ≤ x20_1
    ·rw [if_pos c17] at H
     have c17b0 : decide (0 ≤ x20_1) = true := decide_eq_true c17; clear c17
     by_cases c18 : x20_1 < (l1.length : Int)
     ·rw [if_pos c18] at H
      have c18b0 : decide (x20_1 < (l1.length : Int)) = true := decide_eq_true c18; clear c18; replace H := Option.bind_eq_some_iff.mp H; obtain ⟨t128, A190, H⟩ := H; (try dsimp -simprocs only at H); have A19 := am A190; clear A190; have H' := am H; clear H; have p127 : 0 ≤ (x20_1 : Int) := dT; have q127 : x20_1 < (l1.length : Int) := dT; obtain ⟨ad127, e127, hx127_0⟩ := Kd.at_string HR1.out x20_1 p127 q127; cases e127; replace hx127_0 := (HB.out.cell (World.block_lt_of_cell? w _ hx127_0)).trans hx127_0; replace p127 := eq_true p127; replace q127 := eq_true q127; have hnb20 := NB120_121.out; have hnc20 := NB121_120.out; have hnb21 := NB120_126.out; have hnc21 := NB126_120.out; obtain ⟨hcz22_0, hcz22_1, hcz22_2, hcz22_3, hfz22_0, hfz22_1, hfz22_2, hfz22_3⟩ := cf4 (w := wr) BK120
      go_wp2_with (first | ((with_reducible refine gate_callee (f := 153) rfl ?_); refine gL (some 32) Try.func153 #[.int .i64 a0_0, .int .i64 a0_1, .int .i64 a0_2, .string (rdOf ByteArray.empty l1 x20_1)] ?_; (with_reducible refine (spec_fiProbes.calls k1 a0_0 a0_1 a0_2 (rdOf ByteArray.empty l1 x20_1) t128 _ A19.out).mono ?_); rintro e w23 ⟨v129, rfl, ho0, hb⟩; refine ⟨_, rfl, ?_⟩; have n0_ := Re HO_127003 (Kd.R_base ho0) hb; have n1_ := Rm (Kd.R_new' ho0 (Kd.R_lt (Rz HO_127003.out))) HB; have n2_ := Kb BK120 hb; have n3_ := Kb BK121 hb; have n4_ := Kb BK126 hb; have n5_ := Bc HB hb; clear HO_127003 BK120 BK121 BK126 HB; revert n0_ n1_ n2_ n3_ n4_ n5_; intro HO_127003 HO130 BK120 BK121 BK126 HB; (try clear hb); (try clear hb2); (try clear hk); (try clear hi); (try clear ho0); obtain ⟨Ao24, co24, eo24⟩ := Kd.R_slice HO130.out; subst eo24))
      (try simp only [aP])
      go_loopg [34] k1 (fun kq v34 w' => ∃ (x34_2 : Int) (x127003_2 : List Int) (u127003 : Value), v34 = .int .i64 x34_2 ∧ Aside0 (spec_fiAdd.l1 kq l1 (l1.length : Int) x20_1 t128 (t128.length : Int) x34_2 a0_0 a0_1 a0_2 l0_3 a0_0 a0_1 t122 x127003_2 = some (r1, r2, r3, r4)) ∧ Aside0 (kq ≤ k1) ∧ Aside0 (Kd.R (Kd.int .i64) 3 w' w.heap.size (fun k_ => some k_ ≠ (u127003 : Value).ownBlock) (.slice Ao24 t128.length co24) t128) ∧ Aside0 (Kd.R (Kd.int .i64) 3 w' w.heap.size (fun k_ => some k_ ≠ ((.slice Ao24 t128.length co24) : Value).ownBlock) u127003 x127003_2) ∧ Aside0 (w'.heap[gb120]? = some (.cells #[.int .i64 a0_0, .int .i64 a0_1, .int .i64 a0_2, (.slice A0_3 l0_3.length c0_3)] 28 (0, 0))) ∧ Aside0 (w'.heap[gb121]? = some (.cells #[.int .i64 0, .int .i64 0, .int .i64 0, (.slice none 0 0)] 28 (0, 0))) ∧ Aside0 (w'.heap[gb126]? = some (.cells #[.int .i64 a0_0, .int .i64 a0_1, .int .i64 t122, u127003] 28 (0, 0))) ∧ Aside0 (Below w.heap.size w w'))
      case atStart => exact ⟨(0), (x127003_1), (u127003), wZ, H', ⟨Nat.le_refl _⟩, ⟨Rz (Kd.R_mono HO130.out (fun _ hk => hk.2))⟩, ⟨Rz (Kd.R_mono HO_127003.out (fun _ hk => hk.2))⟩, ⟨Kz BK120.out⟩, ⟨Kz BK121.out⟩, ⟨Kz BK126.out⟩, ⟨Bq⟩⟩
      case round =>
       clear H'
       try clear c1
       try clear p1
       try clear q1
       try clear hx1
       try clear c2
       try clear p2
       try clear c8
       try clear p12
       try clear q12
       try clear hx12
       try clear c15
       try clear c16
       try clear c16b0
       try clear c17
       try clear c17b0
       try clear c18
       try clear c18b0
       try clear c20
       try clear c21
       try clear hcz22_0
       try clear hcz22_1
       try clear hcz22_2
       try clear hcz22_3
       try clear hfz22_0
       try clear hfz22_1
       try clear hfz22_2
       try clear hfz22_3
       try clear hx127_0
       try clear p127
       try clear p2
       try clear q127
       obtain ⟨x34_2, x127003_2, u127003, rfl, HA, HK2, HO_32, HO_127003, BK120, BK121, BK126, HB⟩ := hrel; cases gk with
       | zero => exact absurd HA.out (by simp [spec_fiAdd.l1])
       | succ k2 =>
        have H := HA.out; clear HA
        simp only [spec_fiAdd.l1] at H
        by_cases c25 : x34_2 < (t128.length : Int)
        ·rw [if_pos c25] at H
         have c25b0 : decide (x34_2 < (t128.length : Int)) = true := decide_eq_true c25; clear c25
         by_cases c26 : 0 ≤ x34_2
         ·rw [if_pos c26] at H
          have c26b0 : decide (0 ≤ x34_2) = true := decide_eq_true c26; clear c26
          by_cases c27 : x34_2 < (t128.length : Int)
          ·rw [if_pos c27] at H
           have c27b0 : decide (x34_2 < (t128.length : Int)) = true := decide_eq_true c27; clear c27; replace H := Option.bind_eq_some_iff.mp H; obtain ⟨t132, A280, H⟩ := H; (try dsimp -simprocs only at H); have A28 := am A280; clear A280; have H' := am H; clear H; obtain ⟨ad131, e131, hx131_0⟩ := Kd.at_int (Kd.R_reads' HO_32.out).2.2 x34_2 dT dT; cases e131; have p131 := eT (0 ≤ (x34_2 : Int)); have q131 := eT (x34_2 < (t128.length : Int)); have hnb29 := NB126_120.out; have hnc29 := NB120_126.out; have hnb30 := NB126_121.out; have hnc30 := NB121_126.out; obtain ⟨hcz31_0, hcz31_1, hcz31_2, hcz31_3, hfz31_0, hfz31_1, hfz31_2, hfz31_3⟩ := cf4 (w := wr) BK126; obtain ⟨Ao32, co32, eo32⟩ := Kd.R_slice HO_127003.out; subst eo32
           go_wp2_with (first | ((with_reducible refine gate_callee (f := 145) rfl ?_); refine gL (some 41) Try.func145 #[.agg #[.int .i64 t122, .slice Ao32 x127003_2.length co32], .int .i64 (rd t128 x34_2)] ?_; (with_reducible refine (spec_biSet.calls t122 (fun k_ => some k_ = (.slice Ao32 x127003_2.length co32 : Value).ownBlock) (.slice Ao32 x127003_2.length co32) x127003_2 (rd t128 x34_2) t132 w _ ?side1 ?side2 A28.out).mono ?_); (case side1 => repeat (first | (with_reducible first | exact HB.out | apply below_alloc | apply pw_below_drewN | apply below_drew1 | refine below_set ?_ GE120.out | refine below_set ?_ GE121.out | refine below_set ?_ GE126.out) | exact HB.out)); (case side2 => exact Kd.R_tight rfl HO_127003.out); rintro e w33 ⟨rfl, hy0, hb, hkp⟩; refine ⟨_, rfl, ?_⟩; have n0_ := am (Kd.R_mono (ok' := fun k_ => some k_ ≠ (.slice Ao32 x127003_2.length co32 : Value).ownBlock) (Kd.R_keptB (HO_32.out) hkp (fun k_ hk_ hs_ => (hk_) hs_)) (fun k_ hk_ => hk_.1)); have n1_ := am (Kd.R_reok rfl hy0 (fun k_ e_ => HO_127003.out.1 k_ e_)); have n2_ := am (blk_kept (Kz BK120.out) hkp (fun hs_ => (fun e_ => (Kd.R_ne HO_127003.out BK120.out (by decide)) e_) hs_)); have n3_ := am (blk_kept (Kz BK121.out) hkp (fun hs_ => (fun e_ => (Kd.R_ne HO_127003.out BK121.out (by decide)) e_) hs_)); have n4_ := am (blk_kept (Kz BK126.out) hkp (fun hs_ => (fun e_ => (Kd.R_ne HO_127003.out BK126.out (by decide)) e_) hs_)); have n5_ := am (hb); clear HO_32 HO_127003 BK120 BK121 BK126 HB; revert n0_ n1_ n2_ n3_ n4_ n5_; intro HO_32 HO_127003 BK120 BK121 BK126 HB; (try clear hb); (try clear hkp); (try clear hy0)))
           go_roundg k2
           case measure => have := HK1.out; have := HK2.out; omega
           case rel => exact ⟨(wrap64 (x34_2 + 1)), (t132), (.slice Ao32 x127003_2.length co32), wZ, H', ⟨by have := HK1.out; have := HK2.out; omega⟩, ⟨Rz HO_32.out⟩, ⟨Rz HO_127003.out⟩, ⟨Kz BK120.out⟩, ⟨Kz BK121.out⟩, ⟨Kz BK126.out⟩, ⟨Bq⟩⟩
          ·rw [if_neg c27] at H
           exact absurd H (by simp)
         ·rw [if_neg c26] at H
          exact absurd H (by simp)
        ·rw [if_neg c25] at H
         have c25b0 : decide (x34_2 < (t128.length : Int)) = false := decide_eq_false c25; clear c25; have H' := am H; clear H
         go_wp2
         go_roundg k2
         case measure => have := HK1.out; have := HK2.out; omega
         case rel => exact ⟨(wrap64 (x20_1 + 1)), (x127003_2), (u127003), wZ, H', ⟨by have := HK1.out; have := HK2.out; omega⟩, ⟨Rz (Kd.R_mono HO_127003.out (fun _ hk => trivial))⟩, ⟨Kz BK120.out⟩, ⟨Kz BK121.out⟩, ⟨Kz BK126.out⟩, ⟨Bq⟩⟩
     ·rw [if_neg c18] at H
      exact absurd H (by simp)
    ·rw [if_neg c17] at H
     exact absurd H (by simp)
   ·rw [if_neg c16] at H
    have c16b0 : decide (x20_1 < (l1.length : Int)) = false := decide_eq_false c16; clear c16
    simp only [Option.some.injEq, Prod.mk.injEq] at H
    obtain ⟨rfl, rfl, rfl, rfl⟩ := H; have hnb34 := NB126_120.out; have hnc34 := NB120_126.out; have hnb35 := NB126_121.out; have hnc35 := NB121_126.out; obtain ⟨hcz36_0, hcz36_1, hcz36_2, hcz36_3, hfz36_0, hfz36_1, hfz36_2, hfz36_3⟩ := cf4 (w := wr) BK126; have hnb37 := NB121_120.out; have hnc37 := NB120_121.out; obtain ⟨hcz38_0, hcz38_1, hcz38_2, hcz38_3, hfz38_0, hfz38_1, hfz38_2, hfz38_3⟩ := cf4 (w := wr) BK121; obtain ⟨Ao39, co39, eo39⟩ := Kd.R_slice HO_127003.out; subst eo39
    go_wp2
    refine bodyPost_ret (results_cell_row rfl _ _ gb121 28 #[.int .i64 a0_0, .int .i64 a0_1, .int .i64 t122, .slice Ao39 x127003_1.length co39] (0, 0) _ rfl (by (with_reducible repeat (first | refine blk_drewN ?_ _ | refine blk_drew ?_ | refine blk_alloc ?_ _)); refine blk_put (cs := #[.int .i64 a0_0, .int .i64 a0_1, .int .i64 t122, .slice none 0 0]) ?_ 3 _ rfl; (with_reducible repeat (first | refine blk_drewN ?_ _ | refine blk_drew ?_ | refine blk_alloc ?_ _)); refine blk_put (cs := #[.int .i64 a0_0, .int .i64 a0_1, .int .i64 0, .slice none 0 0]) ?_ 2 _ rfl; (with_reducible repeat (first | refine blk_drewN ?_ _ | refine blk_drew ?_ | refine blk_alloc ?_ _)); refine blk_put (cs := #[.int .i64 a0_0, .int .i64 0, .int .i64 0, .slice none 0 0]) ?_ 1 _ rfl; (with_reducible repeat (first | refine blk_drewN ?_ _ | refine blk_drew ?_ | refine blk_alloc ?_ _)); refine blk_put (cs := #[.int .i64 0, .int .i64 0, .int .i64 0, .slice none 0 0]) ?_ 0 _ rfl; exact Kz BK121.out) Try.underlying28 rfl (by kernel_rfl)) rfl ?_; exact ⟨_, eZ, Rz (Kd.R_mono (Kd.R_far (p := ⟨gb121, 3, none⟩) (Kd.R_far (p := ⟨gb121, 2, none⟩) (Kd.R_far (p := ⟨gb121, 1, none⟩) (Kd.R_far (p := ⟨gb121, 0, none⟩) (Kd.R_types HO_127003.out BK121.out (by decide)) (fun _ hk => hk.2) (.int .i64 a0_0)) (fun _ hk => hk.2) (.int .i64 a0_1)) (fun _ hk => hk.2) (.int .i64 t122)) (fun _ hk => hk.2) (.slice Ao39 x127003_1.length co39)) (fun _ hk => trivial)), Bq⟩

def spec_l1In.f (a0 : Int) (a1 : Int) (a2 : Int) : Option (Bool) := if a0 ≥ a1 then (some (decide (a0 ≤ a2))) else (some false)
theorem spec_l1In.calls (a0 : Int) (a1 : Int) (a2 : Int) (r : Bool) (w : World) (h : spec_l1In.f a0 a1 a2 = some r) :
  Calls Try.prog 151 #[.int .i64 a0, .int .i64 a1, .int .i64 a2] w fun e w' => e = .returned (.bool r) ∧ Drawn0 w w' := by
 have H : (if a0 ≥ a1 then (some (decide (a0 ≤ a2))) else (some false)) = some r := h; clear h
 by_cases c4 : a0 ≥ a1
 ·rw [if_pos c4] at H
  have c4b0 : decide (a1 ≤ a0) = true := decide_eq_true c4; clear c4; obtain rfl := Option.some.inj H
  go_enter Try.func151, Try.ntmps151
  go_wp2
  go_ret
  exact ⟨by first | rfl | (simp; done) | (simp [*]; done), by repeat (first | exact Drawn0.refl _ | apply Drawn0.step)⟩
 ·rw [if_neg c4] at H
  have c4b0 : decide (a1 ≤ a0) = false := decide_eq_false c4; clear c4; obtain rfl := Option.some.inj H
  go_enter Try.func151, Try.ntmps151
  go_wp2
  go_ret
  exact ⟨by first | rfl | (simp; done) | (simp [*]; done), by repeat (first | exact Drawn0.refl _ | apply Drawn0.step)⟩

def spec_fiSize.f (a0 : Int) (a1 : Int) (a2 : Int) : Option (Bool) := (spec_l1In.f a0 0 9999).bind fun t133 => (if t133 = true then ((spec_l1In.f a1 1 8).bind fun t134 => (if t134 = true then ((spec_l1In.f a2 1 512).bind fun t135 => (some t135)) else (some false))) else (some false))
theorem spec_fiSize.calls (a0 : Int) (a1 : Int) (a2 : Int) (r : Bool) (w : World) (h : spec_fiSize.f a0 a1 a2 = some r) :
  Calls Try.prog 83 #[.int .i64 a0, .int .i64 a1, .int .i64 a2] w fun e w' => e = .returned (.bool r) ∧ Drawn0 w w' := by
 have H : ((spec_l1In.f a0 0 9999).bind fun t133 => (if t133 = true then ((spec_l1In.f a1 1 8).bind fun t134 => (if t134 = true then ((spec_l1In.f a2 1 512).bind fun t135 => (some t135)) else (some false))) else (some false))) = some r := h; clear h; replace H := Option.bind_eq_some_iff.mp H; obtain ⟨t133, A40, H⟩ := H; (try dsimp -simprocs only at H); have A4 := am A40; clear A40
 by_cases c5 : t133 = true
 ·subst c5
  rw [if_pos rfl] at H; replace H := Option.bind_eq_some_iff.mp H; obtain ⟨t134, A60, H⟩ := H; (try dsimp -simprocs only at H); have A6 := am A60; clear A60
  by_cases c7 : t134 = true
  ·subst c7
   rw [if_pos rfl] at H; replace H := Option.bind_eq_some_iff.mp H; obtain ⟨t135, A80, H⟩ := H; (try dsimp -simprocs only at H); have A8 := am A80; clear A80; obtain rfl := Option.some.inj H
   go_enter Try.func83, Try.ntmps83
   go_wp2_with (first | ((with_reducible refine gate_callee (f := 151) rfl ?_); refine gL (some 8) Try.func151 #[.int .i64 a0, .int .i64 0, .int .i64 9999] ?_; (with_reducible refine (spec_l1In.calls a0 0 9999 true _ A4.out).mono ?_); rintro e w' ⟨rfl, ⟨nd, rfl⟩⟩; refine ⟨_, rfl, ?_⟩) | (go_at_call 151; (with_reducible refine (spec_l1In.calls a1 1 8 true _ A6.out).mono ?_); rintro e w' ⟨rfl, ⟨nd, rfl⟩⟩) | (go_at_call 151; (with_reducible refine (spec_l1In.calls a2 1 512 t135 _ A8.out).mono ?_); rintro e w' ⟨rfl, ⟨nd, rfl⟩⟩))
   go_ret
   exact ⟨by first | rfl | (simp; done) | (simp [*]; done), by repeat (first | exact Drawn0.refl _ | apply Drawn0.step)⟩
  ·replace c7 := Bool.eq_false_iff.mpr c7
   subst c7
   rw [if_neg (show ¬ (false = true) by decide)] at H; obtain rfl := Option.some.inj H
   go_enter Try.func83, Try.ntmps83
   go_wp2_with (first | ((with_reducible refine gate_callee (f := 151) rfl ?_); refine gL (some 8) Try.func151 #[.int .i64 a0, .int .i64 0, .int .i64 9999] ?_; (with_reducible refine (spec_l1In.calls a0 0 9999 true _ A4.out).mono ?_); rintro e w' ⟨rfl, ⟨nd, rfl⟩⟩; refine ⟨_, rfl, ?_⟩) | (go_at_call 151; (with_reducible refine (spec_l1In.calls a1 1 8 false _ A6.out).mono ?_); rintro e w' ⟨rfl, ⟨nd, rfl⟩⟩))
   go_ret
   exact ⟨by first | rfl | (simp; done) | (simp [*]; done), by repeat (first | exact Drawn0.refl _ | apply Drawn0.step)⟩
 ·replace c5 := Bool.eq_false_iff.mpr c5
  subst c5
  rw [if_neg (show ¬ (false = true) by decide)] at H; obtain rfl := Option.some.inj H
  go_enter Try.func83, Try.ntmps83
  go_wp2_with (first | ((with_reducible refine gate_callee (f := 151) rfl ?_); refine gL (some 8) Try.func151 #[.int .i64 a0, .int .i64 0, .int .i64 9999] ?_; (with_reducible refine (spec_l1In.calls a0 0 9999 false _ A4.out).mono ?_); rintro e w' ⟨rfl, ⟨nd, rfl⟩⟩; refine ⟨_, rfl, ?_⟩))
  go_ret
  exact ⟨by first | rfl | (simp; done) | (simp [*]; done), by repeat (first | exact Drawn0.refl _ | apply Drawn0.step)⟩

def spec_l1All.l0 : Nat → Int → Int → List Int → Int → Int → Option (Bool)
 | 0, _, _, _, _, _ => none
 | k + 1, x1, x2, x9, x10, x11 => if x11 < x10 then (if 0 ≤ x11 then (if x11 < (x9.length : Int) then ((spec_l1In.f (rd x9 x11) x1 x2).bind fun t137 => (if t137 = true then (spec_l1All.l0 k x1 x2 x9 x10 (wrap64 (x11 + 1))) else (some false))) else (none)) else (none)) else (some true)
def spec_l1All.f (k : Nat) (l0 : List Int) (a1 : Int) (a2 : Int) : Option (Bool) := spec_l1All.l0 k a1 a2 l0 (l0.length : Int) 0
theorem spec_l1All.calls (k : Nat) (A0 : Option Addr) (c0 : Nat) (l0 : List Int) (a1 : Int) (a2 : Int) (r : Bool) (w : World) (hr0 : Kd.C (Kd.int .i64) w A0 l0.length l0) (hc0 : l0.length ≤ c0) (h : spec_l1All.f k l0 a1 a2 = some r) :
  Calls Try.prog 161 #[.slice A0 l0.length c0, .int .i64 a1, .int .i64 a2] w fun e w' => e = .returned (.bool r) ∧ Drawn0 w w' := by
 have HR0 := am hr0; have HC0 := am hc0; clear hr0 hc0; have H : (spec_l1All.l0 k a1 a2 l0 (l0.length : Int) 0) = some r := h; clear h; have H' := am H; clear H
 go_enter Try.func161, Try.ntmps161
 go_wp2
 go_loopg [11] k (fun kq v11 w' => ∃ (x11_1 : Int), v11 = .int .i64 x11_1 ∧ Aside0 (spec_l1All.l0 kq a1 a2 l0 (l0.length : Int) x11_1 = some r) ∧ Aside0 (kq ≤ k) ∧ Drawn0 w w')
 case atStart => exact ⟨(0), wZ, H', ⟨Nat.le_refl _⟩, by repeat (first | exact Drawn0.refl _ | apply Drawn0.step)⟩
 case round =>
  clear H'
  try clear c1
  try clear p2
  obtain ⟨x11_1, rfl, HA, HK1, ⟨m1, rfl⟩⟩ := hrel; cases gk with
  | zero => exact absurd HA.out (by simp [spec_l1All.l0])
  | succ k1 =>
   have H := HA.out; clear HA
   simp only [spec_l1All.l0] at H
   by_cases c4 : x11_1 < (l0.length : Int)
   ·rw [if_pos c4] at H
    have c4b0 : decide (x11_1 < (l0.length : Int)) = true := decide_eq_true c4; clear c4
    by_cases c5 : 0 ≤ x11_1
    ·rw [if_pos c5] at H
     have c5b0 : decide (0 ≤ x11_1) = true := decide_eq_true c5; clear c5
     by_cases c6 : x11_1 < (l0.length : Int)
     ·rw [if_pos c6] at H
      have c6b0 : decide (x11_1 < (l0.length : Int)) = true := decide_eq_true c6; clear c6; replace H := Option.bind_eq_some_iff.mp H; obtain ⟨t137, A70, H⟩ := H; (try dsimp -simprocs only at H); have A7 := am A70; clear A70
      by_cases c8 : t137 = true
      ·subst c8
       rw [if_pos rfl] at H; have H' := am H; clear H; obtain ⟨ad136, e136, hx136_0⟩ := Kd.at_int HR0.out x11_1 dT dT; cases e136; have p136 := eT (0 ≤ (x11_1 : Int)); have q136 := eT (x11_1 < (l0.length : Int))
       go_wp2_with (first | ((with_reducible refine gate_callee (f := 151) rfl ?_); refine gL (some 18) Try.func151 #[.int .i64 (rd l0 x11_1), .int .i64 a1, .int .i64 a2] ?_; (with_reducible refine (spec_l1In.calls (rd l0 x11_1) a1 a2 true _ A7.out).mono ?_); rintro e w' ⟨rfl, ⟨nd, rfl⟩⟩; refine ⟨_, rfl, ?_⟩))
       go_roundg k1
       case measure => have := HK1.out; omega
       case rel => exact ⟨(wrap64 (x11_1 + 1)), wZ, H', ⟨by have := HK1.out; omega⟩, by repeat (first | exact Drawn0.refl _ | apply Drawn0.step)⟩
      ·replace c8 := Bool.eq_false_iff.mpr c8
       subst c8
       rw [if_neg (show ¬ (false = true) by decide)] at H; obtain rfl := Option.some.inj H; obtain ⟨ad136, e136, hx136_0⟩ := Kd.at_int HR0.out x11_1 dT dT; cases e136; have p136 := eT (0 ≤ (x11_1 : Int)); have q136 := eT (x11_1 < (l0.length : Int))
       go_wp2_with (first | ((with_reducible refine gate_callee (f := 151) rfl ?_); refine gL (some 18) Try.func151 #[.int .i64 (rd l0 x11_1), .int .i64 a1, .int .i64 a2] ?_; (with_reducible refine (spec_l1In.calls (rd l0 x11_1) a1 a2 false _ A7.out).mono ?_); rintro e w' ⟨rfl, ⟨nd, rfl⟩⟩; refine ⟨_, rfl, ?_⟩))
       go_ret
       exact ⟨by first | rfl | (simp; done) | (simp [*]; done), by repeat (first | exact Drawn0.refl _ | apply Drawn0.step)⟩
     ·rw [if_neg c6] at H
      exact absurd H (by simp)
    ·rw [if_neg c5] at H
     exact absurd H (by simp)
   ·rw [if_neg c4] at H
    have c4b0 : decide (x11_1 < (l0.length : Int)) = false := decide_eq_false c4; clear c4; obtain rfl := Option.some.inj H
    go_wp2
    go_ret
    exact ⟨by first | rfl | (simp; done) | (simp [*]; done), by repeat (first | exact Drawn0.refl _ | apply Drawn0.step)⟩

def spec_biGood.f (k : Nat) (a0_0 : Int) (l0_1 : List Int) : Option (Bool) := (spec_l1In.f a0_0 0 4096).bind fun t139 => (if t139 = true then (if (l0_1.length : Int) = (wrap64 (Int.tdiv (wrap64 (a0_0 + 15)) 16)) then ((spec_l1All.f k l0_1 0 65535).bind fun t140 => (if t140 = true then (if (Int.tmod a0_0 16) = 0 then (some true) else (if 0 ≤ (wrap64 ((l0_1.length : Int) - 1)) then (if (wrap64 ((l0_1.length : Int) - 1)) < (l0_1.length : Int) then (if 0 ≤ (Int.tmod a0_0 16) then (some ((shr .i64 (rd l0_1 (wrap64 ((l0_1.length : Int) - 1))) (Int.tmod a0_0 16)) == 0)) else (none)) else (none)) else (none))) else (some false))) else (some false)) else (some false))
theorem spec_biGood.calls (k : Nat) (a0_0 : Int) (A0_1 : Option Addr) (c0_1 : Nat) (l0_1 : List Int) (r : Bool) (w : World) (hr0_1 : Kd.C (Kd.int .i64) w A0_1 l0_1.length l0_1) (hc0_1 : l0_1.length ≤ c0_1) (h : spec_biGood.f k a0_0 l0_1 = some r) :
  Calls Try.prog 156 #[.agg #[.int .i64 a0_0, .slice A0_1 l0_1.length c0_1]] w fun e w' => e = .returned (.bool r) ∧ Below w.heap.size w w' := by
 have hu26 := Try.underlying26; have HR0_1 := am hr0_1; have HC0_1 := am hc0_1; clear hr0_1 hc0_1; have HB := am (Below.refl w.heap.size w); have H : ((spec_l1In.f a0_0 0 4096).bind fun t139 => (if t139 = true then (if (l0_1.length : Int) = (wrap64 (Int.tdiv (wrap64 (a0_0 + 15)) 16)) then ((spec_l1All.f k l0_1 0 65535).bind fun t140 => (if t140 = true then (if (Int.tmod a0_0 16) = 0 then (some true) else (if 0 ≤ (wrap64 ((l0_1.length : Int) - 1)) then (if (wrap64 ((l0_1.length : Int) - 1)) < (l0_1.length : Int) then (if 0 ≤ (Int.tmod a0_0 16) then (some ((shr .i64 (rd l0_1 (wrap64 ((l0_1.length : Int) - 1))) (Int.tmod a0_0 16)) == 0)) else (none)) else (none)) else (none))) else (some false))) else (some false)) else (some false))) = some r := h; clear h; replace H := Option.bind_eq_some_iff.mp H; obtain ⟨t139, A20, H⟩ := H; (try dsimp -simprocs only at H); have A2 := am A20; clear A20
 by_cases c3 : t139 = true
 ·subst c3
  rw [if_pos rfl] at H
  by_cases c4 : (l0_1.length : Int) = (wrap64 (Int.tdiv (wrap64 (a0_0 + 15)) 16))
  ·rw [if_pos c4] at H
   have c4b0 : ((l0_1.length : Int) == (wrap64 (Int.tdiv (wrap64 (a0_0 + 15)) 16))) = true := beq_iff_eq.mpr c4; have c4b1 : ((l0_1.length : Int) != (wrap64 (Int.tdiv (wrap64 (a0_0 + 15)) 16))) = false := bne_eq_false_iff_eq.mpr c4; clear c4; replace H := Option.bind_eq_some_iff.mp H; obtain ⟨t140, A50, H⟩ := H; (try dsimp -simprocs only at H); have A5 := am A50; clear A50
   by_cases c6 : t140 = true
   ·subst c6
    rw [if_pos rfl] at H
    by_cases c7 : (Int.tmod a0_0 16) = 0
    ·rw [if_pos c7] at H
     have c7b0 : ((Int.tmod a0_0 16) == 0) = true := beq_iff_eq.mpr c7; have c7b1 : ((Int.tmod a0_0 16) != 0) = false := bne_eq_false_iff_eq.mpr c7; clear c7; obtain rfl := Option.some.inj H
     go_enter Try.func156, Try.ntmps156
     go_wp2_with (first | ((with_reducible refine gate_dst (N := 1) rfl ?_); (try (refine gate_guard (by rfl) ?_; dsimp only)); refine bE 1 #[.int .i64 a0_0, .slice A0_1 l0_1.length c0_1] 26 ?_; intro gb138 hg w8 hbox hb; have n0_ := Bb HB hb; have n1_ := am (hbox); have n2_ := Gl HB hg; have n3_ := Gl HB hg; clear HB; revert n0_ n1_ n2_ n3_; intro HB BK138 GW138 GE138; clear hb hbox hg; obtain ⟨hcz9_0, hcz9_1, hfz9_0, hfz9_1⟩ := cf2 (w := w8) BK138) | (go_at_call 151; (with_reducible refine (spec_l1In.calls a0_0 0 4096 true _ A2.out).mono ?_); rintro e w' ⟨rfl, ⟨nd, rfl⟩⟩; (try exact yZ)) | (go_at_call 161; (with_reducible refine (spec_l1All.calls k _ _ l0_1 0 65535 true _ ?side1 ?side2 A5.out).mono ?_); (case side1 => exact Cz (Kd.C_below HR0_1.out (Bq))); (case side2 => exact HC0_1.out); rintro e w' ⟨rfl, ⟨nd, rfl⟩⟩; (try exact yZ)))
     repeat (go_quiet (first | ((with_reducible refine gate_dst (N := 1) rfl ?_); (try (refine gate_guard (by rfl) ?_; dsimp only)); refine bE 1 #[.int .i64 a0_0, .slice A0_1 l0_1.length c0_1] 26 ?_; intro gb138 hg w8 hbox hb; have n0_ := Bb HB hb; have n1_ := am (hbox); have n2_ := Gl HB hg; have n3_ := Gl HB hg; clear HB; revert n0_ n1_ n2_ n3_; intro HB BK138 GW138 GE138; clear hb hbox hg; obtain ⟨hcz9_0, hcz9_1, hfz9_0, hfz9_1⟩ := cf2 (w := w8) BK138) | (go_at_call 151; (with_reducible refine (spec_l1In.calls a0_0 0 4096 true _ A2.out).mono ?_); rintro e w' ⟨rfl, ⟨nd, rfl⟩⟩; (try exact yZ)) | (go_at_call 161; (with_reducible refine (spec_l1All.calls k _ _ l0_1 0 65535 true _ ?side1 ?side2 A5.out).mono ?_); (case side1 => exact Cz (Kd.C_below HR0_1.out (Bq))); (case side2 => exact HC0_1.out); rintro e w' ⟨rfl, ⟨nd, rfl⟩⟩; (try exact yZ))); try go_wp2_with (first | ((with_reducible refine gate_dst (N := 1) rfl ?_); (try (refine gate_guard (by rfl) ?_; dsimp only)); refine bE 1 #[.int .i64 a0_0, .slice A0_1 l0_1.length c0_1] 26 ?_; intro gb138 hg w8 hbox hb; have n0_ := Bb HB hb; have n1_ := am (hbox); have n2_ := Gl HB hg; have n3_ := Gl HB hg; clear HB; revert n0_ n1_ n2_ n3_; intro HB BK138 GW138 GE138; clear hb hbox hg; obtain ⟨hcz9_0, hcz9_1, hfz9_0, hfz9_1⟩ := cf2 (w := w8) BK138) | (go_at_call 151; (with_reducible refine (spec_l1In.calls a0_0 0 4096 true _ A2.out).mono ?_); rintro e w' ⟨rfl, ⟨nd, rfl⟩⟩; (try exact yZ)) | (go_at_call 161; (with_reducible refine (spec_l1All.calls k _ _ l0_1 0 65535 true _ ?side1 ?side2 A5.out).mono ?_); (case side1 => exact Cz (Kd.C_below HR0_1.out (Bq))); (case side2 => exact HC0_1.out); rintro e w' ⟨rfl, ⟨nd, rfl⟩⟩; (try exact yZ))))
     go_ret
     exact ⟨eZ, Bq⟩
    ·rw [if_neg c7] at H
     have c7b0 : ((Int.tmod a0_0 16) == 0) = false := beq_eq_false_iff_ne.mpr c7; have c7b1 : ((Int.tmod a0_0 16) != 0) = true := bne_iff_ne.mpr c7; obtain ⟨ji10, hji10⟩ : ∃ j_ : Int, (wrap64 ((l0_1.length : Int) - 1)) = j_ := ⟨_, rfl⟩
     replace H : (if 0 ≤ (ji10) then (if (ji10) < (l0_1.length : Int) then (if 0 ≤ (Int.tmod a0_0 16) then (some ((shr .i64 (rd l0_1 (ji10)) (Int.tmod a0_0 16)) == 0)) else (none)) else (none)) else (none)) = some r := by first | (rw [hji10] at H; exact H) | (simp only [hji10] at H ⊢; exact H)
     (try rw [hji10] at A2)
     (try rw [hji10] at A5)
     have hji10w : (IntKind.i64.wrap ((l0_1.length : Int) - 1)) = ji10 := (i64_w _).trans hji10
     by_cases c11 : 0 ≤ (ji10)
     ·rw [if_pos c11] at H
      have c11b0 : decide (0 ≤ (ji10)) = true := decide_eq_true c11; clear c11
      by_cases c12 : (ji10) < (l0_1.length : Int)
      ·rw [if_pos c12] at H
       have c12b0 : decide ((ji10) < (l0_1.length : Int)) = true := decide_eq_true c12; clear c12; obtain ⟨ji13, hji13⟩ : ∃ j_ : Int, (Int.tmod a0_0 16) = j_ := ⟨_, rfl⟩
       replace H : (if 0 ≤ (ji13) then (some ((shr .i64 (rd l0_1 (ji10)) (ji13)) == 0)) else (none)) = some r := by first | (rw [hji13] at H; exact H) | (simp only [hji13] at H ⊢; exact H)
       (try rw [hji13] at c7b0)
       (try rw [hji13] at c7b1)
       (try rw [hji13] at A2)
       (try rw [hji13] at A5)
       by_cases c14 : 0 ≤ (ji13)
       ·rw [if_pos c14] at H
        have c14b0 := eq_true c14; have c14b1 : decide (0 ≤ (ji13)) = true := decide_eq_true c14; clear c14; obtain ⟨ji15, hji15⟩ : ∃ j_ : Int, (shr .i64 (rd l0_1 (ji10)) (ji13)) = j_ := ⟨_, rfl⟩
        replace H : (some ((ji15) == 0)) = some r := by first | (rw [hji15] at H; exact H) | (simp only [hji15] at H ⊢; exact H)
        (try rw [hji15] at A2)
        (try rw [hji15] at A5)
        have hji15_ : ((rd l0_1 (ji10)) / 2 ^ min (ji13).toNat 64) = ji15 := hji15; have hji15z : (ji13) ≤ 64 → ((rd l0_1 (ji10)) / 2 ^ (ji13).toNat) = ji15 := shr_small hji15; obtain rfl := Option.some.inj H
        go_enter Try.func156, Try.ntmps156
        go_wp2_with (first | ((with_reducible refine gate_dst (N := 1) rfl ?_); (try (refine gate_guard (by rfl) ?_; dsimp only)); refine bE 1 #[.int .i64 a0_0, .slice A0_1 l0_1.length c0_1] 26 ?_; intro gb138 hg w16 hbox hb; have n0_ := Bb HB hb; have n1_ := am (hbox); have n2_ := Gl HB hg; have n3_ := Gl HB hg; clear HB; revert n0_ n1_ n2_ n3_; intro HB BK138 GW138 GE138; clear hb hbox hg; obtain ⟨hcz17_0, hcz17_1, hfz17_0, hfz17_1⟩ := cf2 (w := w16) BK138) | (go_at_call 151; (with_reducible refine (spec_l1In.calls a0_0 0 4096 true _ A2.out).mono ?_); rintro e w' ⟨rfl, ⟨nd, rfl⟩⟩; (try exact yZ)) | (go_at_call 161; (with_reducible refine (spec_l1All.calls k _ _ l0_1 0 65535 true _ ?side1 ?side2 A5.out).mono ?_); (case side1 => exact Cz (Kd.C_below HR0_1.out (Bq))); (case side2 => exact HC0_1.out); rintro e w' ⟨rfl, ⟨nd, rfl⟩⟩; (try exact yZ); have p141 : 0 ≤ ((ji10) : Int) := dT; have q141 : (ji10) < (l0_1.length : Int) := dT; obtain ⟨ad141, e141, hx141_0⟩ := Kd.at_int HR0_1.out (ji10) p141 q141; cases e141; replace hx141_0 := (HB.out.cell (World.block_lt_of_cell? w _ hx141_0)).trans hx141_0; replace p141 := eq_true p141; replace q141 := eq_true q141))
        repeat (go_quiet (first | ((with_reducible refine gate_dst (N := 1) rfl ?_); (try (refine gate_guard (by rfl) ?_; dsimp only)); refine bE 1 #[.int .i64 a0_0, .slice A0_1 l0_1.length c0_1] 26 ?_; intro gb138 hg w16 hbox hb; have n0_ := Bb HB hb; have n1_ := am (hbox); have n2_ := Gl HB hg; have n3_ := Gl HB hg; clear HB; revert n0_ n1_ n2_ n3_; intro HB BK138 GW138 GE138; clear hb hbox hg; obtain ⟨hcz17_0, hcz17_1, hfz17_0, hfz17_1⟩ := cf2 (w := w16) BK138) | (go_at_call 151; (with_reducible refine (spec_l1In.calls a0_0 0 4096 true _ A2.out).mono ?_); rintro e w' ⟨rfl, ⟨nd, rfl⟩⟩; (try exact yZ)) | (go_at_call 161; (with_reducible refine (spec_l1All.calls k _ _ l0_1 0 65535 true _ ?side1 ?side2 A5.out).mono ?_); (case side1 => exact Cz (Kd.C_below HR0_1.out (Bq))); (case side2 => exact HC0_1.out); rintro e w' ⟨rfl, ⟨nd, rfl⟩⟩; (try exact yZ); have p141 : 0 ≤ ((ji10) : Int) := dT; have q141 : (ji10) < (l0_1.length : Int) := dT; obtain ⟨ad141, e141, hx141_0⟩ := Kd.at_int HR0_1.out (ji10) p141 q141; cases e141; replace hx141_0 := (HB.out.cell (World.block_lt_of_cell? w _ hx141_0)).trans hx141_0; replace p141 := eq_true p141; replace q141 := eq_true q141)); try go_wp2_with (first | ((with_reducible refine gate_dst (N := 1) rfl ?_); (try (refine gate_guard (by rfl) ?_; dsimp only)); refine bE 1 #[.int .i64 a0_0, .slice A0_1 l0_1.length c0_1] 26 ?_; intro gb138 hg w16 hbox hb; have n0_ := Bb HB hb; have n1_ := am (hbox); have n2_ := Gl HB hg; have n3_ := Gl HB hg; clear HB; revert n0_ n1_ n2_ n3_; intro HB BK138 GW138 GE138; clear hb hbox hg; obtain ⟨hcz17_0, hcz17_1, hfz17_0, hfz17_1⟩ := cf2 (w := w16) BK138) | (go_at_call 151; (with_reducible refine (spec_l1In.calls a0_0 0 4096 true _ A2.out).mono ?_); rintro e w' ⟨rfl, ⟨nd, rfl⟩⟩; (try exact yZ)) | (go_at_call 161; (with_reducible refine (spec_l1All.calls k _ _ l0_1 0 65535 true _ ?side1 ?side2 A5.out).mono ?_); (case side1 => exact Cz (Kd.C_below HR0_1.out (Bq))); (case side2 => exact HC0_1.out); rintro e w' ⟨rfl, ⟨nd, rfl⟩⟩; (try exact yZ); have p141 : 0 ≤ ((ji10) : Int) := dT; have q141 : (ji10) < (l0_1.length : Int) := dT; obtain ⟨ad141, e141, hx141_0⟩ := Kd.at_int HR0_1.out (ji10) p141 q141; cases e141; replace hx141_0 := (HB.out.cell (World.block_lt_of_cell? w _ hx141_0)).trans hx141_0; replace p141 := eq_true p141; replace q141 := eq_true q141)))
        go_ret
        exact ⟨by first | rfl | (simp [errW_none, errW_some] <;> rfl) | (simp only [← hji10, ← hji13, ← hji15]; first | rfl | (simp [errW_none, errW_some] <;> rfl)) | (simp [*, errW_none, errW_some] <;> rfl), Bq⟩
       ·rw [if_neg c14] at H
        exact absurd H (by simp)
      ·rw [if_neg c12] at H
       exact absurd H (by simp)
     ·rw [if_neg c11] at H
      exact absurd H (by simp)
   ·replace c6 := Bool.eq_false_iff.mpr c6
    subst c6
    rw [if_neg (show ¬ (false = true) by decide)] at H; obtain rfl := Option.some.inj H
    go_enter Try.func156, Try.ntmps156
    go_wp2_with (first | ((with_reducible refine gate_dst (N := 1) rfl ?_); (try (refine gate_guard (by rfl) ?_; dsimp only)); refine bE 1 #[.int .i64 a0_0, .slice A0_1 l0_1.length c0_1] 26 ?_; intro gb138 hg w18 hbox hb; have n0_ := Bb HB hb; have n1_ := am (hbox); have n2_ := Gl HB hg; have n3_ := Gl HB hg; clear HB; revert n0_ n1_ n2_ n3_; intro HB BK138 GW138 GE138; clear hb hbox hg; obtain ⟨hcz19_0, hcz19_1, hfz19_0, hfz19_1⟩ := cf2 (w := w18) BK138) | (go_at_call 151; (with_reducible refine (spec_l1In.calls a0_0 0 4096 true _ A2.out).mono ?_); rintro e w' ⟨rfl, ⟨nd, rfl⟩⟩; (try exact yZ)) | (go_at_call 161; (with_reducible refine (spec_l1All.calls k _ _ l0_1 0 65535 false _ ?side1 ?side2 A5.out).mono ?_); (case side1 => exact Cz (Kd.C_below HR0_1.out (Bq))); (case side2 => exact HC0_1.out); rintro e w' ⟨rfl, ⟨nd, rfl⟩⟩; (try exact yZ)))
    repeat (go_quiet (first | ((with_reducible refine gate_dst (N := 1) rfl ?_); (try (refine gate_guard (by rfl) ?_; dsimp only)); refine bE 1 #[.int .i64 a0_0, .slice A0_1 l0_1.length c0_1] 26 ?_; intro gb138 hg w18 hbox hb; have n0_ := Bb HB hb; have n1_ := am (hbox); have n2_ := Gl HB hg; have n3_ := Gl HB hg; clear HB; revert n0_ n1_ n2_ n3_; intro HB BK138 GW138 GE138; clear hb hbox hg; obtain ⟨hcz19_0, hcz19_1, hfz19_0, hfz19_1⟩ := cf2 (w := w18) BK138) | (go_at_call 151; (with_reducible refine (spec_l1In.calls a0_0 0 4096 true _ A2.out).mono ?_); rintro e w' ⟨rfl, ⟨nd, rfl⟩⟩; (try exact yZ)) | (go_at_call 161; (with_reducible refine (spec_l1All.calls k _ _ l0_1 0 65535 false _ ?side1 ?side2 A5.out).mono ?_); (case side1 => exact Cz (Kd.C_below HR0_1.out (Bq))); (case side2 => exact HC0_1.out); rintro e w' ⟨rfl, ⟨nd, rfl⟩⟩; (try exact yZ))); try go_wp2_with (first | ((with_reducible refine gate_dst (N := 1) rfl ?_); (try (refine gate_guard (by rfl) ?_; dsimp only)); refine bE 1 #[.int .i64 a0_0, .slice A0_1 l0_1.length c0_1] 26 ?_; intro gb138 hg w18 hbox hb; have n0_ := Bb HB hb; have n1_ := am (hbox); have n2_ := Gl HB hg; have n3_ := Gl HB hg; clear HB; revert n0_ n1_ n2_ n3_; intro HB BK138 GW138 GE138; clear hb hbox hg; obtain ⟨hcz19_0, hcz19_1, hfz19_0, hfz19_1⟩ := cf2 (w := w18) BK138) | (go_at_call 151; (with_reducible refine (spec_l1In.calls a0_0 0 4096 true _ A2.out).mono ?_); rintro e w' ⟨rfl, ⟨nd, rfl⟩⟩; (try exact yZ)) | (go_at_call 161; (with_reducible refine (spec_l1All.calls k _ _ l0_1 0 65535 false _ ?side1 ?side2 A5.out).mono ?_); (case side1 => exact Cz (Kd.C_below HR0_1.out (Bq))); (case side2 => exact HC0_1.out); rintro e w' ⟨rfl, ⟨nd, rfl⟩⟩; (try exact yZ))))
    go_ret
    exact ⟨eZ, Bq⟩
  ·rw [if_neg c4] at H
   have c4b0 : ((l0_1.length : Int) == (wrap64 (Int.tdiv (wrap64 (a0_0 + 15)) 16))) = false := beq_eq_false_iff_ne.mpr c4; have c4b1 : ((l0_1.length : Int) != (wrap64 (Int.tdiv (wrap64 (a0_0 + 15)) 16))) = true := bne_iff_ne.mpr c4; obtain rfl := Option.some.inj H
   go_enter Try.func156, Try.ntmps156
   go_wp2_with (first | ((with_reducible refine gate_dst (N := 1) rfl ?_); (try (refine gate_guard (by rfl) ?_; dsimp only)); refine bE 1 #[.int .i64 a0_0, .slice A0_1 l0_1.length c0_1] 26 ?_; intro gb138 hg w20 hbox hb; have n0_ := Bb HB hb; have n1_ := am (hbox); have n2_ := Gl HB hg; have n3_ := Gl HB hg; clear HB; revert n0_ n1_ n2_ n3_; intro HB BK138 GW138 GE138; clear hb hbox hg; obtain ⟨hcz21_0, hcz21_1, hfz21_0, hfz21_1⟩ := cf2 (w := w20) BK138) | (go_at_call 151; (with_reducible refine (spec_l1In.calls a0_0 0 4096 true _ A2.out).mono ?_); rintro e w' ⟨rfl, ⟨nd, rfl⟩⟩; (try exact yZ)))
   repeat (go_quiet (first | ((with_reducible refine gate_dst (N := 1) rfl ?_); (try (refine gate_guard (by rfl) ?_; dsimp only)); refine bE 1 #[.int .i64 a0_0, .slice A0_1 l0_1.length c0_1] 26 ?_; intro gb138 hg w20 hbox hb; have n0_ := Bb HB hb; have n1_ := am (hbox); have n2_ := Gl HB hg; have n3_ := Gl HB hg; clear HB; revert n0_ n1_ n2_ n3_; intro HB BK138 GW138 GE138; clear hb hbox hg; obtain ⟨hcz21_0, hcz21_1, hfz21_0, hfz21_1⟩ := cf2 (w := w20) BK138) | (go_at_call 151; (with_reducible refine (spec_l1In.calls a0_0 0 4096 true _ A2.out).mono ?_); rintro e w' ⟨rfl, ⟨nd, rfl⟩⟩; (try exact yZ))); try go_wp2_with (first | ((with_reducible refine gate_dst (N := 1) rfl ?_); (try (refine gate_guard (by rfl) ?_; dsimp only)); refine bE 1 #[.int .i64 a0_0, .slice A0_1 l0_1.length c0_1] 26 ?_; intro gb138 hg w20 hbox hb; have n0_ := Bb HB hb; have n1_ := am (hbox); have n2_ := Gl HB hg; have n3_ := Gl HB hg; clear HB; revert n0_ n1_ n2_ n3_; intro HB BK138 GW138 GE138; clear hb hbox hg; obtain ⟨hcz21_0, hcz21_1, hfz21_0, hfz21_1⟩ := cf2 (w := w20) BK138) | (go_at_call 151; (with_reducible refine (spec_l1In.calls a0_0 0 4096 true _ A2.out).mono ?_); rintro e w' ⟨rfl, ⟨nd, rfl⟩⟩; (try exact yZ))))
   go_ret
   exact ⟨eZ, Bq⟩
 ·replace c3 := Bool.eq_false_iff.mpr c3
  subst c3
  rw [if_neg (show ¬ (false = true) by decide)] at H; obtain rfl := Option.some.inj H
  go_enter Try.func156, Try.ntmps156
  go_wp2_with (first | ((with_reducible refine gate_dst (N := 1) rfl ?_); (try (refine gate_guard (by rfl) ?_; dsimp only)); refine bE 1 #[.int .i64 a0_0, .slice A0_1 l0_1.length c0_1] 26 ?_; intro gb138 hg w22 hbox hb; have n0_ := Bb HB hb; have n1_ := am (hbox); have n2_ := Gl HB hg; have n3_ := Gl HB hg; clear HB; revert n0_ n1_ n2_ n3_; intro HB BK138 GW138 GE138; clear hb hbox hg; obtain ⟨hcz23_0, hcz23_1, hfz23_0, hfz23_1⟩ := cf2 (w := w22) BK138) | (go_at_call 151; (with_reducible refine (spec_l1In.calls a0_0 0 4096 false _ A2.out).mono ?_); rintro e w' ⟨rfl, ⟨nd, rfl⟩⟩; (try exact yZ)))
  repeat (go_quiet (first | ((with_reducible refine gate_dst (N := 1) rfl ?_); (try (refine gate_guard (by rfl) ?_; dsimp only)); refine bE 1 #[.int .i64 a0_0, .slice A0_1 l0_1.length c0_1] 26 ?_; intro gb138 hg w22 hbox hb; have n0_ := Bb HB hb; have n1_ := am (hbox); have n2_ := Gl HB hg; have n3_ := Gl HB hg; clear HB; revert n0_ n1_ n2_ n3_; intro HB BK138 GW138 GE138; clear hb hbox hg; obtain ⟨hcz23_0, hcz23_1, hfz23_0, hfz23_1⟩ := cf2 (w := w22) BK138) | (go_at_call 151; (with_reducible refine (spec_l1In.calls a0_0 0 4096 false _ A2.out).mono ?_); rintro e w' ⟨rfl, ⟨nd, rfl⟩⟩; (try exact yZ))); try go_wp2_with (first | ((with_reducible refine gate_dst (N := 1) rfl ?_); (try (refine gate_guard (by rfl) ?_; dsimp only)); refine bE 1 #[.int .i64 a0_0, .slice A0_1 l0_1.length c0_1] 26 ?_; intro gb138 hg w22 hbox hb; have n0_ := Bb HB hb; have n1_ := am (hbox); have n2_ := Gl HB hg; have n3_ := Gl HB hg; clear HB; revert n0_ n1_ n2_ n3_; intro HB BK138 GW138 GE138; clear hb hbox hg; obtain ⟨hcz23_0, hcz23_1, hfz23_0, hfz23_1⟩ := cf2 (w := w22) BK138) | (go_at_call 151; (with_reducible refine (spec_l1In.calls a0_0 0 4096 false _ A2.out).mono ?_); rintro e w' ⟨rfl, ⟨nd, rfl⟩⟩; (try exact yZ))))
  go_ret
  exact ⟨eZ, Bq⟩

def spec_fiGood.f (k : Nat) (a0_0 : Int) (a0_1 : Int) (a0_2 : Int) (l0_3 : List Int) : Option (Bool) := (spec_biGood.f k a0_2 l0_3).bind fun t143 => (if t143 = true then ((spec_fiSize.f a0_0 a0_1 a0_2).bind fun t144 => (some t144)) else (some false))
theorem spec_fiGood.calls (k : Nat) (a0_0 : Int) (a0_1 : Int) (a0_2 : Int) (A0_3 : Option Addr) (c0_3 : Nat) (l0_3 : List Int) (r : Bool) (w : World) (hr0_3 : Kd.C (Kd.int .i64) w A0_3 l0_3.length l0_3) (hc0_3 : l0_3.length ≤ c0_3) (h : spec_fiGood.f k a0_0 a0_1 a0_2 l0_3 = some r) :
  Calls Try.prog 94 #[.agg #[.int .i64 a0_0, .int .i64 a0_1, .int .i64 a0_2, .slice A0_3 l0_3.length c0_3]] w fun e w' => e = .returned (.bool r) ∧ Below w.heap.size w w' := by
 have hu28 := Try.underlying28; have hu26 := Try.underlying26; have HR0_3 := am hr0_3; have HC0_3 := am hc0_3; clear hr0_3 hc0_3; have HB := am (Below.refl w.heap.size w); have H : ((spec_biGood.f k a0_2 l0_3).bind fun t143 => (if t143 = true then ((spec_fiSize.f a0_0 a0_1 a0_2).bind fun t144 => (some t144)) else (some false))) = some r := h; clear h; replace H := Option.bind_eq_some_iff.mp H; obtain ⟨t143, A20, H⟩ := H; (try dsimp -simprocs only at H); have A2 := am A20; clear A20
 by_cases c3 : t143 = true
 ·subst c3
  rw [if_pos rfl] at H; replace H := Option.bind_eq_some_iff.mp H; obtain ⟨t144, A40, H⟩ := H; (try dsimp -simprocs only at H); have A4 := am A40; clear A40; obtain rfl := Option.some.inj H
  go_enter Try.func94, Try.ntmps94
  go_wp2_with (first | ((with_reducible refine gate_dst (N := 1) rfl ?_); refine bE 1 #[.int .i64 a0_0, .int .i64 a0_1, .int .i64 a0_2, .slice A0_3 l0_3.length c0_3] 28 ?_; intro gb142 hg w5 hbox hb; have n0_ := Bb HB hb; have n1_ := am (hbox); have n2_ := Gl HB hg; have n3_ := Gl HB hg; clear HB; revert n0_ n1_ n2_ n3_; intro HB BK142 GW142 GE142; clear hb hbox hg; obtain ⟨hcz6_0, hcz6_1, hcz6_2, hcz6_3, hfz6_0, hfz6_1, hfz6_2, hfz6_3⟩ := cf4 (w := w5) BK142) | ((with_reducible refine gate_callee (f := 156) rfl ?_); refine gL (some 5) Try.func156 #[.agg #[.int .i64 a0_2, .slice A0_3 l0_3.length c0_3]] ?_; (with_reducible refine (spec_biGood.calls k a0_2 _ _ l0_3 true _ ?side1 ?side2 A2.out).mono ?_); (case side1 => exact Cz (Kd.C_below HR0_3.out HB.out)); (case side2 => exact HC0_3.out); rintro e w7 ⟨rfl, hb⟩; refine ⟨_, rfl, ?_⟩; have n0_ := Kb BK142 hb; have n1_ := Bc HB hb; clear BK142 HB; revert n0_ n1_; intro BK142 HB; (try clear hb); (try clear hb2); (try clear hk); (try clear hi); obtain ⟨hcz8_0, hcz8_1, hcz8_2, hcz8_3, hfz8_0, hfz8_1, hfz8_2, hfz8_3⟩ := cf4 (w := w7) BK142) | (go_at_call 83; (with_reducible refine (spec_fiSize.calls a0_0 a0_1 a0_2 t144 _ A4.out).mono ?_); rintro e w' ⟨rfl, ⟨nd, rfl⟩⟩))
  go_ret
  exact ⟨eZ, Bq⟩
 ·replace c3 := Bool.eq_false_iff.mpr c3
  subst c3
  rw [if_neg (show ¬ (false = true) by decide)] at H; obtain rfl := Option.some.inj H
  go_enter Try.func94, Try.ntmps94
  go_wp2_with (first | ((with_reducible refine gate_dst (N := 1) rfl ?_); refine bE 1 #[.int .i64 a0_0, .int .i64 a0_1, .int .i64 a0_2, .slice A0_3 l0_3.length c0_3] 28 ?_; intro gb142 hg w9 hbox hb; have n0_ := Bb HB hb; have n1_ := am (hbox); have n2_ := Gl HB hg; have n3_ := Gl HB hg; clear HB; revert n0_ n1_ n2_ n3_; intro HB BK142 GW142 GE142; clear hb hbox hg; obtain ⟨hcz10_0, hcz10_1, hcz10_2, hcz10_3, hfz10_0, hfz10_1, hfz10_2, hfz10_3⟩ := cf4 (w := w9) BK142) | ((with_reducible refine gate_callee (f := 156) rfl ?_); refine gL (some 5) Try.func156 #[.agg #[.int .i64 a0_2, .slice A0_3 l0_3.length c0_3]] ?_; (with_reducible refine (spec_biGood.calls k a0_2 _ _ l0_3 false _ ?side1 ?side2 A2.out).mono ?_); (case side1 => exact Cz (Kd.C_below HR0_3.out HB.out)); (case side2 => exact HC0_3.out); rintro e w11 ⟨rfl, hb⟩; refine ⟨_, rfl, ?_⟩; have n0_ := Kb BK142 hb; have n1_ := Bc HB hb; clear BK142 HB; revert n0_ n1_; intro BK142 HB; (try clear hb); (try clear hb2); (try clear hk); (try clear hi)))
  go_ret
  exact ⟨eZ, Bq⟩

def spec_IsKey.l0 : Nat → ByteArray → Int → Option (Bool)
 | 0, _, _ => none
 | k + 1, x0, x3 => if x3 < (x0.size : Int) then (if 0 ≤ x3 then (if (bt x0 x3) < 33 then (some false) else (if (bt x0 x3) > 125 then (some false) else (spec_IsKey.l0 k x0 (wrap64 (x3 + 1))))) else (none)) else ((spec_l1In.f (x0.size : Int) 1 12).bind fun t145 => (some t145))
def spec_IsKey.f (k : Nat) (a0 : ByteArray) : Option (Bool) := spec_IsKey.l0 k a0 0
theorem spec_IsKey.calls (k : Nat) (a0 : ByteArray) (r : Bool) (w : World) (h : spec_IsKey.f k a0 = some r) :
  Calls Try.prog 95 #[.string a0] w fun e w' => e = .returned (.bool r) ∧ Drawn0 w w' := by
 have H : (spec_IsKey.l0 k a0 0) = some r := h; clear h; have H' := am H; clear H
 go_enter Try.func95, Try.ntmps95
 go_wp2
 go_loopg [3] k (fun kq v3 w' => ∃ (x3_1 : Int), v3 = .int .i64 x3_1 ∧ Aside0 (spec_IsKey.l0 kq a0 x3_1 = some r) ∧ Aside0 (kq ≤ k) ∧ Drawn0 w w')
 case atStart => exact ⟨(0), wZ, H', ⟨Nat.le_refl _⟩, by repeat (first | exact Drawn0.refl _ | apply Drawn0.step)⟩
 case round =>
  clear H'; obtain ⟨x3_1, rfl, HA, HK1, ⟨m1, rfl⟩⟩ := hrel; cases gk with
  | zero => exact absurd HA.out (by simp [spec_IsKey.l0])
  | succ k1 =>
   have H := HA.out; clear HA
   simp only [spec_IsKey.l0] at H
   by_cases c2 : x3_1 < (a0.size : Int)
   ·rw [if_pos c2] at H
    have c2b0 : decide (x3_1 < (a0.size : Int)) = true := decide_eq_true c2; clear c2
    by_cases c3 : 0 ≤ x3_1
    ·rw [if_pos c3] at H
     have c3b0 : decide (0 ≤ x3_1) = true := decide_eq_true c3; clear c3
     by_cases c5 : (bt a0 x3_1) < 33
     ·rw [if_pos c5] at H
      have c5b0 : decide ((bt a0 x3_1) < 33) = true := decide_eq_true c5; clear c5; obtain rfl := Option.some.inj H; have p4 : 0 ≤ (x3_1 : Int) := dT; have q4 : x3_1 < (a0.size : Int) := dT; have hx4 := bt_at a0 x3_1; replace p4 := eq_true p4; replace q4 := eq_true q4
      go_wp2
      go_ret
      exact ⟨by first | rfl | (simp; done) | (simp [*]; done), by repeat (first | exact Drawn0.refl _ | apply Drawn0.step)⟩
     ·rw [if_neg c5] at H
      have c5b0 : decide ((bt a0 x3_1) < 33) = false := decide_eq_false c5; clear c5
      by_cases c7 : (bt a0 x3_1) > 125
      ·rw [if_pos c7] at H
       have c7b0 : decide (125 < (bt a0 x3_1)) = true := decide_eq_true c7; clear c7; obtain rfl := Option.some.inj H; have p4 : 0 ≤ (x3_1 : Int) := dT; have q4 : x3_1 < (a0.size : Int) := dT; have hx4 := bt_at a0 x3_1; replace p4 := eq_true p4; replace q4 := eq_true q4; have p6 : 0 ≤ (x3_1 : Int) := dT; have q6 : x3_1 < (a0.size : Int) := dT; have hx6 := bt_at a0 x3_1; replace p6 := eq_true p6; replace q6 := eq_true q6
       go_wp2
       go_ret
       exact ⟨by first | rfl | (simp; done) | (simp [*]; done), by repeat (first | exact Drawn0.refl _ | apply Drawn0.step)⟩
      ·rw [if_neg c7] at H
       have c7b0 : decide (125 < (bt a0 x3_1)) = false := decide_eq_false c7; clear c7; have H' := am H; clear H; have p4 : 0 ≤ (x3_1 : Int) := dT; have q4 : x3_1 < (a0.size : Int) := dT; have hx4 := bt_at a0 x3_1; replace p4 := eq_true p4; replace q4 := eq_true q4; have p6 : 0 ≤ (x3_1 : Int) := dT; have q6 : x3_1 < (a0.size : Int) := dT; have hx6 := bt_at a0 x3_1; replace p6 := eq_true p6; replace q6 := eq_true q6
       go_wp2
       go_roundg k1
       case measure => have := HK1.out; omega
       case rel => exact ⟨(wrap64 (x3_1 + 1)), wZ, H', ⟨by have := HK1.out; omega⟩, by repeat (first | exact Drawn0.refl _ | apply Drawn0.step)⟩
    ·rw [if_neg c3] at H
     exact absurd H (by simp)
   ·rw [if_neg c2] at H
    have c2b0 : decide (x3_1 < (a0.size : Int)) = false := decide_eq_false c2; clear c2; replace H := Option.bind_eq_some_iff.mp H; obtain ⟨t145, A80, H⟩ := H; (try dsimp -simprocs only at H); have A8 := am A80; clear A80; obtain rfl := Option.some.inj H
    go_wp2_with (first | ((with_reducible refine gate_callee (f := 151) rfl ?_); refine gL (some 22) Try.func151 #[.int .i64 (a0.size : Int), .int .i64 1, .int .i64 12] ?_; (with_reducible refine (spec_l1In.calls (a0.size : Int) 1 12 t145 _ A8.out).mono ?_); rintro e w' ⟨rfl, ⟨nd, rfl⟩⟩; refine ⟨_, rfl, ?_⟩))
    go_ret
    exact ⟨by first | rfl | (simp; done) | (simp [*]; done), by repeat (first | exact Drawn0.refl _ | apply Drawn0.step)⟩

mutual
def impl_hash.l0 : Nat → ByteArray → Int → Int → Int → Option (Int)
 | 0, _, _, _, _ => none
 | k + 1, x2, x7, x18, x19 => if x19 < x18 then (if 0 ≤ x19 then (if x19 < (x2.size : Int) then (impl_hash.l0 k x2 (Int.tmod (wrap64 ((wrap64 (263 * x7)) + (wrap64 (bt x2 x19)))) 65521) x18 (wrap64 (x19 + 1))) else (none)) else (none)) else (impl_hash.l1 k x7 1 0)
def impl_hash.l1 : Nat → Int → Int → Int → Option (Int)
 | 0, _, _, _ => none
 | k + 1, x7, x9, x31 => if x31 < 11 then (impl_hash.l1 k x7 (Int.tmod (wrap64 (x9 * x7)) 65521) (wrap64 (x31 + 1))) else (some x9)
end
def impl_hash.f (k : Nat) (a0 : Int) (a1 : Int) (a2 : ByteArray) : Option (Int) := impl_hash.l0 k a2 (Int.tmod (wrap64 ((wrap64 ((wrap64 (31 * a0)) + (wrap64 (977 * a1)))) + 7)) 65521) (a2.size : Int) 0
theorem impl_hash.calls (k : Nat) (a0 : Int) (a1 : Int) (a2 : ByteArray) (r : Int) (w : World) (h : impl_hash.f k a0 a1 a2 = some r) :
  Calls Try.prog 179 #[.int .i64 a0, .int .i64 a1, .string a2] w fun e w' => e = .returned (.int .i64 r) ∧ Drawn0 w w' := by
 have H : (impl_hash.l0 k a2 (Int.tmod (wrap64 ((wrap64 ((wrap64 (31 * a0)) + (wrap64 (977 * a1)))) + 7)) 65521) (a2.size : Int) 0) = some r := h; clear h; have H' := am H; clear H
 go_enter Try.func179, Try.ntmps179
 go_wp2
 go_loopg [7, 19] k (fun kq v7 v19 w' => ∃ (x7_1 : Int) (x19_1 : Int), v7 = .int .i64 x7_1 ∧ v19 = .int .i64 x19_1 ∧ Aside0 (impl_hash.l0 kq a2 x7_1 (a2.size : Int) x19_1 = some r) ∧ Aside0 (kq ≤ k) ∧ Drawn0 w w')
 case atStart => exact ⟨(Int.tmod (wrap64 ((wrap64 ((wrap64 (31 * a0)) + (wrap64 (977 * a1)))) + 7)) 65521), (0), wZ, wZ, H', ⟨Nat.le_refl _⟩, by repeat (first | exact Drawn0.refl _ | apply Drawn0.step)⟩
 case round =>
  clear H'
  try clear c1
  try clear p2
  obtain ⟨x7_1, x19_1, rfl, rfl, HA, HK1, ⟨m1, rfl⟩⟩ := hrel; cases gk with
  | zero => exact absurd HA.out (by simp [impl_hash.l0])
  | succ k1 =>
   have H := HA.out; clear HA
   simp only [impl_hash.l0] at H
   by_cases c4 : x19_1 < (a2.size : Int)
   ·rw [if_pos c4] at H
    have c4b0 : decide (x19_1 < (a2.size : Int)) = true := decide_eq_true c4; clear c4
    by_cases c5 : 0 ≤ x19_1
    ·rw [if_pos c5] at H
     have c5b0 : decide (0 ≤ x19_1) = true := decide_eq_true c5; clear c5
     by_cases c6 : x19_1 < (a2.size : Int)
     ·rw [if_pos c6] at H
      have c6b0 : decide (x19_1 < (a2.size : Int)) = true := decide_eq_true c6; clear c6; have H' := am H; clear H; have p7 : 0 ≤ (x19_1 : Int) := dT; have q7 : x19_1 < (a2.size : Int) := dT; have hx7 := bt_at a2 x19_1; replace p7 := eq_true p7; replace q7 := eq_true q7
      go_wp2
      go_roundg k1
      case measure => have := HK1.out; omega
      case rel => exact ⟨(Int.tmod (wrap64 ((wrap64 (263 * x7_1)) + (wrap64 (bt a2 x19_1)))) 65521), (wrap64 (x19_1 + 1)), wZ, wZ, H', ⟨by have := HK1.out; omega⟩, by repeat (first | exact Drawn0.refl _ | apply Drawn0.step)⟩
     ·rw [if_neg c6] at H
      exact absurd H (by simp)
    ·rw [if_neg c5] at H
     exact absurd H (by simp)
   ·rw [if_neg c4] at H
    have c4b0 : decide (x19_1 < (a2.size : Int)) = false := decide_eq_false c4; clear c4; have H' := am H; clear H
    go_wp2
    go_loopg [9, 31] k1 (fun kq v9 v31 w' => ∃ (x9_2 : Int) (x31_2 : Int), v9 = .int .i64 x9_2 ∧ v31 = .int .i64 x31_2 ∧ Aside0 (impl_hash.l1 kq x7_1 x9_2 x31_2 = some r) ∧ Aside0 (kq ≤ k1) ∧ Drawn0 w w')
    case atStart => exact ⟨(1), (0), wZ, wZ, H', ⟨Nat.le_refl _⟩, by repeat (first | exact Drawn0.refl _ | apply Drawn0.step)⟩
    case round =>
     clear H'
     try clear c1
     try clear p2
     try clear c4
     try clear c4b0
     try clear c5
     try clear c5b0
     try clear c6
     try clear c6b0
     try clear p6
     try clear p7
     try clear q7
     try clear hx7
     try clear p2
     try clear p7
     try clear q7
     obtain ⟨x9_2, x31_2, rfl, rfl, HA, HK2, ⟨m2, rfl⟩⟩ := hrel; cases gk with
     | zero => exact absurd HA.out (by simp [impl_hash.l1])
     | succ k2 =>
      have H := HA.out; clear HA
      simp only [impl_hash.l1] at H
      by_cases c8 : x31_2 < 11
      ·rw [if_pos c8] at H
       have c8b0 : decide (x31_2 < 11) = true := decide_eq_true c8; clear c8; have H' := am H; clear H
       go_wp2
       go_roundg k2
       case measure => have := HK1.out; have := HK2.out; omega
       case rel => exact ⟨(Int.tmod (wrap64 (x9_2 * x7_1)) 65521), (wrap64 (x31_2 + 1)), wZ, wZ, H', ⟨by have := HK1.out; have := HK2.out; omega⟩, by repeat (first | exact Drawn0.refl _ | apply Drawn0.step)⟩
      ·rw [if_neg c8] at H
       have c8b0 : decide (x31_2 < 11) = false := decide_eq_false c8; clear c8; obtain rfl := Option.some.inj H
       go_wp2
       go_ret
       exact ⟨by first | rfl | (simp; done) | (simp [*]; done), by repeat (first | exact Drawn0.refl _ | apply Drawn0.step)⟩

def impl_place.f (k : Nat) (a0 : Int) (a1 : Int) (a2 : ByteArray) (a3 : Int) : Option (Int) := (impl_hash.f k a0 a1 a2).bind fun t159 => (some (wrap64 (Int.tdiv (wrap64 (t159 * a3)) 65521)))
theorem impl_place.calls (k : Nat) (a0 : Int) (a1 : Int) (a2 : ByteArray) (a3 : Int) (r : Int) (w : World) (h : impl_place.f k a0 a1 a2 a3 = some r) :
  Calls Try.prog 129 #[.int .i64 a0, .int .i64 a1, .string a2, .int .i64 a3] w fun e w' => e = .returned (.int .i64 r) ∧ Drawn0 w w' := by
 have H : ((impl_hash.f k a0 a1 a2).bind fun t159 => (some (wrap64 (Int.tdiv (wrap64 (t159 * a3)) 65521)))) = some r := h; clear h; replace H := Option.bind_eq_some_iff.mp H; obtain ⟨t159, A50, H⟩ := H; (try dsimp -simprocs only at H); have A5 := am A50; clear A50; obtain rfl := Option.some.inj H
 go_enter Try.func129, Try.ntmps129
 go_wp2_with (first | ((with_reducible refine gate_callee (f := 179) rfl ?_); refine gL (some 12) Try.func179 #[.int .i64 a0, .int .i64 a1, .string a2] ?_; (with_reducible refine (impl_hash.calls k a0 a1 a2 t159 _ A5.out).mono ?_); rintro e w' ⟨rfl, ⟨nd, rfl⟩⟩; refine ⟨_, rfl, ?_⟩))
 go_ret
 exact ⟨by first | rfl | (simp; done) | (simp [*]; done), by repeat (first | exact Drawn0.refl _ | apply Drawn0.step)⟩

def impl_probesOf.l0 : Nat → Int → Int → ByteArray → List Int → Int → Int → Option (List Int)
 | 0, _, _, _, _, _, _ => none
 | k + 1, x0, x2, x3, x9, x12, x13 => if x13 < x12 then ((impl_place.f k x0 x13 x3 x2).bind fun t163 => (if x9.length < 17592186044416 then (impl_probesOf.l0 k x0 x2 x3 (x9 ++ [t163]) x12 (wrap64 (x13 + 1))) else (none))) else (some x9)
def impl_probesOf.f (k : Nat) (a0 : Int) (a1 : Int) (a2 : Int) (a3 : ByteArray) : Option (List Int) := impl_probesOf.l0 k a0 a2 a3 (([] : List Int)) a1 0
theorem impl_probesOf.calls (k : Nat) (a0 : Int) (a1 : Int) (a2 : Int) (a3 : ByteArray) (r : List Int) (w : World) (h : impl_probesOf.f k a0 a1 a2 a3 = some r) :
  Calls Try.prog 124 #[.int .i64 a0, .int .i64 a1, .int .i64 a2, .string a3] w fun e w' => ∃ v0_ : Value, e = .returned (v0_) ∧ Kd.R (Kd.int .i64) 3 w' w.heap.size (fun _ => True) v0_ r ∧ Below w.heap.size w w' := by
 have HB := am (Below.refl w.heap.size w); have H : (impl_probesOf.l0 k a0 a2 a3 (([] : List Int)) a1 0) = some r := h; clear h; obtain ⟨y160, hy160⟩ : ∃ y_ : List Int, y_ = (([] : List Int)) := ⟨_, rfl⟩
 replace H : (impl_probesOf.l0 k a0 a2 a3 y160 a1 0) = some r := by first | (rw [hy160]; with_reducible exact H) | (have H2_ := (Option.bind_some _ _).symm.trans H; rw [hy160]; with_reducible exact H2_) | (have H2_ := (Option.bind_some _ _).symm.trans H; with_reducible exact H2_) | with_reducible exact H | (rw [hy160]; exact H) | exact H
 have Ny160 := am hy160; clear hy160; have H' := am H; clear H
 go_enter Try.func124, Try.ntmps124
 go_wp2_with (first | ((with_reducible refine gate_dst (N := 11) rfl ?_); refine Kd.R_lit (Kd.int .i64) _ 3 ?hg (N := 11) ?hd (xs := ([] : List Int)) (inner := []) (ok := fun _ => True) (okp := fun _ => True) ?hr ?hp (fun _ hk => hk) trivial (Below.refl _ _) (Nat.le_refl _) (by simp) ?_; (case hd => rfl); (case hg => rfl); (case hr => first | (go_simp; done) | (go_simp; rfl)); (case hp => exact (Reps.none _ _)); intro v161 w5 ho6 hb hg_ hnew_; clear hg_ hnew_; (first | rw [← Ny160.out] at ho6 | (simp only [Int.reduceToNat] at ho6; rw [← Ny160.out] at ho6)); have n0_ := Rl ho6 HB; have n1_ := Bb HB hb; clear HB; revert n0_ n1_; intro HO162 HB; clear hb ho6))
 (try simp only [aP])
 go_loopg [9, 13] k (fun kq v9 v13 w' => ∃ (x9_1 : List Int) (x13_1 : Int), v13 = .int .i64 x13_1 ∧ Aside0 (impl_probesOf.l0 kq a0 a2 a3 x9_1 a1 x13_1 = some r) ∧ Aside0 (kq ≤ k) ∧ Aside0 (Kd.R (Kd.int .i64) 3 w' w.heap.size (fun _ => True) v9 x9_1) ∧ Aside0 (Below w.heap.size w w'))
 case atStart => exact ⟨(y160), (0), wZ, H', ⟨Nat.le_refl _⟩, ⟨Rz HO162.out⟩, ⟨Bz HB.out⟩⟩
 case round =>
  clear H'
  try clear c1
  try clear p2
  obtain ⟨x9_1, x13_1, rfl, HA, HK1, HO_9, HB⟩ := hrel; cases gk with
  | zero => exact absurd HA.out (by simp [impl_probesOf.l0])
  | succ k1 =>
   have H := HA.out; clear HA
   simp only [impl_probesOf.l0] at H
   by_cases c7 : x13_1 < a1
   ·rw [if_pos c7] at H
    have c7b0 : decide (x13_1 < a1) = true := decide_eq_true c7; clear c7; replace H := Option.bind_eq_some_iff.mp H; obtain ⟨t163, A80, H⟩ := H; (try dsimp -simprocs only at H); have A8 := am A80; clear A80
    by_cases c9 : x9_1.length < 17592186044416
    ·rw [if_pos c9] at H
     have LMc9 := am c9; clear c9; obtain ⟨y164, hy164⟩ : ∃ y_ : List Int, y_ = (x9_1 ++ [t163]) := ⟨_, rfl⟩
     replace H : (impl_probesOf.l0 k1 a0 a2 a3 y164 a1 (wrap64 (x13_1 + 1))) = some r := by first | (rw [hy164]; with_reducible exact H) | (have H2_ := (Option.bind_some _ _).symm.trans H; rw [hy164]; with_reducible exact H2_) | (have H2_ := (Option.bind_some _ _).symm.trans H; with_reducible exact H2_) | with_reducible exact H | (rw [hy164]; exact H) | exact H
     have Ny164 := am hy164; clear hy164; have H' := am H; clear H
     go_wp2_with (first | ((with_reducible refine gate_callee (f := 129) rfl ?_); refine gL (some 21) Try.func129 #[.int .i64 a0, .int .i64 x13_1, .string a3, .int .i64 a2] ?_; (with_reducible refine (impl_place.calls k1 a0 x13_1 a3 a2 t163 _ A8.out).mono ?_); rintro e w' ⟨rfl, ⟨nd, rfl⟩⟩; refine ⟨_, rfl, ?_⟩) | ((with_reducible refine gate_builtin (b := .append) (xs := #[.tmp 16, .tmp 22]) rfl ?_); at_builtin; refine Kd.R_append (Kd.int .i64) (w0 := w) w.heap.size rfl (.tmp 16) (.tmp 22) 24 3 (.int .i64 0) 8 rfl Try.underlying24 info3 rfl (by decide) (by omega) u9 x9_1 t163 [.int .i64 t163] (fun _ => True) (fun _ => False) rfl rfl ?aP (fun _ hk => hk.elim) ?aF ?aO ?aB ?aS ?aL ?_; (case aP => exact rfl); (case aB => exact (Bz HB.out)); (case aF => exact (fun _ _ => trivial)); (case aO => exact (Rz HO_9.out)); (case aS => exact (below_size (Bz HB.out))); (case aL => have := LMc9.out; omega); intro v165 w10 ho hb hg hat; rw [← Ny164.out] at ho; have n0_ := am (hb); have n1_ := am (ho); clear HB HO_9; revert n0_ n1_; intro HB HO166; clear ho hb hg hat))
     go_roundg k1
     case measure => have := HK1.out; omega
     case rel => exact ⟨(y164), (wrap64 (x13_1 + 1)), wZ, H', ⟨by have := HK1.out; omega⟩, ⟨Rz HO166.out⟩, ⟨Bz HB.out⟩⟩
    ·rw [if_neg c9] at H
     exact absurd H (by simp)
   ·rw [if_neg c7] at H
    have c7b0 : decide (x13_1 < a1) = false := decide_eq_false c7; clear c7; obtain rfl := Option.some.inj H
    go_wp2
    go_ret
    exact ⟨_, eZ, Rz HO_9.out, Bz HB.out⟩

end Go.Proofs.Ytpkpjikkfikejaa.PA
-- printed by a program of this session (wip/gp) out of the translation; Lean checks it
namespace Go.Proofs.Ytpkpjikkfikejaa.PA
open Go.RowKit Go.Proofs.YtpkpjikkfikejaaW.PrintWords Go.Proofs.YtpkpjikkfikejaaW.PrintLast Go.Proofs.YtpkpjikkfikejaaW.PrintMore Go.Proofs.YtpkpjikkfikejaaSq
attribute [local go_sem] max2_int min2_int max_two min_two max_three min_three max_four min_four   -- for this text's walks alone
attribute [local go_sem] Go.Proofs.YtpkpjikkfikejaaGp.str_geq Go.Proofs.YtpkpjikkfikejaaGp.str_gtr Go.Proofs.YtpkpjikkfikejaaGp.str_leq
set_option linter.unusedVariables false
set_option linter.unusedSimpArgs false

set_option maxHeartbeats 8000000
set_option maxRecDepth 100000
def impl_Bits_set.f (a0_0 : Int) (l0_1 : List Int) (a1 : Int) (a2 : Bool) : Option (List Int) := if 0 ≤ (wrap64 (Int.tdiv a1 16)) then (if (wrap64 (Int.tdiv a1 16)) < (l0_1.length : Int) then (if 0 ≤ (Int.tmod a1 16) then ((some (l0_1.set ((wrap64 (Int.tdiv a1 16)) : Int).toNat (Go.bits .andNot .i64 (rd l0_1 (wrap64 (Int.tdiv a1 16))) (shl .i64 1 (Int.tmod a1 16))) : List Int)).bind fun y168 => (if a2 = true then (some (y168.set ((wrap64 (Int.tdiv a1 16)) : Int).toNat (Go.bits .or .i64 (rd y168 (wrap64 (Int.tdiv a1 16))) (shl .i64 1 (Int.tmod a1 16))))) else (some y168))) else (none)) else (none)) else (none)
def impl_Bits_set.T0 : Bool × List (List Nat × List Nat) := (true, [([], []), ([0], [0]), ([1], [1]), ([2], [2]), ([], []), ([4], [4]), ([3, 5], [3, 5]), ([6], [6]), ([], []), ([8], [8]), ([9], [9]), ([7, 10], [7, 10]), ([3, 5, 0, 1, 2, 3, 4, 5, 6, 7, 8, 9, 10, 11], [3, 5]), ([12, 11, 0, 1, 2, 3, 4, 5, 6, 7, 8, 9, 10, 11], [11, 12])])
def impl_Bits_set.B0 : List Nat := [0, 1, 3, 7, 0, 16, 63, 127, 0, 256, 768, 2047, 4095, 8191]
theorem impl_Bits_set.tab0 : rtab .any (opsOf Try.f155 0) = impl_Bits_set.T0 := by kernel_rfl
theorem impl_Bits_set.bits0 : waitsOk impl_Bits_set.T0.2 impl_Bits_set.B0 = true := by kernel_rfl
def impl_Bits_set.T2 : Bool × List (List Nat × List Nat) := (true, [([], []), ([0], [0]), ([1], [1]), ([2], [2]), ([], []), ([4], [4]), ([3, 5], [3, 5]), ([6], [6]), ([], []), ([8], [8]), ([9], [9]), ([7, 10], [7, 10]), ([3, 5, 0, 1, 2, 3, 4, 5, 6, 7, 8, 9, 10, 11], [3, 5]), ([12, 11, 0, 1, 2, 3, 4, 5, 6, 7, 8, 9, 10, 11], [11, 12])])
def impl_Bits_set.B2 : List Nat := [0, 1, 3, 7, 0, 16, 63, 127, 0, 256, 768, 2047, 4095, 8191]
theorem impl_Bits_set.tab2 : rtab .any (opsOf Try.f155 2) = impl_Bits_set.T2 := by kernel_rfl
theorem impl_Bits_set.bits2 : waitsOk impl_Bits_set.T2.2 impl_Bits_set.B2 = true := by kernel_rfl
theorem impl_Bits_set.calls_v0_28_2 (g0 : Nat) (z0_0 : Int) (z0_1 : Int) (a0_0 : Int) (P0_1_ : Nat → Prop) (u9000_ : Value) (l0_1 : List Int) (a1 : Int) (a2 : Bool) (r : List Int) (w0 w : World) (hB : Below w0.heap.size w0 w) (hb0 : w.heap[g0]? = some (.cells #[.int .i64 z0_0, .int .i64 z0_1, .int .i64 a0_0, u9000_] 28 (0, 0))) (ho0_1 : Kd.R (Kd.int .i64) 3 w w0.heap.size P0_1_ u9000_ l0_1) (h : impl_Bits_set.f a0_0 l0_1 a1 a2 = some r) :
  Calls Try.prog 155 #[.pointer (some ⟨g0, 2, none⟩), .int .i64 a1, .bool a2] w fun e w' => e = .returned (.tuple #[]) ∧ Kd.R (Kd.int .i64) 3 w' w0.heap.size (fun k_ => (P0_1_ k_ ∨ w.heap.size ≤ k_)) u9000_ r ∧ Below w0.heap.size w0 w' ∧ Kept w w' (fun k_ => P0_1_ k_) := by
 have HO0_1 := am (show Kd.R (Kd.int .i64) 3 w w0.heap.size (fun k_ => (P0_1_ k_ ∨ w.heap.size ≤ k_)) u9000_ l0_1 from Kd.R_mono ho0_1 (fun k_ hk => (.inl hk))); have HK := am (Kept.refl w (fun k_ => P0_1_ k_)); have BK0 := am hb0; clear hb0; have HW0 := am hB.size; have HB := am hB; clear hB; have H : (if 0 ≤ (wrap64 (Int.tdiv a1 16)) then (if (wrap64 (Int.tdiv a1 16)) < (l0_1.length : Int) then (if 0 ≤ (Int.tmod a1 16) then ((some (l0_1.set ((wrap64 (Int.tdiv a1 16)) : Int).toNat (Go.bits .andNot .i64 (rd l0_1 (wrap64 (Int.tdiv a1 16))) (shl .i64 1 (Int.tmod a1 16))) : List Int)).bind fun y176 => (if a2 = true then (some (y176.set ((wrap64 (Int.tdiv a1 16)) : Int).toNat (Go.bits .or .i64 (rd y176 (wrap64 (Int.tdiv a1 16))) (shl .i64 1 (Int.tmod a1 16))))) else (some y176))) else (none)) else (none)) else (none)) = some r := h; clear h; obtain ⟨ji4, hji4⟩ : ∃ j_ : Int, (wrap64 (Int.tdiv a1 16)) = j_ := ⟨_, rfl⟩
 replace H : (if 0 ≤ (ji4) then (if (ji4) < (l0_1.length : Int) then (if 0 ≤ (Int.tmod a1 16) then ((some (l0_1.set ((ji4) : Int).toNat (Go.bits .andNot .i64 (rd l0_1 (ji4)) (shl .i64 1 (Int.tmod a1 16))) : List Int)).bind fun y176 => (if a2 = true then (some (y176.set ((ji4) : Int).toNat (Go.bits .or .i64 (rd y176 (ji4)) (shl .i64 1 (Int.tmod a1 16))))) else (some y176))) else (none)) else (none)) else (none)) = some r := by first | (rw [hji4] at H; exact H) | (simp only [hji4] at H ⊢; exact H)
 have hji4w : (IntKind.i64.wrap (Int.tdiv a1 16)) = ji4 := (i64_w _).trans hji4
 by_cases c5 : 0 ≤ (ji4)
 ·rw [if_pos c5] at H
  have c5b0 : decide (0 ≤ (ji4)) = true := decide_eq_true c5; clear c5
  by_cases c6 : (ji4) < (l0_1.length : Int)
  ·rw [if_pos c6] at H
   have c6b0 : decide ((ji4) < (l0_1.length : Int)) = true := decide_eq_true c6; clear c6; obtain ⟨ji7, hji7⟩ : ∃ j_ : Int, (Int.tmod a1 16) = j_ := ⟨_, rfl⟩
   replace H : (if 0 ≤ (ji7) then ((some (l0_1.set ((ji4) : Int).toNat (Go.bits .andNot .i64 (rd l0_1 (ji4)) (shl .i64 1 (ji7))) : List Int)).bind fun y176 => (if a2 = true then (some (y176.set ((ji4) : Int).toNat (Go.bits .or .i64 (rd y176 (ji4)) (shl .i64 1 (ji7))))) else (some y176))) else (none)) = some r := by first | (rw [hji7] at H; exact H) | (simp only [hji7] at H ⊢; exact H)
   by_cases c8 : 0 ≤ (ji7)
   ·rw [if_pos c8] at H
    have c8b0 := eq_true c8; have c8b1 : decide (0 ≤ (ji7)) = true := decide_eq_true c8; clear c8; obtain ⟨ji9, hji9⟩ : ∃ j_ : Int, (shl .i64 1 (ji7)) = j_ := ⟨_, rfl⟩
    replace H : ((some (l0_1.set ((ji4) : Int).toNat (Go.bits .andNot .i64 (rd l0_1 (ji4)) (ji9)) : List Int)).bind fun y176 => (if a2 = true then (some (y176.set ((ji4) : Int).toNat (Go.bits .or .i64 (rd y176 (ji4)) (ji9)))) else (some y176))) = some r := by first | (rw [hji9] at H; exact H) | (simp only [hji9] at H ⊢; exact H)
    have hji9_ : (IntKind.i64.wrap (1 * 2 ^ min (ji7).toNat 64)) = ji9 := hji9; have hji9z : (ji7) ≤ 64 → (IntKind.i64.wrap (1 * 2 ^ (ji7).toNat)) = ji9 := shl_small hji9
    have hji9u : (IntKind.i64.wrap (2 ^ min (ji7).toNat 64)) = ji9 := by have h_ := hji9_; rw [Int.one_mul] at h_; exact h_
    have hji9v : (ji7) ≤ 64 → (IntKind.i64.wrap (2 ^ (ji7).toNat)) = ji9 := fun hle_ => by have h_ := hji9z hle_; rw [Int.one_mul] at h_; exact h_
    have hji9y : (wrap64 (1 * 2 ^ min (ji7).toNat 64)) = ji9 := (i64_w _).symm.trans hji9_
    have hji9x : (ji7) ≤ 64 → (wrap64 (1 * 2 ^ (ji7).toNat)) = ji9 := fun h_ => (i64_w _).symm.trans (hji9z h_)
    obtain ⟨y176, hy176⟩ : ∃ y_ : List Int, y_ = (l0_1.set ((ji4) : Int).toNat (Go.bits .andNot .i64 (rd l0_1 (ji4)) (ji9))) := ⟨_, rfl⟩
    replace H : (if a2 = true then (some (y176.set ((ji4) : Int).toNat (Go.bits .or .i64 (rd y176 (ji4)) (ji9)))) else (some y176)) = some r := by first | (rw [hy176]; with_reducible exact H) | (have H2_ := (Option.bind_some _ _).symm.trans H; rw [hy176]; with_reducible exact H2_) | (have H2_ := (Option.bind_some _ _).symm.trans H; with_reducible exact H2_) | with_reducible exact H | (rw [hy176]; exact H) | exact H
    have Ny176 := am hy176; clear hy176
    by_cases c11 : a2 = true
    ·subst c11
     rw [if_pos rfl] at H; have c12b0 := eq_true (dT : 0 ≤ (ji7)); obtain ⟨y178, hy178⟩ : ∃ y_ : List Int, y_ = (y176.set ((ji4) : Int).toNat (Go.bits .or .i64 (rd y176 (ji4)) (ji9))) := ⟨_, rfl⟩
     replace H : (some y178) = some r := by first | (rw [hy178]; with_reducible exact H) | (have H2_ := (Option.bind_some _ _).symm.trans H; rw [hy178]; with_reducible exact H2_) | (have H2_ := (Option.bind_some _ _).symm.trans H; with_reducible exact H2_) | with_reducible exact H | (rw [hy178]; exact H) | exact H
     have Ny178 := am hy178; clear hy178; obtain rfl := Option.some.inj H
     go_enter Try.func155, Try.ntmps155
     try go_wp2
     obtain ⟨Ao14, co14, eo14⟩ := Kd.R_slice HO0_1.out; subst eo14; have n0_ := am (Kd.R_drew HO0_1.out); have n1_ := am (blk_drew BK0.out); have n2_ := am (Kept.drew HK.out); have n3_ := am (below_drew1 HB.out); clear HO0_1 BK0 HK HB; revert n0_ n1_ n2_ n3_; intro HO0_1 BK0 HK HB; obtain ⟨ad175, e175, hx175_0⟩ := Kd.at_int (Kd.R_reads' HO0_1.out).2.2 (ji4) dT dT; cases e175; have p175 := eT (0 ≤ ((ji4) : Int)); have q175 := eT ((ji4) < (l0_1.length : Int)); have p10 : 0 ≤ ((ji4) : Int) := dT; have q10 : ((ji4) : Int) < ((l0_1.length : Int) : Int) := dT; obtain ⟨go10, co10, eo10, gb10, gl10, cl10, HG10⟩ := Kd.R_form HO0_1.out (by omega)
     (first | cases eo10 | (injection eo10 with ea_ en_ ec_; (first | subst ea_ | (injection ea_ with ea_; subst ea_)); subst ec_; clear en_))
     have GB10 := am gb10; have GG10 := am HG10; clear gb10 gl10 HG10; have HMgo10 := am (show (P0_1_ go10 ∨ w.heap.size ≤ go10) from (HO0_1.out.1 _ rfl))
     (first | simp only [add_plain] at hx175_0 | skip)
     obtain ⟨hx10_0, hf10_0⟩ := Kd.R_celln 0 HO0_1.out ((ji4) : Int) p10 q10; replace p10 := eq_true p10; replace q10 := eq_true q10; have HP16 := Kd.R_putn HO0_1.out ((ji4) : Int) (Go.bits .andNot .i64 (rd l0_1 (ji4)) (ji9)); rw [← Ny176.out] at HP16; have HQ16 := am HP16; clear HP16; refine start_ (n := 14) (S := fun w' => w'.cell? ⟨g0, 0, none⟩ = some (.int .i64 z0_0) ∧ w'.cell? ⟨g0, 1, none⟩ = some (.int .i64 z0_1) ∧ w'.cell? ⟨g0, 2, none⟩ = some (.int .i64 a0_0) ∧ w'.cell? ⟨g0, 3, none⟩ = some (.slice (some ⟨go10, 0, none⟩) l0_1.length co14) ∧ w'.cell? ⟨go10, ((ji4)).toNat, none⟩ = some (.int .i64 (rd l0_1 (ji4)))) (ds := [13]) (bA 14 0) (by kernel_rfl) rfl rfl ⟨cz BK0 0, cz BK0 1, cz BK0 2, cz BK0 3, hx175_0⟩ (fun hHeld => ?_); refine with_tabW impl_Bits_set.tab0 impl_Bits_set.bits0 (fun HT_ HW_ => ?_); generalize w.drew = w15 at HO0_1 BK0 HK HB GG10 HQ16 hf10_0 hx10_0 hx175_0 hHeld ⊢; refine pZ 0 (some 6) (bA 14 1) HT_.out ?_; refine pZ 1 (some 7) (bA 14 3) HT_.out ?_; refine pZ 2 (some 8) (bA 14 7) HT_.out ?_; refine pZ 4 (some 10) (bA 14 23) HT_.out ?_; refine pZ 5 (some 11) (bA 14 55) HT_.out ?_; refine pZ 8 (some 14) (bA 14 311) HT_.out ?_; refine pZ 9 (some 15) (bA 14 823) HT_.out ?_; refine pZ 10 (some 16) (bA 14 1847) HT_.out ?_; refine tZ5 3 (some 9) (bA 14 1855) HT_.out HW_.out hHeld ?_; refine pZ 6 (some 12) (bA 14 1919) HT_.out ?_; refine tZ5 7 (some 13) (bA 14 2047) HT_.out HW_.out hHeld ?_; refine pZ 11 (some 17) (bA 14 4095) HT_.out ?_; refine pZ 12 (some 18) (bA 14 8191) HT_.out ?_; refine lZ 13 none (bA 14 16383) HT_.out (fun K hK => ?_); refine skip_ (w1 := ?_) (by rfl) rfl ?_ ?_
     rotate_left
     ·go_simp
      rfl
     refine hK.out _ _ ?_; clear hK K; refine done_ (done_of HT_.out (by kernel_rfl)) ?_
     try go_wp2
     have n0_ : Aside0 (Kd.R (Kd.int .i64) 3 (w15.setCell ⟨go10, ((ji4) : Int).toNat, none⟩ (.int .i64 (Go.bits .andNot .i64 (rd l0_1 (ji4)) (ji9)))) w0.heap.size (fun k_ => (P0_1_ k_ ∨ w.heap.size ≤ k_)) (.slice (some ⟨go10, 0, none⟩) l0_1.length co14) y176) := ⟨by first | exact HQ16.out | exact Rz HQ16.out⟩; have n1_ : Aside0 ((w15.setCell ⟨go10, ((ji4) : Int).toNat, none⟩ (.int .i64 (Go.bits .andNot .i64 (rd l0_1 (ji4)) (ji9)))).heap[g0]? = some (.cells #[.int .i64 z0_0, .int .i64 z0_1, .int .i64 a0_0, .slice (some ⟨go10, 0, none⟩) l0_1.length co14] 28 (0, 0))) := ⟨by (with_reducible repeat (first | refine blk_drewN ?_ _ | refine blk_drew ?_ | refine blk_alloc ?_ _)); refine blk_far ?_ (by have h_ := Kd.R_ne HO0_1.out BK0.out (by decide); intro e_; exact h_ (by rw [e_]; rfl)) _; (with_reducible repeat (first | refine blk_drewN ?_ _ | refine blk_drew ?_ | refine blk_alloc ?_ _)); exact BK0.out⟩; have n2_ : Aside0 (Kept w (w15.setCell ⟨go10, ((ji4) : Int).toNat, none⟩ (.int .i64 (Go.bits .andNot .i64 (rd l0_1 (ji4)) (ji9)))) (fun k_ => P0_1_ k_)) := ⟨by repeat (first | (with_reducible first | exact HK.out | apply Kept.alloc | apply Kept.drewN | apply Kept.drew | refine Kept.setCell ?_ HMgo10.out _ | refine Kept.setCell ?_ (.inr GW0.out) _) | exact HK.out)⟩; have n3_ : Aside0 (Below w0.heap.size w0 (w15.setCell ⟨go10, ((ji4) : Int).toNat, none⟩ (.int .i64 (Go.bits .andNot .i64 (rd l0_1 (ji4)) (ji9))))) := ⟨Bq⟩
     (try clear HO0_1)
     (try clear BK0)
     (try clear HK)
     (try clear HB)
     generalize (w15.setCell ⟨go10, ((ji4) : Int).toNat, none⟩ (.int .i64 (Go.bits .andNot .i64 (rd l0_1 (ji4)) (ji9)))) = w17 at n0_ n1_ n2_ n3_ ⊢; revert n0_ n1_ n2_ n3_; intro HO0_1 BK0 HK HB; have n0_ := am (Kd.R_drew HO0_1.out); have n1_ := am (blk_drew BK0.out); have n2_ := am (Kept.drew HK.out); have n3_ := am (below_drew1 HB.out); clear HO0_1 BK0 HK HB; revert n0_ n1_ n2_ n3_; intro HO0_1 BK0 HK HB; have p177 : 0 ≤ ((ji4) : Int) := dT; have q177 : (ji4) < (y176.length : Int) := (by have h_ : ((ji4) : Int) < ((l0_1.length : Int) : Int) := dT; first | (have e_ := (Kd.R_reads' HO0_1.out).1; omega) | simpa only [Ny176.out, List.length_set] using h_); have ql177 : (((ji4) : Int) < ((l0_1.length : Int) : Int)) = True := eq_true (dT); obtain ⟨ad177, e177, hx177_0⟩ := Kd.at_int (Kd.R_reads' HO0_1.out).2.2 (ji4) p177 q177; obtain rfl : (⟨go10, 0, none⟩ : Addr) = ad177 := (by injection e177)
     (first | simp only [add_plain] at hx177_0 | simp only [add_at] at hx177_0 | simp only [Addr.add, Nat.zero_add] at hx177_0 | skip)
     replace p177 := eq_true p177; replace q177 := eq_true q177; have p13 : 0 ≤ ((ji4) : Int) := dT; have q13 : ((ji4) : Int) < ((l0_1.length : Int) : Int) := dT; obtain ⟨hx13_0, hf13_0⟩ := Kd.R_celln 0 HO0_1.out ((ji4) : Int) p13 q13; replace p13 := eq_true p13; replace q13 := eq_true q13; have HP19 := Kd.R_putn HO0_1.out ((ji4) : Int) (Go.bits .or .i64 (rd y176 (ji4)) (ji9)); rw [← Ny178.out] at HP19; have HQ19 := am HP19; clear HP19; refine start_ (n := 14) (S := fun w' => w'.cell? ⟨g0, 0, none⟩ = some (.int .i64 z0_0) ∧ w'.cell? ⟨g0, 1, none⟩ = some (.int .i64 z0_1) ∧ w'.cell? ⟨g0, 2, none⟩ = some (.int .i64 a0_0) ∧ w'.cell? ⟨g0, 3, none⟩ = some (.slice (some ⟨go10, 0, none⟩) l0_1.length co14) ∧ w'.cell? ⟨go10, ((ji4)).toNat, none⟩ = some (.int .i64 (rd y176 (ji4)))) (ds := [13]) (bA 14 0) (by kernel_rfl) rfl rfl ⟨cz BK0 0, cz BK0 1, cz BK0 2, cz BK0 3, hx177_0⟩ (fun hHeld => ?_); refine with_tabW impl_Bits_set.tab2 impl_Bits_set.bits2 (fun HT_ HW_ => ?_); generalize w17.drew = w18 at HO0_1 BK0 HK HB HQ16 HQ19 hf13_0 hx13_0 hx177_0 hHeld ⊢; refine pZ 0 (some 20) (bA 14 1) HT_.out ?_; refine pZ 1 (some 21) (bA 14 3) HT_.out ?_; refine pZ 2 (some 22) (bA 14 7) HT_.out ?_; refine pZ 4 (some 24) (bA 14 23) HT_.out ?_; refine pZ 5 (some 25) (bA 14 55) HT_.out ?_; refine pZ 8 (some 28) (bA 14 311) HT_.out ?_; refine pZ 9 (some 29) (bA 14 823) HT_.out ?_; refine pZ 10 (some 30) (bA 14 1847) HT_.out ?_; refine tZ5 3 (some 23) (bA 14 1855) HT_.out HW_.out hHeld ?_; refine pZ 6 (some 26) (bA 14 1919) HT_.out ?_; refine tZ5 7 (some 27) (bA 14 2047) HT_.out HW_.out hHeld ?_; refine pZ 11 (some 31) (bA 14 4095) HT_.out ?_; refine pZ 12 (some 32) (bA 14 8191) HT_.out ?_; refine lZ 13 none (bA 14 16383) HT_.out (fun K hK => ?_); refine skip_ (w1 := ?_) (by rfl) rfl ?_ ?_
     rotate_left
     ·go_simp
      rfl
     refine hK.out _ _ ?_; clear hK K; refine done_ (done_of HT_.out (by kernel_rfl)) ?_
     try go_wp2
     first | go_end0 | ((try simp only [Exit.inBlock, Exit.then]); refine bodyPost_ret (results_none rfl _ _ _) rfl ?_)
     exact ⟨by first | rfl | (simp [errW_none, errW_some] <;> rfl) | (simp only [← hji4, ← hji7, ← hji9]; first | rfl | (simp [errW_none, errW_some] <;> rfl)) | (simp [*, errW_none, errW_some] <;> rfl), Rz HQ19.out, Bq, by repeat (first | (with_reducible first | exact HK.out | apply Kept.alloc | apply Kept.drewN | apply Kept.drew | refine Kept.setCell ?_ HMgo10.out _ | refine Kept.setCell ?_ (.inr GW0.out) _) | exact HK.out)⟩
    ·replace c11 := Bool.eq_false_iff.mpr c11
     subst c11
     rw [if_neg (show ¬ (false = true) by decide)] at H; obtain rfl := Option.some.inj H
     go_enter Try.func155, Try.ntmps155
     try go_wp2
     obtain ⟨Ao20, co20, eo20⟩ := Kd.R_slice HO0_1.out; subst eo20; have n0_ := am (Kd.R_drew HO0_1.out); have n1_ := am (blk_drew BK0.out); have n2_ := am (Kept.drew HK.out); have n3_ := am (below_drew1 HB.out); clear HO0_1 BK0 HK HB; revert n0_ n1_ n2_ n3_; intro HO0_1 BK0 HK HB; obtain ⟨ad175, e175, hx175_0⟩ := Kd.at_int (Kd.R_reads' HO0_1.out).2.2 (ji4) dT dT; cases e175; have p175 := eT (0 ≤ ((ji4) : Int)); have q175 := eT ((ji4) < (l0_1.length : Int)); have p10 : 0 ≤ ((ji4) : Int) := dT; have q10 : ((ji4) : Int) < ((l0_1.length : Int) : Int) := dT; obtain ⟨go10, co10, eo10, gb10, gl10, cl10, HG10⟩ := Kd.R_form HO0_1.out (by omega)
     (first | cases eo10 | (injection eo10 with ea_ en_ ec_; (first | subst ea_ | (injection ea_ with ea_; subst ea_)); subst ec_; clear en_))
     have GB10 := am gb10; have GG10 := am HG10; clear gb10 gl10 HG10; have HMgo10 := am (show (P0_1_ go10 ∨ w.heap.size ≤ go10) from (HO0_1.out.1 _ rfl))
     (first | simp only [add_plain] at hx175_0 | skip)
     obtain ⟨hx10_0, hf10_0⟩ := Kd.R_celln 0 HO0_1.out ((ji4) : Int) p10 q10; replace p10 := eq_true p10; replace q10 := eq_true q10; have HP22 := Kd.R_putn HO0_1.out ((ji4) : Int) (Go.bits .andNot .i64 (rd l0_1 (ji4)) (ji9)); rw [← Ny176.out] at HP22; have HQ22 := am HP22; clear HP22; refine start_ (n := 14) (S := fun w' => w'.cell? ⟨g0, 0, none⟩ = some (.int .i64 z0_0) ∧ w'.cell? ⟨g0, 1, none⟩ = some (.int .i64 z0_1) ∧ w'.cell? ⟨g0, 2, none⟩ = some (.int .i64 a0_0) ∧ w'.cell? ⟨g0, 3, none⟩ = some (.slice (some ⟨go10, 0, none⟩) l0_1.length co20) ∧ w'.cell? ⟨go10, ((ji4)).toNat, none⟩ = some (.int .i64 (rd l0_1 (ji4)))) (ds := [13]) (bA 14 0) (by kernel_rfl) rfl rfl ⟨cz BK0 0, cz BK0 1, cz BK0 2, cz BK0 3, hx175_0⟩ (fun hHeld => ?_); refine with_tabW impl_Bits_set.tab0 impl_Bits_set.bits0 (fun HT_ HW_ => ?_); generalize w.drew = w21 at HO0_1 BK0 HK HB GG10 HQ22 hf10_0 hx10_0 hx175_0 hHeld ⊢; refine pZ 0 (some 6) (bA 14 1) HT_.out ?_; refine pZ 1 (some 7) (bA 14 3) HT_.out ?_; refine pZ 2 (some 8) (bA 14 7) HT_.out ?_; refine pZ 4 (some 10) (bA 14 23) HT_.out ?_; refine pZ 5 (some 11) (bA 14 55) HT_.out ?_; refine pZ 8 (some 14) (bA 14 311) HT_.out ?_; refine pZ 9 (some 15) (bA 14 823) HT_.out ?_; refine pZ 10 (some 16) (bA 14 1847) HT_.out ?_; refine tZ5 3 (some 9) (bA 14 1855) HT_.out HW_.out hHeld ?_; refine pZ 6 (some 12) (bA 14 1919) HT_.out ?_; refine tZ5 7 (some 13) (bA 14 2047) HT_.out HW_.out hHeld ?_; refine pZ 11 (some 17) (bA 14 4095) HT_.out ?_; refine pZ 12 (some 18) (bA 14 8191) HT_.out ?_; refine lZ 13 none (bA 14 16383) HT_.out (fun K hK => ?_); refine skip_ (w1 := ?_) (by rfl) rfl ?_ ?_
     rotate_left
     ·go_simp
      rfl
     refine hK.out _ _ ?_; clear hK K; refine done_ (done_of HT_.out (by kernel_rfl)) ?_
     try go_wp2
     first | go_end0 | ((try simp only [Exit.inBlock, Exit.then]); refine bodyPost_ret (results_none rfl _ _ _) rfl ?_)
     exact ⟨by first | rfl | (simp [errW_none, errW_some] <;> rfl) | (simp only [← hji4, ← hji7, ← hji9]; first | rfl | (simp [errW_none, errW_some] <;> rfl)) | (simp [*, errW_none, errW_some] <;> rfl), Rz HQ22.out, Bq, by repeat (first | (with_reducible first | exact HK.out | apply Kept.alloc | apply Kept.drewN | apply Kept.drew | refine Kept.setCell ?_ HMgo10.out _ | refine Kept.setCell ?_ (.inr GW0.out) _) | exact HK.out)⟩
   ·rw [if_neg c8] at H
    exact absurd H (by simp)
  ·rw [if_neg c6] at H
   exact absurd H (by simp)
 ·rw [if_neg c5] at H
  exact absurd H (by simp)

def impl_Bloom_put.l0 : Nat → List Int → Int → Int → Int → Int → Int → List Int → Option (List Int)
 | 0, _, _, _, _, _, _, _ => none
 | k + 1, x20, x21, x22, x1000, x1001, x1002, x1003 => if x22 < x21 then (if 0 ≤ x22 then (if x22 < (x20.length : Int) then ((impl_Bits_set.f x1002 x1003 (rd x20 x22) true).bind fun t175 => (impl_Bloom_put.l0 k x20 x21 (wrap64 (x22 + 1)) x1000 x1001 x1002 t175)) else (none)) else (none)) else (some x1003)
def impl_Bloom_put.f (k : Nat) (a0_0 : Int) (a0_1 : Int) (a0_2 : Int) (l0_3 : List Int) (a1 : ByteArray) : Option (List Int) := (impl_probesOf.f k a0_0 a0_1 a0_2 a1).bind fun t171 => (impl_Bloom_put.l0 k t171 (t171.length : Int) 0 a0_0 a0_1 a0_2 l0_3)
def impl_Bloom_put.T0 : Bool × List (List Nat × List Nat) := (true, [([], []), ([0], [0]), ([1], [1]), ([2], [2]), ([], []), ([4], [4]), ([5], [5]), ([6], [6]), ([], []), ([8], [8]), ([9], [9]), ([10], [10]), ([11], [11]), ([], []), ([3, 7, 12, 13], [3, 7, 12, 13]), ([14], [14]), ([], [])])
def impl_Bloom_put.B0 : List Nat := [0, 1, 3, 7, 0, 16, 48, 112, 0, 256, 768, 1792, 3840, 0, 16383, 32767, 0]
theorem impl_Bloom_put.tab0 : rtab .any (opsOf Try.f88 0) = impl_Bloom_put.T0 := by kernel_rfl
theorem impl_Bloom_put.bits0 : waitsOk impl_Bloom_put.T0.2 impl_Bloom_put.B0 = true := by kernel_rfl
theorem impl_Bloom_put.calls (k : Nat) (g0 : Nat) (a0_0 : Int) (a0_1 : Int) (a0_2 : Int) (P0_3_ : Nat → Prop) (u9000_ : Value) (l0_3 : List Int) (a1 : ByteArray) (r : List Int) (w0 w : World) (hB : Below w0.heap.size w0 w) (hb0 : w.heap[g0]? = some (.cells #[.int .i64 a0_0, .int .i64 a0_1, .int .i64 a0_2, u9000_] 28 (0, 0))) (ho0_3 : Kd.R (Kd.int .i64) 3 w w0.heap.size P0_3_ u9000_ l0_3) (h : impl_Bloom_put.f k a0_0 a0_1 a0_2 l0_3 a1 = some r) :
  Calls Try.prog 88 #[.pointer (some ⟨g0, 0, none⟩), .string a1] w fun e w' => e = .returned (.tuple #[]) ∧ Kd.R (Kd.int .i64) 3 w' w0.heap.size (fun k_ => (P0_3_ k_ ∨ w.heap.size ≤ k_)) u9000_ r ∧ Below w0.heap.size w0 w' ∧ Kept w w' (fun k_ => P0_3_ k_) := by
 have HO0_3 := am (show Kd.R (Kd.int .i64) 3 w w0.heap.size (fun k_ => (P0_3_ k_ ∨ w.heap.size ≤ k_)) u9000_ l0_3 from Kd.R_mono ho0_3 (fun k_ hk => (.inl hk))); have HK := am (Kept.refl w (fun k_ => P0_3_ k_)); have BK0 := am hb0; clear hb0; have HW0 := am hB.size; have HB := am hB; clear hB; have H : ((impl_probesOf.f k a0_0 a0_1 a0_2 a1).bind fun t171 => (impl_Bloom_put.l0 k t171 (t171.length : Int) 0 a0_0 a0_1 a0_2 l0_3)) = some r := h; clear h; replace H := Option.bind_eq_some_iff.mp H; obtain ⟨t171, A30, H⟩ := H; (try dsimp -simprocs only at H); have A3 := am A30; clear A30; have H' := am H; clear H
 go_enter Try.func88, Try.ntmps88
 try go_wp2
 have n0_ := am (Kd.R_drew HO0_3.out); have n1_ := am (blk_drew BK0.out); have n2_ := am (Kept.drew HK.out); have n3_ := am (below_drew1 HB.out); clear HO0_3 BK0 HK HB; revert n0_ n1_ n2_ n3_; intro HO0_3 BK0 HK HB; refine start_ (n := 17) (S := fun w' => w'.cell? ⟨g0, 0, none⟩ = some (.int .i64 a0_0) ∧ w'.cell? ⟨g0, 1, none⟩ = some (.int .i64 a0_1) ∧ w'.cell? ⟨g0, 2, none⟩ = some (.int .i64 a0_2) ∧ w'.cell? ⟨g0, 3, none⟩ = some (u9000_)) (ds := []) (bA 17 0) (by kernel_rfl) rfl rfl ⟨cz BK0 0, cz BK0 1, cz BK0 2, cz BK0 3⟩ (fun hHeld => ?_); refine with_tabW impl_Bloom_put.tab0 impl_Bloom_put.bits0 (fun HT_ HW_ => ?_); generalize w.drew = w4 at HO0_3 BK0 HK HB hHeld ⊢; refine pZ 0 (some 6) (bA 17 1) HT_.out ?_; refine pZ 1 (some 7) (bA 17 3) HT_.out ?_; refine pZ 2 (some 8) (bA 17 7) HT_.out ?_; refine pZ 4 (some 10) (bA 17 23) HT_.out ?_; refine pZ 5 (some 11) (bA 17 55) HT_.out ?_; refine pZ 6 (some 12) (bA 17 119) HT_.out ?_; refine pZ 8 (some 14) (bA 17 375) HT_.out ?_; refine pZ 9 (some 15) (bA 17 887) HT_.out ?_; refine pZ 10 (some 16) (bA 17 1911) HT_.out ?_; refine pZ 11 (some 17) (bA 17 3959) HT_.out ?_; refine pZ 13 (some 19) (bA 17 12151) HT_.out ?_; refine pZ 16 (some 22) (bA 17 77687) HT_.out ?_; refine tZ4 3 (some 9) (bA 17 77695) HT_.out HW_.out hHeld ?_; refine tZ4 7 (some 13) (bA 17 77823) HT_.out HW_.out hHeld ?_; refine tZ4 12 (some 18) (bA 17 81919) HT_.out HW_.out hHeld ?_; refine oZ 14 (some 20) (bA 17 98303) HT_.out (fun K hK => ?_); refine gZ Try.func124 #[.int .i64 a0_0, .int .i64 a0_1, .int .i64 a0_2, .string a1] ?_
 with_reducible refine (impl_probesOf.calls k a0_0 a0_1 a0_2 a1 t171 _ A3.out).mono ?_
 rintro e w5 ⟨v172, rfl, ho0, hb⟩; refine ⟨_, rfl, ?_⟩; have n0_ := Re HO0_3 (Kd.R_base ho0) hb; have n1_ := am (Kd.R_lower (Kd.R_new' (Kd.R_newM (M := fun k_ => (P0_3_ k_ ∨ w.heap.size ≤ k_)) ho0 (by first | exact HK.out.1 | exact (show Kept w _ (fun k_ => P0_3_ k_) from by repeat (first | (with_reducible first | exact HK.out | apply Kept.alloc | apply Kept.drewN | apply Kept.drew | refine Kept.setCell ?_ (.inr GW0.out) _) | exact HK.out)).1) (fun k_ h_ => .inr h_)) (Kd.R_lt (Rz HO0_3.out))) (by first | exact below_size (w := w0) (Bq) | exact below_size (w := w) (Bq))); have n2_ := Kb BK0 hb; have n3_ := am (Kept.below (S := (fun k_ => P0_3_ k_)) (by repeat (first | (with_reducible first | exact HK.out | apply Kept.alloc | apply Kept.drewN | apply Kept.drew | refine Kept.setCell ?_ (.inr GW0.out) _) | exact HK.out)) hb); have n4_ := Bc HB hb; clear HO0_3 BK0 HK HB; revert n0_ n1_ n2_ n3_ n4_; intro HO0_3 HO173 BK0 HK HB
 (try clear hb)
 (try clear hb2)
 (try clear hk)
 (try clear hi)
 (try clear ho0)
 obtain ⟨Ao6, co6, eo6⟩ := Kd.R_slice HO173.out
 (first | subst eo6 | (injection eo6 with f1_ f2_ f3_; have f4_ := f1_.symm; have f5_ := f3_.symm; clear f1_ f2_ f3_; subst f4_; subst f5_))
 refine hK.out _ _ ⟨cz BK0 0, cz BK0 1, cz BK0 2, cz BK0 3⟩ (fun hHeld => ?_); clear hK K; refine norm_ (a' := ?_) ?_ ?_; rotate_left; show Act.put _ (some 20) _ = _; simp only [aP, i64_w, i32_w]; rfl; refine pZ 15 (some 21) (bA 17 131071) HT_.out ?_; refine done_ (done_of HT_.out (by kernel_rfl)) ?_
 try go_wp2
 go_loopg [22] k (fun kq v22 w' => ∃ (x22_1 : Int) (x1003_1 : List Int), v22 = .int .i64 x22_1 ∧ Aside0 (impl_Bloom_put.l0 kq t171 (t171.length : Int) x22_1 a0_0 a0_1 a0_2 x1003_1 = some r) ∧ Aside0 (kq ≤ k) ∧ Aside0 (Kd.R (Kd.int .i64) 3 w' w0.heap.size (fun k_ => (P0_3_ k_ ∨ w.heap.size ≤ k_) ∧ some k_ ≠ (u9000_ : Value).ownBlock) (.slice Ao6 t171.length co6) t171) ∧ Aside0 (Kd.R (Kd.int .i64) 3 w' w0.heap.size (fun k_ => (P0_3_ k_ ∨ w.heap.size ≤ k_) ∧ some k_ ≠ ((.slice Ao6 t171.length co6) : Value).ownBlock) u9000_ x1003_1) ∧ Aside0 (w'.heap[g0]? = some (.cells #[.int .i64 a0_0, .int .i64 a0_1, .int .i64 a0_2, u9000_] 28 (0, 0))) ∧ Aside0 (Kept w w' (fun k_ => P0_3_ k_)) ∧ Aside0 (Below w0.heap.size w0 w'))
 case atStart => exact ⟨(0), (l0_3), wZ, H', ⟨Nat.le_refl _⟩, ⟨Rz (Kd.R_mono HO173.out (fun _ hk => ⟨hk.1.1, hk.2⟩))⟩, ⟨Rz HO0_3.out⟩, ⟨Kz BK0.out⟩, ⟨by repeat (first | (with_reducible first | exact HK.out | apply Kept.alloc | apply Kept.drewN | apply Kept.drew | refine Kept.setCell ?_ (.inr GW0.out) _) | exact HK.out)⟩, ⟨Bq⟩⟩
 case round =>
  clear H'
  try clear c1
  try clear p2
  obtain ⟨x22_1, x1003_1, rfl, HA, HK1, HO_20, HO_1003, BK0, HK, HB⟩ := hrel; cases gk with
  | zero => exact absurd HA.out (by simp [impl_Bloom_put.l0])
  | succ k1 =>
   have H := HA.out; clear HA
   simp only [impl_Bloom_put.l0] at H
   by_cases c7 : x22_1 < (t171.length : Int)
   ·rw [if_pos c7] at H
    have c7b0 : decide (x22_1 < (t171.length : Int)) = true := decide_eq_true c7; clear c7
    by_cases c8 : 0 ≤ x22_1
    ·rw [if_pos c8] at H
     have c8b0 : decide (0 ≤ x22_1) = true := decide_eq_true c8; clear c8
     by_cases c9 : x22_1 < (t171.length : Int)
     ·rw [if_pos c9] at H
      have c9b0 : decide (x22_1 < (t171.length : Int)) = true := decide_eq_true c9; clear c9; replace H := Option.bind_eq_some_iff.mp H; obtain ⟨t175, A100, H⟩ := H; (try dsimp -simprocs only at H); have A10 := am A100; clear A100; have H' := am H; clear H; obtain ⟨ad174, e174, hx174_0⟩ := Kd.at_int (Kd.R_reads' HO_20.out).2.2 x22_1 dT dT; cases e174; have p174 := eT (0 ≤ (x22_1 : Int)); have q174 := eT (x22_1 < (t171.length : Int)); obtain ⟨Ao11, co11, eo11⟩ := Kd.R_slice HO_1003.out; subst eo11
      go_wp2_with (first | ((with_reducible refine gate_callee (f := 155) rfl ?_); refine gL (some 30) Try.func155 #[.pointer (some ⟨g0, 2, none⟩), .int .i64 (rd t171 x22_1), .bool true] ?_; (with_reducible refine (impl_Bits_set.calls_v0_28_2 g0 a0_0 a0_1 a0_2 (fun k_ => some k_ = (.slice Ao11 x1003_1.length co11 : Value).ownBlock) (.slice Ao11 x1003_1.length co11) x1003_1 (rd t171 x22_1) true t175 w0 _ ?side1 ?side2 ?side3 A10.out).mono ?_); (case side1 => repeat (first | (with_reducible first | exact HB.out | apply below_alloc | apply pw_below_drewN | apply below_drew1 | refine below_set ?_ GE0.out) | exact HB.out)); (case side2 => exact Kz BK0.out); (case side3 => exact Kd.R_tight rfl HO_1003.out); rintro e w12 ⟨rfl, hy0, hb, hkp⟩; refine ⟨_, rfl, ?_⟩; have n0_ := am (Kd.R_mono (ok' := fun k_ => (P0_3_ k_ ∨ w.heap.size ≤ k_) ∧ some k_ ≠ (.slice Ao11 x1003_1.length co11 : Value).ownBlock) (Kd.R_keptB (HO_20.out) hkp (fun k_ hk_ hs_ => (hk_.2) hs_)) (fun k_ hk_ => ⟨hk_.1.1, hk_.1.2⟩)); have n1_ := am (Kd.R_reok rfl hy0 (fun k_ e_ => HO_1003.out.1 k_ e_)); have n2_ := am (blk_kept (Kz BK0.out) hkp (fun hs_ => (fun e_ => (Kd.R_ne HO_1003.out BK0.out (by decide)) e_) hs_)); have n3_ := am (Kept.then_ (S := (fun k_ => P0_3_ k_)) (by repeat (first | (with_reducible first | exact HK.out | apply Kept.alloc | apply Kept.drewN | apply Kept.drew | refine Kept.setCell ?_ (.inr GW0.out) _) | exact HK.out)) hkp (fun k_ hs_ => (fun e_ => (HO_1003.out.1 k_ e_.symm).1) hs_)); have n4_ := am (hb); clear HO_20 HO_1003 BK0 HK HB; revert n0_ n1_ n2_ n3_ n4_; intro HO_20 HO_1003 BK0 HK HB; (try clear hb); (try clear hkp); (try clear hy0)))
      go_roundg k1
      case measure => have := HK1.out; omega
      case rel => exact ⟨(wrap64 (x22_1 + 1)), (t175), wZ, H', ⟨by have := HK1.out; omega⟩, ⟨Rz HO_20.out⟩, ⟨Rz HO_1003.out⟩, ⟨Kz BK0.out⟩, ⟨by repeat (first | (with_reducible first | exact HK.out | apply Kept.alloc | apply Kept.drewN | apply Kept.drew | refine Kept.setCell ?_ (.inr GW0.out) _) | exact HK.out)⟩, ⟨Bq⟩⟩
     ·rw [if_neg c9] at H
      exact absurd H (by simp)
    ·rw [if_neg c8] at H
     exact absurd H (by simp)
   ·rw [if_neg c7] at H
    have c7b0 : decide (x22_1 < (t171.length : Int)) = false := decide_eq_false c7; clear c7; obtain rfl := Option.some.inj H
    go_wp2
    first | go_end0 | ((try simp only [Exit.inBlock, Exit.then]); refine bodyPost_ret (results_none rfl _ _ _) rfl ?_)
    exact ⟨eZ, Rz (Kd.R_mono HO_1003.out (fun _ hk => hk.1)), Bq, by repeat (first | (with_reducible first | exact HK.out | apply Kept.alloc | apply Kept.drewN | apply Kept.drew | refine Kept.setCell ?_ (.inr GW0.out) _) | exact HK.out)⟩

def impl_in.f (a0 : Int) (a1 : Int) (a2 : Int) : Option (Bool) := if a0 ≥ a1 then (some (decide (a0 ≤ a2))) else (some false)
theorem impl_in.calls (a0 : Int) (a1 : Int) (a2 : Int) (r : Bool) (w : World) (h : impl_in.f a0 a1 a2 = some r) :
  Calls Try.prog 126 #[.int .i64 a0, .int .i64 a1, .int .i64 a2] w fun e w' => e = .returned (.bool r) ∧ Drawn0 w w' := by
 have H : (if a0 ≥ a1 then (some (decide (a0 ≤ a2))) else (some false)) = some r := h; clear h
 by_cases c4 : a0 ≥ a1
 ·rw [if_pos c4] at H
  have c4b0 : decide (a1 ≤ a0) = true := decide_eq_true c4; clear c4; obtain rfl := Option.some.inj H
  go_enter Try.func126, Try.ntmps126
  go_wp2
  go_ret
  exact ⟨by first | rfl | (simp; done) | (simp [*]; done), by repeat (first | exact Drawn0.refl _ | apply Drawn0.step)⟩
 ·rw [if_neg c4] at H
  have c4b0 : decide (a1 ≤ a0) = false := decide_eq_false c4; clear c4; obtain rfl := Option.some.inj H
  go_enter Try.func126, Try.ntmps126
  go_wp2
  go_ret
  exact ⟨by first | rfl | (simp; done) | (simp [*]; done), by repeat (first | exact Drawn0.refl _ | apply Drawn0.step)⟩

def impl_isSeed.f (a0 : Int) : Option (Bool) := (impl_in.f a0 0 9999).bind fun t176 => (some t176)
theorem impl_isSeed.calls (a0 : Int) (r : Bool) (w : World) (h : impl_isSeed.f a0 = some r) :
  Calls Try.prog 128 #[.int .i64 a0] w fun e w' => e = .returned (.bool r) ∧ Drawn0 w w' := by
 have H : ((impl_in.f a0 0 9999).bind fun t176 => (some t176)) = some r := h; clear h; replace H := Option.bind_eq_some_iff.mp H; obtain ⟨t176, A20, H⟩ := H; (try dsimp -simprocs only at H); have A2 := am A20; clear A20; obtain rfl := Option.some.inj H
 go_enter Try.func128, Try.ntmps128
 go_wp2_with (first | ((with_reducible refine gate_callee (f := 126) rfl ?_); refine gL (some 4) Try.func126 #[.int .i64 a0, .int .i64 0, .int .i64 9999] ?_; (with_reducible refine (impl_in.calls a0 0 9999 t176 _ A2.out).mono ?_); rintro e w' ⟨rfl, ⟨nd, rfl⟩⟩; refine ⟨_, rfl, ?_⟩))
 go_ret
 exact ⟨by first | rfl | (simp; done) | (simp [*]; done), by repeat (first | exact Drawn0.refl _ | apply Drawn0.step)⟩

def impl_sizesOk.f (a0 : Int) (a1 : Int) (a2 : Int) : Option (Bool) := (impl_isSeed.f a0).bind fun t177 => (if t177 = true then ((impl_in.f a1 1 8).bind fun t178 => (if t178 = true then ((impl_in.f a2 1 512).bind fun t179 => (some t179)) else (some false))) else (some false))
theorem impl_sizesOk.calls (a0 : Int) (a1 : Int) (a2 : Int) (r : Bool) (w : World) (h : impl_sizesOk.f a0 a1 a2 = some r) :
  Calls Try.prog 102 #[.int .i64 a0, .int .i64 a1, .int .i64 a2] w fun e w' => e = .returned (.bool r) ∧ Drawn0 w w' := by
 have H : ((impl_isSeed.f a0).bind fun t177 => (if t177 = true then ((impl_in.f a1 1 8).bind fun t178 => (if t178 = true then ((impl_in.f a2 1 512).bind fun t179 => (some t179)) else (some false))) else (some false))) = some r := h; clear h; replace H := Option.bind_eq_some_iff.mp H; obtain ⟨t177, A40, H⟩ := H; (try dsimp -simprocs only at H); have A4 := am A40; clear A40
 by_cases c5 : t177 = true
 ·subst c5
  rw [if_pos rfl] at H; replace H := Option.bind_eq_some_iff.mp H; obtain ⟨t178, A60, H⟩ := H; (try dsimp -simprocs only at H); have A6 := am A60; clear A60
  by_cases c7 : t178 = true
  ·subst c7
   rw [if_pos rfl] at H; replace H := Option.bind_eq_some_iff.mp H; obtain ⟨t179, A80, H⟩ := H; (try dsimp -simprocs only at H); have A8 := am A80; clear A80; obtain rfl := Option.some.inj H
   go_enter Try.func102, Try.ntmps102
   go_wp2_with (first | ((with_reducible refine gate_callee (f := 128) rfl ?_); refine gL (some 8) Try.func128 #[.int .i64 a0] ?_; (with_reducible refine (impl_isSeed.calls a0 true _ A4.out).mono ?_); rintro e w' ⟨rfl, ⟨nd, rfl⟩⟩; refine ⟨_, rfl, ?_⟩) | (go_at_call 126; (with_reducible refine (impl_in.calls a1 1 8 true _ A6.out).mono ?_); rintro e w' ⟨rfl, ⟨nd, rfl⟩⟩) | (go_at_call 126; (with_reducible refine (impl_in.calls a2 1 512 t179 _ A8.out).mono ?_); rintro e w' ⟨rfl, ⟨nd, rfl⟩⟩))
   go_ret
   exact ⟨by first | rfl | (simp; done) | (simp [*]; done), by repeat (first | exact Drawn0.refl _ | apply Drawn0.step)⟩
  ·replace c7 := Bool.eq_false_iff.mpr c7
   subst c7
   rw [if_neg (show ¬ (false = true) by decide)] at H; obtain rfl := Option.some.inj H
   go_enter Try.func102, Try.ntmps102
   go_wp2_with (first | ((with_reducible refine gate_callee (f := 128) rfl ?_); refine gL (some 8) Try.func128 #[.int .i64 a0] ?_; (with_reducible refine (impl_isSeed.calls a0 true _ A4.out).mono ?_); rintro e w' ⟨rfl, ⟨nd, rfl⟩⟩; refine ⟨_, rfl, ?_⟩) | (go_at_call 126; (with_reducible refine (impl_in.calls a1 1 8 false _ A6.out).mono ?_); rintro e w' ⟨rfl, ⟨nd, rfl⟩⟩))
   go_ret
   exact ⟨by first | rfl | (simp; done) | (simp [*]; done), by repeat (first | exact Drawn0.refl _ | apply Drawn0.step)⟩
 ·replace c5 := Bool.eq_false_iff.mpr c5
  subst c5
  rw [if_neg (show ¬ (false = true) by decide)] at H; obtain rfl := Option.some.inj H
  go_enter Try.func102, Try.ntmps102
  go_wp2_with (first | ((with_reducible refine gate_callee (f := 128) rfl ?_); refine gL (some 8) Try.func128 #[.int .i64 a0] ?_; (with_reducible refine (impl_isSeed.calls a0 false _ A4.out).mono ?_); rintro e w' ⟨rfl, ⟨nd, rfl⟩⟩; refine ⟨_, rfl, ?_⟩))
  go_ret
  exact ⟨by first | rfl | (simp; done) | (simp [*]; done), by repeat (first | exact Drawn0.refl _ | apply Drawn0.step)⟩

def impl_words.f (a0 : Int) : Option (Int) := some (wrap64 (Int.tdiv (wrap64 ((wrap64 (a0 + 16)) - 1)) 16))
theorem impl_words.calls (a0 : Int) (r : Int) (w : World) (h : impl_words.f a0 = some r) :
  Calls Try.prog 178 #[.int .i64 a0] w fun e w' => e = .returned (.int .i64 r) ∧ Drawn0 w w' := by
 have H : (some (wrap64 (Int.tdiv (wrap64 ((wrap64 (a0 + 16)) - 1)) 16))) = some r := h; clear h; obtain rfl := Option.some.inj H
 go_enter Try.func178, Try.ntmps178
 go_wp2
 go_ret
 exact ⟨by first | rfl | (simp; done) | (simp [*]; done), by repeat (first | exact Drawn0.refl _ | apply Drawn0.step)⟩

mutual
def impl_IsBits.j0 : Nat → Bool → Int → List Int → Option (Bool)
 | 0, _, _, _ => none
 | k + 1, x18, x181000, x181001 => if x18 = true then (some false) else (impl_IsBits.l0 k x181001 (x181001.length : Int) 0 x181000 x181001)
def impl_IsBits.l0 : Nat → List Int → Int → Int → Int → List Int → Option (Bool)
 | 0, _, _, _, _, _ => none
 | k + 1, x20, x21, x22, x181000, x181001 => if x22 < x21 then (if 0 ≤ x22 then (if x22 < (x20.length : Int) then ((impl_in.f (rd x20 x22) 0 65535).bind fun t184 => (if t184 = true then (impl_IsBits.l0 k x20 x21 (wrap64 (x22 + 1)) x181000 x181001) else (some false))) else (none)) else (none)) else (if (Int.tmod x181000 16) = 0 then (some true) else (if 0 ≤ (wrap64 ((x181001.length : Int) - 1)) then (if (wrap64 ((x181001.length : Int) - 1)) < (x181001.length : Int) then (if 0 ≤ (Int.tmod x181000 16) then (some ((shr .i64 (rd x181001 (wrap64 ((x181001.length : Int) - 1))) (Int.tmod x181000 16)) == 0)) else (none)) else (none)) else (none)))
end
def impl_IsBits.f (k : Nat) (a0_0 : Int) (l0_1 : List Int) : Option (Bool) := (impl_in.f a0_0 0 4096).bind fun t181 => (if t181 = true then ((impl_words.f a0_0).bind fun t182 => (impl_IsBits.j0 k ((l0_1.length : Int) != t182) a0_0 l0_1)) else (impl_IsBits.j0 k true a0_0 l0_1))
theorem impl_IsBits.calls (k : Nat) (a0_0 : Int) (A0_1 : Option Addr) (c0_1 : Nat) (l0_1 : List Int) (r : Bool) (w : World) (hr0_1 : Kd.C (Kd.int .i64) w A0_1 l0_1.length l0_1) (hc0_1 : l0_1.length ≤ c0_1) (h : impl_IsBits.f k a0_0 l0_1 = some r) :
  Calls Try.prog 125 #[.agg #[.int .i64 a0_0, .slice A0_1 l0_1.length c0_1]] w fun e w' => e = .returned (.bool r) ∧ Below w.heap.size w w' := by
 have hu26 := Try.underlying26; have HR0_1 := am hr0_1; have HC0_1 := am hc0_1; clear hr0_1 hc0_1; have HB := am (Below.refl w.heap.size w); have H : ((impl_in.f a0_0 0 4096).bind fun t181 => (if t181 = true then ((impl_words.f a0_0).bind fun t182 => (impl_IsBits.j0 k ((l0_1.length : Int) != t182) a0_0 l0_1)) else (impl_IsBits.j0 k true a0_0 l0_1))) = some r := h; clear h; have HC2 := am H; clear H
 go_enter Try.func125, Try.ntmps125
 go_upto_region 1 with (first | ((with_reducible refine gate_dst (N := 1) rfl ?_); (try (refine gate_guard (by rfl) ?_; dsimp only)); refine bE 1 #[.int .i64 a0_0, .slice A0_1 l0_1.length c0_1] 26 ?_; intro gb180 hg w3 hbox hb; have n0_ := Bb HB hb; have n1_ := am (hbox); have n2_ := Gl HB hg; have n3_ := Gl HB hg; clear HB; revert n0_ n1_ n2_ n3_; intro HB BK180 GW180 GE180; clear hb hbox hg))
 repeat (go_quiet (first | ((with_reducible refine gate_dst (N := 1) rfl ?_); (try (refine gate_guard (by rfl) ?_; dsimp only)); refine bE 1 #[.int .i64 a0_0, .slice A0_1 l0_1.length c0_1] 26 ?_; intro gb180 hg w3 hbox hb; have n0_ := Bb HB hb; have n1_ := am (hbox); have n2_ := Gl HB hg; have n3_ := Gl HB hg; clear HB; revert n0_ n1_ n2_ n3_; intro HB BK180 GW180 GE180; clear hb hbox hg)); go_upto_region 1 with (first | ((with_reducible refine gate_dst (N := 1) rfl ?_); (try (refine gate_guard (by rfl) ?_; dsimp only)); refine bE 1 #[.int .i64 a0_0, .slice A0_1 l0_1.length c0_1] 26 ?_; intro gb180 hg w3 hbox hb; have n0_ := Bb HB hb; have n1_ := am (hbox); have n2_ := Gl HB hg; have n3_ := Gl HB hg; clear HB; revert n0_ n1_ n2_ n3_; intro HB BK180 GW180 GE180; clear hb hbox hg)))
 (try simp only [aP])
 go_cut [18] (fun v18 wc => ∃ (kq : Nat) (x18_1 : Bool), v18 = .bool x18_1 ∧ Aside0 (impl_IsBits.j0 kq x18_1 a0_0 l0_1 = some r) ∧ Aside0 (kq ≤ k) ∧ Aside0 (wc.heap[gb180]? = some (.cells #[.int .i64 a0_0, (.slice A0_1 l0_1.length c0_1)] 26 (0, 0))) ∧ Aside0 (Below w.heap.size w wc))
 case first =>
  have H := HC2.out; clear HC2; replace H := Option.bind_eq_some_iff.mp H; obtain ⟨t181, A40, H⟩ := H; (try dsimp -simprocs only at H); have A4 := am A40; clear A40
  by_cases c5 : t181 = true
  ·subst c5
   rw [if_pos rfl] at H; replace H := Option.bind_eq_some_iff.mp H; obtain ⟨t182, A60, H⟩ := H; (try dsimp -simprocs only at H); have A6 := am A60; clear A60; have H' := am H; clear H; obtain ⟨hcz7_0, hcz7_1, hfz7_0, hfz7_1⟩ := cf2 (w := w3) BK180
   go_wp2_with (first | (go_at_call 126; (with_reducible refine (impl_in.calls a0_0 0 4096 true _ A4.out).mono ?_); rintro e w' ⟨rfl, ⟨nd, rfl⟩⟩; (try exact yZ)) | (go_at_call 178; (with_reducible refine (impl_words.calls a0_0 t182 _ A6.out).mono ?_); rintro e w' ⟨rfl, ⟨nd, rfl⟩⟩; (try exact yZ)))
   repeat (go_quiet (first | (go_at_call 126; (with_reducible refine (impl_in.calls a0_0 0 4096 true _ A4.out).mono ?_); rintro e w' ⟨rfl, ⟨nd, rfl⟩⟩; (try exact yZ)) | (go_at_call 178; (with_reducible refine (impl_words.calls a0_0 t182 _ A6.out).mono ?_); rintro e w' ⟨rfl, ⟨nd, rfl⟩⟩; (try exact yZ))); try go_wp2_with (first | (go_at_call 126; (with_reducible refine (impl_in.calls a0_0 0 4096 true _ A4.out).mono ?_); rintro e w' ⟨rfl, ⟨nd, rfl⟩⟩; (try exact yZ)) | (go_at_call 178; (with_reducible refine (impl_words.calls a0_0 t182 _ A6.out).mono ?_); rintro e w' ⟨rfl, ⟨nd, rfl⟩⟩; (try exact yZ))))
   go_meet
   case rel => exact ⟨_, (((l0_1.length : Int) != t182)), wZ, H', ⟨by first | omega | exact Nat.le_refl _⟩, ⟨Kz BK180.out⟩, ⟨Bq⟩⟩
  ·replace c5 := Bool.eq_false_iff.mpr c5
   subst c5
   rw [if_neg (show ¬ (false = true) by decide)] at H; have H' := am H; clear H; obtain ⟨hcz8_0, hcz8_1, hfz8_0, hfz8_1⟩ := cf2 (w := w3) BK180
   go_wp2_with (first | (go_at_call 126; (with_reducible refine (impl_in.calls a0_0 0 4096 false _ A4.out).mono ?_); rintro e w' ⟨rfl, ⟨nd, rfl⟩⟩; (try exact yZ)))
   repeat (go_quiet (first | (go_at_call 126; (with_reducible refine (impl_in.calls a0_0 0 4096 false _ A4.out).mono ?_); rintro e w' ⟨rfl, ⟨nd, rfl⟩⟩; (try exact yZ))); try go_wp2_with (first | (go_at_call 126; (with_reducible refine (impl_in.calls a0_0 0 4096 false _ A4.out).mono ?_); rintro e w' ⟨rfl, ⟨nd, rfl⟩⟩; (try exact yZ))))
   go_meet
   case rel => exact ⟨_, (true), wZ, H', ⟨by first | omega | exact Nat.le_refl _⟩, ⟨Kz BK180.out⟩, ⟨Bq⟩⟩
 case rest =>
  clear HC2
  try clear c1
  try clear p2
  try clear c5
  try clear hcz7_0
  try clear hcz7_1
  try clear hcz8_0
  try clear hcz8_1
  try clear hfz7_0
  try clear hfz7_1
  try clear hfz8_0
  try clear hfz8_1
  obtain ⟨kq, x18_1, rfl, HA, HJ1, BK180, HB⟩ := hcut; cases kq with
  | zero => exact absurd HA.out (by simp [impl_IsBits.j0])
  | succ kj1 =>
   have H := HA.out; clear HA
   simp only [impl_IsBits.j0] at H
   by_cases c9 : x18_1 = true
   ·subst c9
    rw [if_pos rfl] at H; obtain rfl := Option.some.inj H
    go_wp2
    repeat (go_quiet (fail); try go_wp2)
    go_ret
    exact ⟨eZ, Bq⟩
   ·replace c9 := Bool.eq_false_iff.mpr c9
    subst c9
    rw [if_neg (show ¬ (false = true) by decide)] at H; have H' := am H; clear H; obtain ⟨hcz10_0, hcz10_1, hfz10_0, hfz10_1⟩ := cf2 (w := wc) BK180
    go_wp2
    repeat (go_quiet (fail); try go_wp2)
    go_loopg [22] kj1 (fun kq v22 w' => ∃ (x22_2 : Int), v22 = .int .i64 x22_2 ∧ Aside0 (impl_IsBits.l0 kq l0_1 (l0_1.length : Int) x22_2 a0_0 l0_1 = some r) ∧ Aside0 (kq ≤ kj1) ∧ Aside0 (w'.heap[gb180]? = some (.cells #[.int .i64 a0_0, (.slice A0_1 l0_1.length c0_1)] 26 (0, 0))) ∧ Aside0 (Below w.heap.size w w'))
    case atStart => exact ⟨(0), wZ, H', ⟨Nat.le_refl _⟩, ⟨Kz BK180.out⟩, ⟨Bq⟩⟩
    case round =>
     clear H'
     try clear c1
     try clear p2
     try clear c5
     try clear c9
     try clear hcz10_0
     try clear hcz10_1
     try clear hcz7_0
     try clear hcz7_1
     try clear hcz8_0
     try clear hcz8_1
     try clear hfz10_0
     try clear hfz10_1
     try clear hfz7_0
     try clear hfz7_1
     try clear hfz8_0
     try clear hfz8_1
     try clear p2
     obtain ⟨x22_2, rfl, HA, HK2, BK180, HB⟩ := hrel; cases gk with
     | zero => exact absurd HA.out (by simp [impl_IsBits.l0])
     | succ k2 =>
      have H := HA.out; clear HA
      simp only [impl_IsBits.l0] at H
      by_cases c11 : x22_2 < (l0_1.length : Int)
      ·rw [if_pos c11] at H
       have c11b0 : decide (x22_2 < (l0_1.length : Int)) = true := decide_eq_true c11; clear c11
       by_cases c12 : 0 ≤ x22_2
       ·rw [if_pos c12] at H
        have c12b0 : decide (0 ≤ x22_2) = true := decide_eq_true c12; clear c12
        by_cases c13 : x22_2 < (l0_1.length : Int)
        ·rw [if_pos c13] at H
         have c13b0 : decide (x22_2 < (l0_1.length : Int)) = true := decide_eq_true c13; clear c13; replace H := Option.bind_eq_some_iff.mp H; obtain ⟨t184, A140, H⟩ := H; (try dsimp -simprocs only at H); have A14 := am A140; clear A140
         by_cases c15 : t184 = true
         ·subst c15
          rw [if_pos rfl] at H; have H' := am H; clear H; have p183 : 0 ≤ (x22_2 : Int) := dT; have q183 : x22_2 < (l0_1.length : Int) := dT; obtain ⟨ad183, e183, hx183_0⟩ := Kd.at_int HR0_1.out x22_2 p183 q183; cases e183; replace hx183_0 := (HB.out.cell (World.block_lt_of_cell? w _ hx183_0)).trans hx183_0; replace p183 := eq_true p183; replace q183 := eq_true q183
          go_wp2_with (first | (go_at_call 126; (with_reducible refine (impl_in.calls (rd l0_1 x22_2) 0 65535 true _ A14.out).mono ?_); rintro e w' ⟨rfl, ⟨nd, rfl⟩⟩; (try exact yZ)))
          repeat (go_quiet (first | (go_at_call 126; (with_reducible refine (impl_in.calls (rd l0_1 x22_2) 0 65535 true _ A14.out).mono ?_); rintro e w' ⟨rfl, ⟨nd, rfl⟩⟩; (try exact yZ))); try go_wp2_with (first | (go_at_call 126; (with_reducible refine (impl_in.calls (rd l0_1 x22_2) 0 65535 true _ A14.out).mono ?_); rintro e w' ⟨rfl, ⟨nd, rfl⟩⟩; (try exact yZ))))
          go_roundg k2
          case measure => have := HJ1.out; have := HK2.out; omega
          case rel => exact ⟨(wrap64 (x22_2 + 1)), wZ, H', ⟨by have := HJ1.out; have := HK2.out; omega⟩, ⟨Kz BK180.out⟩, ⟨Bq⟩⟩
         ·replace c15 := Bool.eq_false_iff.mpr c15
          subst c15
          rw [if_neg (show ¬ (false = true) by decide)] at H; obtain rfl := Option.some.inj H; have p183 : 0 ≤ (x22_2 : Int) := dT; have q183 : x22_2 < (l0_1.length : Int) := dT; obtain ⟨ad183, e183, hx183_0⟩ := Kd.at_int HR0_1.out x22_2 p183 q183; cases e183; replace hx183_0 := (HB.out.cell (World.block_lt_of_cell? w _ hx183_0)).trans hx183_0; replace p183 := eq_true p183; replace q183 := eq_true q183
          go_wp2_with (first | (go_at_call 126; (with_reducible refine (impl_in.calls (rd l0_1 x22_2) 0 65535 false _ A14.out).mono ?_); rintro e w' ⟨rfl, ⟨nd, rfl⟩⟩; (try exact yZ)))
          repeat (go_quiet (first | (go_at_call 126; (with_reducible refine (impl_in.calls (rd l0_1 x22_2) 0 65535 false _ A14.out).mono ?_); rintro e w' ⟨rfl, ⟨nd, rfl⟩⟩; (try exact yZ))); try go_wp2_with (first | (go_at_call 126; (with_reducible refine (impl_in.calls (rd l0_1 x22_2) 0 65535 false _ A14.out).mono ?_); rintro e w' ⟨rfl, ⟨nd, rfl⟩⟩; (try exact yZ))))
          go_ret
          exact ⟨eZ, Bq⟩
        ·rw [if_neg c13] at H
         exact absurd H (by simp)
       ·rw [if_neg c12] at H
        exact absurd H (by simp)
      ·rw [if_neg c11] at H
       have c11b0 : decide (x22_2 < (l0_1.length : Int)) = false := decide_eq_false c11; clear c11
       by_cases c16 : (Int.tmod a0_0 16) = 0
       ·rw [if_pos c16] at H
        have c16b0 : ((Int.tmod a0_0 16) == 0) = true := beq_iff_eq.mpr c16; have c16b1 : ((Int.tmod a0_0 16) != 0) = false := bne_eq_false_iff_eq.mpr c16; clear c16; obtain rfl := Option.some.inj H; obtain ⟨hcz17_0, hcz17_1, hfz17_0, hfz17_1⟩ := cf2 (w := wr) BK180
        go_wp2
        repeat (go_quiet (fail); try go_wp2)
        go_ret
        exact ⟨eZ, Bq⟩
       ·rw [if_neg c16] at H
        have c16b0 : ((Int.tmod a0_0 16) == 0) = false := beq_eq_false_iff_ne.mpr c16; have c16b1 : ((Int.tmod a0_0 16) != 0) = true := bne_iff_ne.mpr c16; obtain ⟨ji18, hji18⟩ : ∃ j_ : Int, (wrap64 ((l0_1.length : Int) - 1)) = j_ := ⟨_, rfl⟩
        replace H : (if 0 ≤ (ji18) then (if (ji18) < (l0_1.length : Int) then (if 0 ≤ (Int.tmod a0_0 16) then (some ((shr .i64 (rd l0_1 (ji18)) (Int.tmod a0_0 16)) == 0)) else (none)) else (none)) else (none)) = some r := by first | (rw [hji18] at H; exact H) | (simp only [hji18] at H ⊢; exact H)
        have hji18w : (IntKind.i64.wrap ((l0_1.length : Int) - 1)) = ji18 := (i64_w _).trans hji18
        by_cases c19 : 0 ≤ (ji18)
        ·rw [if_pos c19] at H
         have c19b0 : decide (0 ≤ (ji18)) = true := decide_eq_true c19; clear c19
         by_cases c20 : (ji18) < (l0_1.length : Int)
         ·rw [if_pos c20] at H
          have c20b0 : decide ((ji18) < (l0_1.length : Int)) = true := decide_eq_true c20; clear c20; obtain ⟨ji21, hji21⟩ : ∃ j_ : Int, (Int.tmod a0_0 16) = j_ := ⟨_, rfl⟩
          replace H : (if 0 ≤ (ji21) then (some ((shr .i64 (rd l0_1 (ji18)) (ji21)) == 0)) else (none)) = some r := by first | (rw [hji21] at H; exact H) | (simp only [hji21] at H ⊢; exact H)
          (try rw [hji21] at c16b0)
          (try rw [hji21] at c16b1)
          by_cases c22 : 0 ≤ (ji21)
          ·rw [if_pos c22] at H
           have c22b0 := eq_true c22; have c22b1 : decide (0 ≤ (ji21)) = true := decide_eq_true c22; clear c22; obtain ⟨ji23, hji23⟩ : ∃ j_ : Int, (shr .i64 (rd l0_1 (ji18)) (ji21)) = j_ := ⟨_, rfl⟩
           replace H : (some ((ji23) == 0)) = some r := by first | (rw [hji23] at H; exact H) | (simp only [hji23] at H ⊢; exact H)
           have hji23_ : ((rd l0_1 (ji18)) / 2 ^ min (ji21).toNat 64) = ji23 := hji23; have hji23z : (ji21) ≤ 64 → ((rd l0_1 (ji18)) / 2 ^ (ji21).toNat) = ji23 := shr_small hji23; obtain rfl := Option.some.inj H; obtain ⟨hcz24_0, hcz24_1, hfz24_0, hfz24_1⟩ := cf2 (w := wr) BK180; have p185 : 0 ≤ ((ji18) : Int) := dT; have q185 : (ji18) < (l0_1.length : Int) := dT; obtain ⟨ad185, e185, hx185_0⟩ := Kd.at_int HR0_1.out (ji18) p185 q185; cases e185; replace hx185_0 := (HB.out.cell (World.block_lt_of_cell? w _ hx185_0)).trans hx185_0; replace p185 := eq_true p185; replace q185 := eq_true q185
           go_wp2
           repeat (go_quiet (fail); try go_wp2)
           go_ret
           exact ⟨by first | rfl | (simp [errW_none, errW_some] <;> rfl) | (simp only [← hji18, ← hji21, ← hji23]; first | rfl | (simp [errW_none, errW_some] <;> rfl)) | (simp [*, errW_none, errW_some] <;> rfl), Bq⟩
          ·rw [if_neg c22] at H
           exact absurd H (by simp)
         ·rw [if_neg c20] at H
          exact absurd H (by simp)
        ·rw [if_neg c19] at H
         exact absurd H (by simp)

def impl_IsBloom.f (k : Nat) (a0_0 : Int) (a0_1 : Int) (a0_2 : Int) (l0_3 : List Int) : Option (Bool) := (impl_sizesOk.f a0_0 a0_1 a0_2).bind fun t187 => (if t187 = true then ((impl_IsBits.f k a0_2 l0_3).bind fun t188 => (some t188)) else (some false))
theorem impl_IsBloom.calls (k : Nat) (a0_0 : Int) (a0_1 : Int) (a0_2 : Int) (A0_3 : Option Addr) (c0_3 : Nat) (l0_3 : List Int) (r : Bool) (w : World) (hr0_3 : Kd.C (Kd.int .i64) w A0_3 l0_3.length l0_3) (hc0_3 : l0_3.length ≤ c0_3) (h : impl_IsBloom.f k a0_0 a0_1 a0_2 l0_3 = some r) :
  Calls Try.prog 97 #[.agg #[.int .i64 a0_0, .int .i64 a0_1, .int .i64 a0_2, .slice A0_3 l0_3.length c0_3]] w fun e w' => e = .returned (.bool r) ∧ Below w.heap.size w w' := by
 have hu28 := Try.underlying28; have hu26 := Try.underlying26; have HR0_3 := am hr0_3; have HC0_3 := am hc0_3; clear hr0_3 hc0_3; have HB := am (Below.refl w.heap.size w); have H : ((impl_sizesOk.f a0_0 a0_1 a0_2).bind fun t187 => (if t187 = true then ((impl_IsBits.f k a0_2 l0_3).bind fun t188 => (some t188)) else (some false))) = some r := h; clear h; replace H := Option.bind_eq_some_iff.mp H; obtain ⟨t187, A20, H⟩ := H; (try dsimp -simprocs only at H); have A2 := am A20; clear A20
 by_cases c3 : t187 = true
 ·subst c3
  rw [if_pos rfl] at H; replace H := Option.bind_eq_some_iff.mp H; obtain ⟨t188, A40, H⟩ := H; (try dsimp -simprocs only at H); have A4 := am A40; clear A40; obtain rfl := Option.some.inj H
  go_enter Try.func97, Try.ntmps97
  go_wp2_with (first | ((with_reducible refine gate_dst (N := 1) rfl ?_); refine bE 1 #[.int .i64 a0_0, .int .i64 a0_1, .int .i64 a0_2, .slice A0_3 l0_3.length c0_3] 28 ?_; intro gb186 hg w5 hbox hb; have n0_ := Bb HB hb; have n1_ := am (hbox); have n2_ := Gl HB hg; have n3_ := Gl HB hg; clear HB; revert n0_ n1_ n2_ n3_; intro HB BK186 GW186 GE186; clear hb hbox hg; obtain ⟨hcz6_0, hcz6_1, hcz6_2, hcz6_3, hfz6_0, hfz6_1, hfz6_2, hfz6_3⟩ := cf4 (w := w5) BK186) | ((with_reducible refine gate_callee (f := 102) rfl ?_); refine gL (some 10) Try.func102 #[.int .i64 a0_0, .int .i64 a0_1, .int .i64 a0_2] ?_; (with_reducible refine (impl_sizesOk.calls a0_0 a0_1 a0_2 true _ A2.out).mono ?_); rintro e w' ⟨rfl, ⟨nd, rfl⟩⟩; refine ⟨_, rfl, ?_⟩) | (go_at_call 125; (with_reducible refine (impl_IsBits.calls k a0_2 _ _ l0_3 t188 _ ?side1 ?side2 A4.out).mono ?_); (case side1 => exact Cz (Kd.C_below HR0_3.out (Bq))); (case side2 => exact HC0_3.out); rintro e w7 ⟨rfl, hb⟩; have n0_ := Kb BK186 hb; have n1_ := Bc HB hb; clear BK186 HB; revert n0_ n1_; intro BK186 HB; (try clear hb); (try clear hb2); (try clear hk); (try clear hi)))
  go_ret
  exact ⟨eZ, Bq⟩
 ·replace c3 := Bool.eq_false_iff.mpr c3
  subst c3
  rw [if_neg (show ¬ (false = true) by decide)] at H; obtain rfl := Option.some.inj H
  go_enter Try.func97, Try.ntmps97
  go_wp2_with (first | ((with_reducible refine gate_dst (N := 1) rfl ?_); refine bE 1 #[.int .i64 a0_0, .int .i64 a0_1, .int .i64 a0_2, .slice A0_3 l0_3.length c0_3] 28 ?_; intro gb186 hg w8 hbox hb; have n0_ := Bb HB hb; have n1_ := am (hbox); have n2_ := Gl HB hg; have n3_ := Gl HB hg; clear HB; revert n0_ n1_ n2_ n3_; intro HB BK186 GW186 GE186; clear hb hbox hg; obtain ⟨hcz9_0, hcz9_1, hcz9_2, hcz9_3, hfz9_0, hfz9_1, hfz9_2, hfz9_3⟩ := cf4 (w := w8) BK186) | ((with_reducible refine gate_callee (f := 102) rfl ?_); refine gL (some 10) Try.func102 #[.int .i64 a0_0, .int .i64 a0_1, .int .i64 a0_2] ?_; (with_reducible refine (impl_sizesOk.calls a0_0 a0_1 a0_2 false _ A2.out).mono ?_); rintro e w' ⟨rfl, ⟨nd, rfl⟩⟩; refine ⟨_, rfl, ?_⟩))
  go_ret
  exact ⟨eZ, Bq⟩

def impl_IsKey.l0 : Nat → ByteArray → Int → Int → Option (Bool)
 | 0, _, _, _ => none
 | k + 1, x0, x5, x6 => if x6 < x5 then (if 0 ≤ x6 then (if x6 < (x0.size : Int) then (if (bt x0 x6) < 33 then (some false) else (if (bt x0 x6) > 125 then (some false) else (impl_IsKey.l0 k x0 x5 (wrap64 (x6 + 1))))) else (none)) else (none)) else ((impl_in.f (x0.size : Int) 1 12).bind fun t189 => (some t189))
def impl_IsKey.f (k : Nat) (a0 : ByteArray) : Option (Bool) := impl_IsKey.l0 k a0 (a0.size : Int) 0
theorem impl_IsKey.calls (k : Nat) (a0 : ByteArray) (r : Bool) (w : World) (h : impl_IsKey.f k a0 = some r) :
  Calls Try.prog 98 #[.string a0] w fun e w' => e = .returned (.bool r) ∧ Drawn0 w w' := by
 have H : (impl_IsKey.l0 k a0 (a0.size : Int) 0) = some r := h; clear h; have H' := am H; clear H
 go_enter Try.func98, Try.ntmps98
 go_wp2
 go_loopg [6] k (fun kq v6 w' => ∃ (x6_1 : Int), v6 = .int .i64 x6_1 ∧ Aside0 (impl_IsKey.l0 kq a0 (a0.size : Int) x6_1 = some r) ∧ Aside0 (kq ≤ k) ∧ Drawn0 w w')
 case atStart => exact ⟨(0), wZ, H', ⟨Nat.le_refl _⟩, by repeat (first | exact Drawn0.refl _ | apply Drawn0.step)⟩
 case round =>
  clear H'; obtain ⟨x6_1, rfl, HA, HK1, ⟨m1, rfl⟩⟩ := hrel; cases gk with
  | zero => exact absurd HA.out (by simp [impl_IsKey.l0])
  | succ k1 =>
   have H := HA.out; clear HA
   simp only [impl_IsKey.l0] at H
   by_cases c2 : x6_1 < (a0.size : Int)
   ·rw [if_pos c2] at H
    have c2b0 : decide (x6_1 < (a0.size : Int)) = true := decide_eq_true c2; clear c2
    by_cases c3 : 0 ≤ x6_1
    ·rw [if_pos c3] at H
     have c3b0 : decide (0 ≤ x6_1) = true := decide_eq_true c3; clear c3
     by_cases c4 : x6_1 < (a0.size : Int)
     ·rw [if_pos c4] at H
      have c4b0 : decide (x6_1 < (a0.size : Int)) = true := decide_eq_true c4; clear c4
      by_cases c6 : (bt a0 x6_1) < 33
      ·rw [if_pos c6] at H
       have c6b0 : decide ((bt a0 x6_1) < 33) = true := decide_eq_true c6; clear c6; obtain rfl := Option.some.inj H; have p5 : 0 ≤ (x6_1 : Int) := dT; have q5 : x6_1 < (a0.size : Int) := dT; have hx5 := bt_at a0 x6_1; replace p5 := eq_true p5; replace q5 := eq_true q5
       go_wp2
       go_ret
       exact ⟨by first | rfl | (simp; done) | (simp [*]; done), by repeat (first | exact Drawn0.refl _ | apply Drawn0.step)⟩
      ·rw [if_neg c6] at H
       have c6b0 : decide ((bt a0 x6_1) < 33) = false := decide_eq_false c6; clear c6
       by_cases c8 : (bt a0 x6_1) > 125
       ·rw [if_pos c8] at H
        have c8b0 : decide (125 < (bt a0 x6_1)) = true := decide_eq_true c8; clear c8; obtain rfl := Option.some.inj H; have p5 : 0 ≤ (x6_1 : Int) := dT; have q5 : x6_1 < (a0.size : Int) := dT; have hx5 := bt_at a0 x6_1; replace p5 := eq_true p5; replace q5 := eq_true q5; have p7 : 0 ≤ (x6_1 : Int) := dT; have q7 : x6_1 < (a0.size : Int) := dT; have hx7 := bt_at a0 x6_1; replace p7 := eq_true p7; replace q7 := eq_true q7
        go_wp2
        go_ret
        exact ⟨by first | rfl | (simp; done) | (simp [*]; done), by repeat (first | exact Drawn0.refl _ | apply Drawn0.step)⟩
       ·rw [if_neg c8] at H
        have c8b0 : decide (125 < (bt a0 x6_1)) = false := decide_eq_false c8; clear c8; have H' := am H; clear H; have p5 : 0 ≤ (x6_1 : Int) := dT; have q5 : x6_1 < (a0.size : Int) := dT; have hx5 := bt_at a0 x6_1; replace p5 := eq_true p5; replace q5 := eq_true q5; have p7 : 0 ≤ (x6_1 : Int) := dT; have q7 : x6_1 < (a0.size : Int) := dT; have hx7 := bt_at a0 x6_1; replace p7 := eq_true p7; replace q7 := eq_true q7
        go_wp2
        go_roundg k1
        case measure => have := HK1.out; omega
        case rel => exact ⟨(wrap64 (x6_1 + 1)), wZ, H', ⟨by have := HK1.out; omega⟩, by repeat (first | exact Drawn0.refl _ | apply Drawn0.step)⟩
     ·rw [if_neg c4] at H
      exact absurd H (by simp)
    ·rw [if_neg c3] at H
     exact absurd H (by simp)
   ·rw [if_neg c2] at H
    have c2b0 : decide (x6_1 < (a0.size : Int)) = false := decide_eq_false c2; clear c2; replace H := Option.bind_eq_some_iff.mp H; obtain ⟨t189, A90, H⟩ := H; (try dsimp -simprocs only at H); have A9 := am A90; clear A90; obtain rfl := Option.some.inj H
    go_wp2_with (first | ((with_reducible refine gate_callee (f := 126) rfl ?_); refine gL (some 22) Try.func126 #[.int .i64 (a0.size : Int), .int .i64 1, .int .i64 12] ?_; (with_reducible refine (impl_in.calls (a0.size : Int) 1 12 t189 _ A9.out).mono ?_); rintro e w' ⟨rfl, ⟨nd, rfl⟩⟩; refine ⟨_, rfl, ?_⟩))
    go_ret
    exact ⟨by first | rfl | (simp; done) | (simp [*]; done), by repeat (first | exact Drawn0.refl _ | apply Drawn0.step)⟩

def slices_Clone_int_int.f (l0 : List Int) : Option (List Int) := (some (([] : List Int) : List Int)).bind fun y190 => (if y190.length + l0.length < 17592186044416 then (some (y190 ++ l0)) else (none))
theorem slices_Clone_int_int.calls (A0 : Option Addr) (c0 : Nat) (l0 : List Int) (r : List Int) (w : World) (hr0 : Kd.C (Kd.int .i64) w A0 l0.length l0) (hc0 : l0.length ≤ c0) (h : slices_Clone_int_int.f l0 = some r) :
  Calls Try.prog 157 #[.slice A0 l0.length c0] w fun e w' => ∃ v0_ : Value, e = .returned (v0_) ∧ Kd.R (Kd.int .i64) 3 w' w.heap.size (fun _ => True) v0_ r ∧ Below w.heap.size w w' := by
 have HR0 := am hr0; have HC0 := am hc0; clear hr0 hc0; have HB := am (Below.refl w.heap.size w); have H : ((some (([] : List Int) : List Int)).bind fun y190 => (if y190.length + l0.length < 17592186044416 then (some (y190 ++ l0)) else (none))) = some r := h; clear h
 by_cases c2 : A0.isNone = true
 ·have hlc2 : l0 = [] := Go.Proofs.YtpkpjikkfikejaaGp.C_isNone HR0.out c2
  rw [hlc2] at H
  have H1 : (some ([] : List Int)) = some r := by simpa using H
  clear H; have H := H1; clear H1 hlc2
  have qc2 : ∀ (w_ : World) (n_ c_ : Nat), (binOp .eql 24 (.slice A0 n_ c_) (.slice none 0 0)).run Try.prog w_ = .ok (.bool true) w_ := fun w_ _ _ => (Go.Proofs.YtpkpjikkfikejaaGp.run_eql_nil_ w_ 24 _ _ _ _ Try.underlying24).trans (by rw [c2])
  obtain rfl := Option.some.inj H
  go_enter Try.func157, Try.ntmps157
  go_wp2
  go_ret
  exact ⟨_, eZ, nZ, Bz HB.out⟩
 ·replace c2 := Bool.eq_false_iff.mpr c2
  have qc2 : ∀ (w_ : World) (n_ c_ : Nat), (binOp .eql 24 (.slice A0 n_ c_) (.slice none 0 0)).run Try.prog w_ = .ok (.bool false) w_ := fun w_ _ _ => (Go.Proofs.YtpkpjikkfikejaaGp.run_eql_nil_ w_ 24 _ _ _ _ Try.underlying24).trans (by rw [c2])
  obtain ⟨y190, hy190⟩ : ∃ y_ : List Int, y_ = (([] : List Int)) := ⟨_, rfl⟩
  replace H : (if y190.length + l0.length < 17592186044416 then (some (y190 ++ l0)) else (none)) = some r := by first | (rw [hy190]; with_reducible exact H) | (have H2_ := (Option.bind_some _ _).symm.trans H; rw [hy190]; with_reducible exact H2_) | (have H2_ := (Option.bind_some _ _).symm.trans H; with_reducible exact H2_) | with_reducible exact H | (rw [hy190]; exact H) | exact H
  have Ny190 := am hy190; clear hy190
  by_cases c3 : y190.length + l0.length < 17592186044416
  ·rw [if_pos c3] at H
   have LMc3 := am c3; clear c3; obtain ⟨y193, hy193⟩ : ∃ y_ : List Int, y_ = (y190 ++ l0) := ⟨_, rfl⟩
   replace H : (some y193) = some r := by first | (rw [hy193]; with_reducible exact H) | (have H2_ := (Option.bind_some _ _).symm.trans H; rw [hy193]; with_reducible exact H2_) | (have H2_ := (Option.bind_some _ _).symm.trans H; with_reducible exact H2_) | with_reducible exact H | (rw [hy193]; exact H) | exact H
   have Ny193 := am hy193; clear hy193; obtain rfl := Option.some.inj H
   go_enter Try.func157, Try.ntmps157
   go_wp2_with (first | ((with_reducible refine gate_dst (N := 5) rfl ?_); refine Kd.R_lit (Kd.int .i64) _ 3 ?hg (N := 5) ?hd (xs := ([] : List Int)) (inner := []) (ok := fun _ => True) (okp := fun _ => True) ?hr ?hp (fun _ hk => hk) trivial (Below.refl _ _) (Nat.le_refl _) (by simp) ?_; (case hd => rfl); (case hg => rfl); (case hr => first | (go_simp; done) | (go_simp; rfl)); (case hp => exact (Reps.none _ _)); intro v191 w4 ho5 hb hg_ hnew_; clear hg_ hnew_; (first | rw [← Ny190.out] at ho5 | (simp only [Int.reduceToNat] at ho5; rw [← Ny190.out] at ho5)); have n0_ := Rl ho5 HB; have n1_ := Bb HB hb; clear HB; revert n0_ n1_; intro HO192 HB; clear hb ho5) | ((with_reducible refine gate_builtin (b := .append) (xs := #[.tmp 5, .tmp 6]) rfl ?_); at_builtin; refine Kd.R_append_rows (Kd.int .i64) (w0 := w) w.heap.size rfl (.tmp 5) (.tmp 6) 24 3 (.int .i64 0) 8 rfl Try.underlying24 info3 rfl (by decide) (by omega) v191 y190 l0 _ _ _ (fun _ => True) (fun _ => False) rfl rfl ?aO ?aR (fun _ _ h => h) (fun _ h => h.elim) ?aF ?aB ?aS ?aL ?_; (case aR => repeat (first | exact (Kd.C_below HR0.out HB.out) | (with_reducible refine Kd.C_alloc ?_ _) | (with_reducible refine Kd.C_drewN ?_ _) | (with_reducible refine Kd.C_drew ?_))); (case aB => exact (Bz HB.out)); (case aF => exact (fun _ _ => trivial)); (case aO => exact (Rz HO192.out)); (case aS => exact (below_size (Bz HB.out))); (case aL => have := LMc3.out; omega); intro v194 w6 ho hb hg hat; rw [← Ny193.out] at ho; have n0_ := am (hb); have n1_ := am (ho); clear HB HO192; revert n0_ n1_; intro HB HO195; clear ho hb hg hat))
   go_ret
   exact ⟨_, eZ, Rz HO195.out, Bz HB.out⟩
  ·rw [if_neg c3] at H
   exact absurd H (by simp)

def impl_cloneBits.f (a0_0 : Int) (l0_1 : List Int) : Option (Int × List Int) := (slices_Clone_int_int.f l0_1).bind fun t198 => (some (a0_0, t198))
theorem impl_cloneBits.calls (a0_0 : Int) (A0_1 : Option Addr) (c0_1 : Nat) (l0_1 : List Int) (r1 : Int) (r2 : List Int) (w : World) (hr0_1 : Kd.C (Kd.int .i64) w A0_1 l0_1.length l0_1) (hc0_1 : l0_1.length ≤ c0_1) (h : impl_cloneBits.f a0_0 l0_1 = some (r1, r2)) :
  Calls Try.prog 99 #[.agg #[.int .i64 a0_0, .slice A0_1 l0_1.length c0_1]] w fun e w' => ∃ v1_ : Value, e = .returned (.agg #[.int .i64 r1, v1_]) ∧ Kd.R (Kd.int .i64) 3 w' w.heap.size (fun _ => True) v1_ r2 ∧ Below w.heap.size w w' := by
 have hu26 := Try.underlying26; have HR0_1 := am hr0_1; have HC0_1 := am hc0_1; clear hr0_1 hc0_1; have HB := am (Below.refl w.heap.size w); have H : ((slices_Clone_int_int.f l0_1).bind fun t198 => (some (a0_0, t198))) = some (r1, r2) := h; clear h; replace H := Option.bind_eq_some_iff.mp H; obtain ⟨t198, A20, H⟩ := H; (try dsimp -simprocs only at H); have A2 := am A20; clear A20
 simp only [Option.some.injEq, Prod.mk.injEq] at H
 obtain ⟨rfl, rfl⟩ := H
 go_enter Try.func99, Try.ntmps99
 try go_wp2_with (first | ((with_reducible refine gate_dst (N := 1) rfl ?_); refine bE 1 #[.int .i64 a0_0, .slice A0_1 l0_1.length c0_1] 26 ?_; intro gb196 hg w3 hbox hb; have n0_ := Bb HB hb; have n1_ := am (hbox); have n2_ := Gl HB hg; have n3_ := Gl HB hg; clear HB; revert n0_ n1_ n2_ n3_; intro HB BK196 GW196 GE196; clear hb hbox hg) | ((with_reducible refine gate_dst (N := 2) rfl ?_); refine bE 2 #[.int .i64 0, .slice none 0 0] 26 ?_; intro gb197 hg w4 hbox hb; have n0_ := Kb BK196 hb; have n1_ := Bc HB hb; have n2_ := am (hbox); have n3_ := Gm HB hg; have n4_ := Gm HB hg; have n5_ := Nl BK196 hg; have n6_ := Ng BK196 hg; clear BK196 HB; revert n0_ n1_ n2_ n3_ n4_ n5_ n6_; intro BK196 HB BK197 GW197 GE197 NB196_197 NB197_196; clear hb hbox hg))
 have n0_ := am (blk_drew BK196.out); have n1_ := am (blk_drew BK197.out); have n2_ := am (below_drew1 HB.out); clear BK196 BK197 HB; revert n0_ n1_ n2_; intro BK196 BK197 HB; refine start_ (n := 7) (S := fun w' => w'.cell? ⟨gb196, 0, none⟩ = some (.int .i64 a0_0) ∧ w'.cell? ⟨gb196, 1, none⟩ = some (.slice A0_1 l0_1.length c0_1)) (ds := []) (bA 7 0) (by kernel_rfl) rfl rfl ⟨cz BK196 0, cz BK196 1⟩ (fun hHeld => ?_); generalize w4.drew = w5 at BK196 BK197 HB hHeld ⊢; refine pure_ (i := 0) (N := some 3) (v := ?_) (a' := ?_) (bA 7 1) rfl rfl (by kernel_rfl) (fun _ _ _ h => h) (Or.inl ⟨by rfl, ?_⟩) ?_ ?_
 rotate_left
 ·intro w'
  go_simp
  with_reducible rfl
 rotate_left
 ·simp only [aP, i64_w, i32_w]
  rfl
 refine pure_ (i := 2) (N := some 5) (v := ?_) (a' := ?_) (bA 7 5) rfl rfl (by kernel_rfl) (fun _ _ _ h => h) (Or.inl ⟨by rfl, ?_⟩) ?_ ?_
 rotate_left
 ·intro w'
  go_simp
  with_reducible rfl
 rotate_left
 ·simp only [aP, i64_w, i32_w]
  rfl
 refine take_ (i := 1) (N := some 4) (v := ?_) (a' := ?_) (bA 7 7) rfl rfl (by kernel_rfl) (fun _ _ _ h => h) (Or.inl ⟨by rfl, ?_⟩) hHeld ?_ ?_
 rotate_left
 ·rintro w' ⟨s0, s1⟩
  go_simp
  with_reducible rfl
 rotate_left
 ·simp only [aP, i64_w, i32_w]
  rfl
 refine take_ (i := 3) (N := some 6) (v := ?_) (a' := ?_) (bA 7 15) rfl rfl (by kernel_rfl) (fun _ _ _ h => h) (Or.inl ⟨by rfl, ?_⟩) hHeld ?_ ?_
 rotate_left
 ·rintro w' ⟨s0, s1⟩
  go_simp
  with_reducible rfl
 rotate_left
 ·simp only [aP, i64_w, i32_w]
  rfl
 refine one_ (i := 4) (N := some 7) (bA 7 31) rfl rfl (by kernel_rfl) (by decide) (fun K hK => ?_); refine gZ Try.func157 #[.slice A0_1 l0_1.length c0_1] ?_
 with_reducible refine (slices_Clone_int_int.calls _ _ l0_1 t198 _ ?side1 ?side2 A2.out).mono ?_
 (case side1 => exact Cz (Kd.C_below HR0_1.out HB.out))
 (case side2 => exact HC0_1.out)
 rintro e w6 ⟨v199, rfl, ho0, hb⟩; refine ⟨_, rfl, ?_⟩; have n0_ := Rm ho0 HB; have n1_ := Kb BK196 hb; have n2_ := Kb BK197 hb; have n3_ := Bc HB hb; clear BK196 BK197 HB; revert n0_ n1_ n2_ n3_; intro HO200 BK196 BK197 HB
 (try clear hb)
 (try clear hb2)
 (try clear hk)
 (try clear hi)
 (try clear ho0)
 obtain ⟨Ao7, co7, eo7⟩ := Kd.R_slice HO200.out
 (first | subst eo7 | (injection eo7 with f1_ f2_ f3_; have f4_ := f1_.symm; have f5_ := f3_.symm; clear f1_ f2_ f3_; subst f4_; subst f5_))
 refine hK.out _ _ ⟨cz BK196 0, cz BK196 1⟩ (fun hHeld => ?_); clear hK K; refine norm_ (a' := ?_) ?_ ?_; rotate_left; show Act.put _ (some 7) _ = _; simp only [aP, i64_w, i32_w]; rfl; refine pure_ (i := 5) (N := some 8) (v := ?_) (a' := ?_) (bA 7 63) rfl rfl (by kernel_rfl) (fun _ _ _ h => h) (Or.inl ⟨by rfl, ?_⟩) ?_ ?_
 rotate_left
 ·intro w'
  go_simp
  with_reducible rfl
 rotate_left
 ·simp only [aP, i64_w, i32_w]
  rfl
 refine one_ (i := 6) (N := none) (bA 7 127) rfl rfl (by kernel_rfl) (by decide) (fun K hK => ?_); have hs8 : w6.cell? ⟨gb197, 0, none⟩ = some (.int .i64 0) := cz BK197 0; have hfs8 := blk_frozen BK197.out 0; have hns8_0 := NB196_197.out; have hms8_0 := NB197_196.out; have hs9 : w6.cell? ⟨gb197, 1, none⟩ = some (.slice none 0 0) := cz BK197 1; have hfs9 := blk_frozen BK197.out 1; have hns9_0 := NB196_197.out; have hms9_0 := NB197_196.out; refine skip_ (w1 := ?_) (by rfl) rfl ?_ ?_
 rotate_left
 ·go_simp
  rfl
 refine hK.out _ _ ⟨((cell_far (p := ⟨gb197, _, none⟩) NB196_197.out _).trans (((cell_far (p := ⟨gb197, _, none⟩) NB196_197.out _).trans (hHeld.1)))), ((cell_far (p := ⟨gb197, _, none⟩) NB196_197.out _).trans (((cell_far (p := ⟨gb197, _, none⟩) NB196_197.out _).trans (hHeld.2))))⟩ (fun hHeld => ?_); clear hK K; refine done_ (by kernel_rfl) ?_
 try go_wp2
 refine bodyPost_ret (results_cell_row rfl _ _ gb197 26 #[.int .i64 a0_0, .slice Ao7 t198.length co7] (0, 0) _ rfl (by (with_reducible repeat (first | refine blk_drewN ?_ _ | refine blk_drew ?_ | refine blk_alloc ?_ _)); refine blk_put (cs := #[.int .i64 a0_0, .slice none 0 0]) ?_ 1 _ rfl; (with_reducible repeat (first | refine blk_drewN ?_ _ | refine blk_drew ?_ | refine blk_alloc ?_ _)); refine blk_put (cs := #[.int .i64 0, .slice none 0 0]) ?_ 0 _ rfl; exact Kz BK197.out) Try.underlying26 rfl (by kernel_rfl)) rfl ?_; exact ⟨_, eZ, Rz (Kd.R_mono (Kd.R_far (p := ⟨gb197, 1, none⟩) (Kd.R_far (p := ⟨gb197, 0, none⟩) (Kd.R_types HO200.out BK197.out (by decide)) (fun _ hk => hk.2) (.int .i64 a0_0)) (fun _ hk => hk.2) (.slice Ao7 t198.length co7)) (fun _ hk => trivial)), Bq⟩

end Go.Proofs.Ytpkpjikkfikejaa.PA
