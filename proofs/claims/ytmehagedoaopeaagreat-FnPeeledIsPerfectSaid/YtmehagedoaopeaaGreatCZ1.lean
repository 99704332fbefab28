import Derived.Laws.Strings
import Derived.Tactics
import Derived.Lib.LazyBuf
import Derived.Test.YtmehagedoaopeaaGreatCZ0
import Derived.WalkKit
import Derived.KernelRfl
import Derived.RangeFuncNested
import Derived.RangeFuncBound
import Derived.RangeFuncCalls
import Derived.RangeFuncLeaves
import Derived.RangeFuncBox
import Derived.Shelf.Abstract
import Derived.OwnWalkIn
import Derived.TacticsInMore
import Derived.LoopNIn
import Derived.LoopIn
import Derived.OrdersIn
import Derived.Test.YtmehagedoaopeaaGreatProg
import Derived.Shelf.Lay
import Derived.Shelf.Bits.Mul64
import Derived.Ground.NamesProg
import Derived.Deep.LoopGhost
import Derived.Laws.Rows
import Derived.Laws.CopyOwn
import Derived.Deep.RegionLaw
import Derived.Laws.MakeOwn
import Derived.Maps.Own
import Derived.Maps.OwnOps
import Derived.Maps.Views
import Derived.Maps.OwnSet
import Derived.Below
import Derived.Deep.Draws
import Derived.Deep.AppendLies
import Derived.Maps.AppendAt
import Derived.OwnWalk
import Derived.Laws.BytesArg
import Derived.Laws.OwnMore
import Derived.Deep.OwnRows
import Derived.Lib.ConvBytes
import Derived.Laws.Slices
import Derived.RowKit3
import Derived.Deep.QuietTactic
import Derived.BigQuiet
import Derived.WideLaws
import Derived.Deep.DeepCutAuto
import Derived.Deep.CutBlock
import Derived.Deep.RegionHeld3
import Derived.Lib.AppendStr
import Derived.ArgAppend
import Derived.Laws.IdiomCopy
import Derived.OrdersHeld
import Derived.Laws.BitsLemmas
import Derived.RowKit
namespace Go.Proofs.YtmehagedoaopeaaGreatGp
open Go

theorem str_geq (t : TypeId) (a b : ByteArray) : binOp .geq t (.string a) (.string b) = pure (.bool !(Op.bytesLess a.toList b.toList)) := by simp [binOp, Op.stringOp]

theorem bl_total : ∀ a b : List UInt8, (Op.bytesLess a b || a == b) = !(Op.bytesLess b a)
  | [], [] => by simp [Op.bytesLess]
  | [], b :: l => by simp [Op.bytesLess]
  | a :: l, [] => by simp [Op.bytesLess]
  | a :: l, b :: m => by
    have ih := bl_total l m
    simp only [Op.bytesLess, List.cons_beq_cons]
    by_cases h1 : a < b
    · have h2 : ¬ b < a := fun h => absurd (UInt8.lt_iff_toNat_lt.mp h1) (by have := UInt8.lt_iff_toNat_lt.mp h; omega)
      have h3 : ¬ b = a := fun h => by subst h; exact h2 h1
      simp [h1, h2, h3]
    · by_cases h2 : b < a
      · have h3 : ¬ a = b := fun h => by subst h; exact h1 h2
        simp [h1, h2, h3]
      · have h3 : a = b := by
          apply UInt8.toNat_inj.mp
          have := mt UInt8.lt_iff_toNat_lt.mpr h1; have := mt UInt8.lt_iff_toNat_lt.mpr h2; omega
        subst h3
        simpa using ih

theorem str_gtr (t : TypeId) (a b : ByteArray) : binOp .gtr t (.string a) (.string b) = pure (.bool (Op.bytesLess b.toList a.toList)) := by
  have h := bl_total a.toList b.toList
  have e : binOp .gtr t (.string a) (.string b) = pure (.bool !(Op.bytesLess a.toList b.toList || a.toList == b.toList)) := by simp [binOp, Op.stringOp]
  rw [e, h, Bool.not_not]
theorem str_leq (t : TypeId) (a b : ByteArray) : binOp .leq t (.string a) (.string b) = pure (.bool !(Op.bytesLess b.toList a.toList)) := by
  have h := bl_total a.toList b.toList
  have e : binOp .leq t (.string a) (.string b) = pure (.bool (Op.bytesLess a.toList b.toList || a.toList == b.toList)) := by simp [binOp, Op.stringOp]
  rw [e, h]

section
open Go.Proofs.YtmehagedoaopeaaGreatW.PrintLast
variable {P : Program} {ops : Array Oper} {Q : Exit → Act → World → Prop}
end

section
open Go.Proofs.YtmehagedoaopeaaGreatW.PrintWords
theorem C_isNone {α : Type} {d : Kd α} {w : World} {A : Option Addr} {n : Nat} {xs : List α} (h : d.C w A n xs) (hA : A.isNone = true) : xs = [] := by
  cases A with
  | some a => simp at hA
  | none =>
    obtain ⟨h1, _, h3⟩ := h
    cases n with
    | zero => exact List.length_eq_zero_iff.1 h1
    | succ n => obtain ⟨a, e, _⟩ := h3 (Nat.succ_pos n); cases e
theorem run_eql_nil_ {P : Program} (w : World) (t e : TypeId) (a : Option Addr) (l c : Nat) (h : P.underlying t = some (.slice e)) : (binOp .eql t (.slice a l c) (.slice none 0 0)).run P w = .ok (.bool a.isNone) w := run_eql_slice_nil w t e a l c h
end

end Go.Proofs.YtmehagedoaopeaaGreatGp
namespace Go.Proofs.YtmehagedoaopeaaGreatSq
open Go Go.RowKit Go.Proofs.YtmehagedoaopeaaGreatW.PrintWords Go.Proofs.YtmehagedoaopeaaGreatW.PrintLast

class Stp (W W' : World) : Prop where
  out : Below W.heap.size W W'
instance Stp.rfl_ (W : World) : Stp W W := ⟨Below.refl _ _⟩
instance Stp.alloc_ (W W' : World) (o : Obj) [h : Stp W W'] : Stp W (W'.alloc o) := ⟨below_alloc h.out o⟩
instance Stp.drewN_ (W W' : World) (n : Nat) [h : Stp W W'] : Stp W (W'.drewN n) := ⟨pw_below_drewN h.out n⟩
instance Stp.drewA_ (W w : World) (k n : Nat) [h : Stp W (w.drewN k)] : Stp W (w.drewN (k + n)) := ⟨by rw [← World.drewN_drewN]; exact pw_below_drewN h.out n⟩
instance Stp.drew_ (W W' : World) [h : Stp W W'] : Stp W W'.drew := ⟨below_drew h.out⟩
instance Stp.set_drewN (W : World) (p : Addr) (v : Value) (n : Nat) : Stp (W.setCell p v) ((W.drewN n).setCell p v) := ⟨by
  have e : (W.drewN n).setCell p v = (W.setCell p v).drewN n := by
    first
      | rfl
      | (unfold World.setCell World.drewN; split <;> rfl)
      | (simp only [World.setCell, World.drewN]; split <;> rfl)
  rw [e]
  exact pw_below_drewN (Below.refl _ _) n⟩
section
variable {α : Type} {d : Kd α} {e base n : Nat} {ok : Nat → Prop} {u v : Value} {xs : List α} {w W0 W W1 : World} {A : Option Addr} {g : Nat} {o : Obj}
theorem Rz [h' : Stp W0 W] (h : d.R e W0 base ok v xs) : d.R e W base ok v xs := Kd.R_below h h'.out
theorem Kz [h' : Stp W0 W] (h : W0.heap[g]? = some o) : W.heap[g]? = some o := blk_below h h'.out
theorem Bz [h' : Stp W0 W] (h : Below w.heap.size w W0) : Below w.heap.size w W := below_step h h'.out
theorem Bq (h : Below w.heap.size w W := by repeat (first | (with_reducible (refine Aside0.out ?_; assumption)) | (with_reducible apply below_alloc) | (with_reducible apply pw_below_drewN) | (with_reducible apply below_drew1) | ((with_reducible refine below_set ?_ ?_); rotate_left; (with_reducible (refine Aside0.out ?_; assumption))))) : Below w.heap.size w W := h
theorem Cz [h' : Stp W0 W] (h : d.C W0 A n xs) : d.C W A n xs := Kd.C_below h h'.out
theorem Rb [Stp W0 W] (h : Aside0 (d.R e W0 base ok v xs)) (hb : Below W.heap.size W W1) : Aside0 (d.R e W1 base ok v xs) := ⟨Kd.R_below (Rz h.out) hb⟩
theorem Kb [Stp W0 W] (h : Aside0 (W0.heap[g]? = some o)) (hb : Below W.heap.size W W1) : Aside0 (W1.heap[g]? = some o) := ⟨blk_below (Kz h.out) hb⟩
theorem Bb [Stp W0 W] (h : Aside0 (Below w.heap.size w W0)) (hb : Below W.heap.size W W1) : Aside0 (Below w.heap.size w W1) := ⟨below_step (Bz h.out) hb⟩
theorem Re [Stp W0 W] (h : Aside0 (d.R e W0 base ok u xs)) (hv : ∀ k, v.ownBlock = some k → W.heap.size ≤ k) (hb : Below W.heap.size W W1) : Aside0 (d.R e W1 base (fun k => ok k ∧ some k ≠ v.ownBlock) u xs) := ⟨Kd.R_elder' (Rz h.out) hv hb⟩
theorem Rl [Stp W0 W] (h : d.R e W1 W.heap.size ok v xs) (hb : Aside0 (Below w.heap.size w W0)) : Aside0 (d.R e W1 w.heap.size ok v xs) := ⟨Kd.R_lower h (below_size (Bz hb.out))⟩
theorem Gl [Stp W0 W] (hb : Aside0 (Below w.heap.size w W0)) (hg : g = W.heap.size) : Aside0 (w.heap.size ≤ g) := ⟨by rw [hg]; exact below_size (Bz hb.out)⟩
theorem Bc (_h : Aside0 (Below w.heap.size w W0)) (hb : Below W.heap.size W W1) (h : Below w.heap.size w W := by repeat (first | (with_reducible (refine Aside0.out ?_; assumption)) | (with_reducible apply below_alloc) | (with_reducible apply pw_below_drewN) | (with_reducible apply below_drew1) | ((with_reducible refine below_set ?_ ?_); rotate_left; (with_reducible (refine Aside0.out ?_; assumption))))) : Aside0 (Below w.heap.size w W1) := ⟨below_step h hb⟩
theorem Rm (h' : d.R e W1 W.heap.size ok v xs) (_h : Aside0 (Below w.heap.size w W0)) (h : Below w.heap.size w W := by repeat (first | (with_reducible (refine Aside0.out ?_; assumption)) | (with_reducible apply below_alloc) | (with_reducible apply pw_below_drewN) | (with_reducible apply below_drew1) | ((with_reducible refine below_set ?_ ?_); rotate_left; (with_reducible (refine Aside0.out ?_; assumption))))) : Aside0 (d.R e W1 w.heap.size ok v xs) := ⟨Kd.R_lower h' (below_size h)⟩
theorem Gm (_h : Aside0 (Below w.heap.size w W0)) (hg : g = W.heap.size) (h : Below w.heap.size w W := by repeat (first | (with_reducible (refine Aside0.out ?_; assumption)) | (with_reducible apply below_alloc) | (with_reducible apply pw_below_drewN) | (with_reducible apply below_drew1) | ((with_reducible refine below_set ?_ ?_); rotate_left; (with_reducible (refine Aside0.out ?_; assumption))))) : Aside0 (w.heap.size ≤ g) := ⟨by rw [hg]; exact below_size h⟩
theorem Nl [Stp W0 W] {g' : Nat} (h : Aside0 (W0.heap[g]? = some o)) (hg : g' = W.heap.size) : Aside0 (g ≠ g') := ⟨by rw [hg]; exact Nat.ne_of_lt (blk_lt (Kz (W := W) h.out))⟩
theorem Ng [Stp W0 W] {g' : Nat} (h : Aside0 (W0.heap[g]? = some o)) (hg : g' = W.heap.size) : Aside0 (g' ≠ g) := ⟨by rw [hg]; exact Nat.ne_of_gt (blk_lt (Kz (W := W) h.out))⟩
end

theorem aP : (∀ (a : Act) (d : Tmp) (v : Value), a.put (some d) v = { a with tmps := a.tmps.setIfInBounds d v }) ∧ (∀ (a : Act) (v : Value), a.put none v = a) ∧ (∀ (l : List Value) (i : Nat) (x : Value), l.toArray.setIfInBounds i x = (l.set i x).toArray) ∧ (∀ (x : Value) (xs : List Value) (b : Value), (x :: xs).set 0 b = b :: xs) ∧ (∀ (x : Value) (xs : List Value) (n : Nat) (b : Value), (x :: xs).set (n + 1) b = x :: xs.set n b) := ⟨fun _ _ _ => rfl, fun _ _ => rfl, fun _ _ _ => List.setIfInBounds_toArray _ _ _, fun _ _ _ => List.set_cons_zero, fun _ _ _ _ => List.set_cons_succ⟩
theorem wZ {p : Prop} (h : p := by first | rfl | (simp; done) | (simp [*]; done) | (simp; exact (by decide : ∀ a b : Bool, (a == b) = (!(a != b))) _ _)) : p := h
theorem eZ {p : Prop} (h : p := by first | rfl | (simp [errW_none, errW_some] <;> rfl) | (simp [*, errW_none, errW_some] <;> rfl)) : p := h
theorem nZ {p : Prop} (h : p := by first | exact Kd.R_nil _ _ _ _ _ | exact Kd.N_nil _ _ _ _ _ | exact Kd.V_nil _ _ _ _ _ | exact Kd.Q_nil _ _ _ _ _ | exact Kd.S_nil _ _ _ _ _) : p := h
theorem yZ {p : Prop} (h : p := by first | exact ⟨rfl, _, World.drewN_drewN _ _ _⟩ | exact ⟨rfl, _, Eq.trans (World.drewN_drewN _ _ _) (congrArg (World.drewN _) (Nat.add_assoc _ _ _))⟩) : p := h
theorem eT (p : Prop) [Decidable p] (h : decide p = true := by first | (with_reducible assumption) | assumption) : p = True := eq_true (of_decide_eq_true h)
theorem am {p : Prop} (h : p) : Aside0 p := ⟨h⟩

section
variable {w : World} {g : Nat} {t : TypeId}
theorem dT {p : Prop} [Decidable p] (h : decide p = true := by first | (with_reducible assumption) | assumption) : p := of_decide_eq_true h
theorem cz {cs : Array Value} {v : Value} (h : Aside0 (w.heap[g]? = some (.cells cs t (0, 0)))) (i : Nat) (hv : cs[i]? = some v := by exact rfl) : w.cell? ⟨g, i, none⟩ = some v := (blk_cell h.out i).trans hv
theorem cf2 {v0 v1 : Value} (h : Aside0 (w.heap[g]? = some (.cells #[v0, v1] t (0, 0)))) : w.cell? ⟨g, 0, none⟩ = some v0 ∧ w.cell? ⟨g, 1, none⟩ = some v1 ∧ w.frozen? ⟨g, 0, none⟩ = false ∧ w.frozen? ⟨g, 1, none⟩ = false := ⟨cz h 0, cz h 1, blk_frozen h.out 0, blk_frozen h.out 1⟩
theorem cf3 {v0 v1 v2 : Value} (h : Aside0 (w.heap[g]? = some (.cells #[v0, v1, v2] t (0, 0)))) : w.cell? ⟨g, 0, none⟩ = some v0 ∧ w.cell? ⟨g, 1, none⟩ = some v1 ∧ w.cell? ⟨g, 2, none⟩ = some v2 ∧ w.frozen? ⟨g, 0, none⟩ = false ∧ w.frozen? ⟨g, 1, none⟩ = false ∧ w.frozen? ⟨g, 2, none⟩ = false := ⟨cz h 0, cz h 1, cz h 2, blk_frozen h.out 0, blk_frozen h.out 1, blk_frozen h.out 2⟩
theorem cf4 {v0 v1 v2 v3 : Value} (h : Aside0 (w.heap[g]? = some (.cells #[v0, v1, v2, v3] t (0, 0)))) : w.cell? ⟨g, 0, none⟩ = some v0 ∧ w.cell? ⟨g, 1, none⟩ = some v1 ∧ w.cell? ⟨g, 2, none⟩ = some v2 ∧ w.cell? ⟨g, 3, none⟩ = some v3 ∧ w.frozen? ⟨g, 0, none⟩ = false ∧ w.frozen? ⟨g, 1, none⟩ = false ∧ w.frozen? ⟨g, 2, none⟩ = false ∧ w.frozen? ⟨g, 3, none⟩ = false := ⟨cz h 0, cz h 1, cz h 2, cz h 3, blk_frozen h.out 0, blk_frozen h.out 1, blk_frozen h.out 2, blk_frozen h.out 3⟩
end

theorem bE {P : Program} {ops : Array Oper} {rest : List Oper} {o : Oper} {a : Act} {Q : Exit → Act → World → Prop} {W : World} (N : Tmp) (cs : Array Value) (t : TypeId)
    (h : ∀ g, g = W.heap.size → ∀ w1, w1.heap[g]? = some (.cells cs t (0, 0)) → Below W.heap.size W w1 → wpList P ops Q rest (a.put o.dst (.pointer (some ⟨g, 0, none⟩))) w1)
    (hg : o.guard = none := by exact rfl) (hd : o.dst = some N := by exact rfl)
    (hr : (execOp a.eval o).run P W = .ok (.value (.pointer (some ⟨W.heap.size, 0, none⟩))) (W.alloc (.cells cs t (0, 0))) := by first | (go_simp; done) | (go_simp; rfl)) : wpList P ops Q (o :: rest) a W := box_event hg hd hr h

def bL : Nat → Nat → List Bool
  | 0, _ => []
  | n + 1, m => (m % 2 == 1) :: bL n (m / 2)
def bA (n m : Nat) : Array Bool := ⟨bL n m⟩

section
variable {P : Program} {md : Region.Mode} {ops : Array Oper} {Q : Exit → Act → World → Prop} {S : World → Prop} {ds : List Nat} {T : Bool × List (List Nat × List Nat)}
theorem pZ (i : Nat) (N : Option Tmp) {oi : Oper} {v : Value} {fuel : Nat} {l : Array Bool} {a a' : Act} {w : World} (l' : Array Bool) (hT : rtab md ops = T) (h : wpAnyLast P md ops Q S ds fuel l' a' w)
    (hi : ops[i]? = some oi := by exact rfl) (hN : oi.dst = N := by exact rfl) (hc : anyT T l.toList l'.toList i = true := by kernel_rfl) (hQ : ∀ c a w, Q (.panic c) (a.put oi.dst v) w → Q (.panic c) a w := by exact fun _ _ _ h => h)
    (hw : Region.wanted oi (yielded ops a.tmps) = true := by exact rfl) (hy : ∀ w, (execOp a.eval oi).run P w = .ok (.value v) w := by intro w'; go_simp; with_reducible rfl)
    (ha : a.put N v = a' := by simp only [Act.put, List.setIfInBounds_toArray, List.set_cons_zero, List.set_cons_succ, i64_w, i32_w]; rfl) : wpAnyLast P md ops Q S ds (fuel + 1) l a w :=
  pure_ l' hi hN (any_of hT hc) hQ (Or.inl ⟨hw, hy⟩) ha h
theorem tZ2 (i : Nat) (N : Option Tmp) {oi : Oper} {v : Value} {fuel : Nat} {l : Array Bool} {a a' : Act} {w : World} (l' : Array Bool) (hT : rtab md ops = T) {B : List Nat} (hB : waitsOk T.2 B = true) (hS : S w) (h : wpAnyLast P md ops Q S ds fuel l' a' w)
    (hi : ops[i]? = some oi := by exact rfl) (hN : oi.dst = N := by exact rfl) (hc : takeW T B ds l.toList l'.toList i = true := by kernel_rfl) (hQ : ∀ c a w, Q (.panic c) (a.put oi.dst v) w → Q (.panic c) a w := by exact fun _ _ _ h => h)
    (hw : Region.wanted oi (yielded ops a.tmps) = true := by exact rfl) (hy : ∀ w, S w → (execOp a.eval oi).run P w = .ok (.value v) w := by rintro w' ⟨s0, s1⟩; go_simp; with_reducible rfl)
    (ha : a.put N v = a' := by simp only [Act.put, List.setIfInBounds_toArray, List.set_cons_zero, List.set_cons_succ, i64_w, i32_w]; rfl) : wpAnyLast P md ops Q S ds (fuel + 1) l a w :=
  take_ l' hi hN (take_ofW hT hB hc) hQ (Or.inl ⟨hw, hy⟩) hS ha h
theorem tZ3 (i : Nat) (N : Option Tmp) {oi : Oper} {v : Value} {fuel : Nat} {l : Array Bool} {a a' : Act} {w : World} (l' : Array Bool) (hT : rtab md ops = T) {B : List Nat} (hB : waitsOk T.2 B = true) (hS : S w) (h : wpAnyLast P md ops Q S ds fuel l' a' w)
    (hi : ops[i]? = some oi := by exact rfl) (hN : oi.dst = N := by exact rfl) (hc : takeW T B ds l.toList l'.toList i = true := by kernel_rfl) (hQ : ∀ c a w, Q (.panic c) (a.put oi.dst v) w → Q (.panic c) a w := by exact fun _ _ _ h => h)
    (hw : Region.wanted oi (yielded ops a.tmps) = true := by exact rfl) (hy : ∀ w, S w → (execOp a.eval oi).run P w = .ok (.value v) w := by rintro w' ⟨s0, s1, s2⟩; go_simp; with_reducible rfl)
    (ha : a.put N v = a' := by simp only [Act.put, List.setIfInBounds_toArray, List.set_cons_zero, List.set_cons_succ, i64_w, i32_w]; rfl) : wpAnyLast P md ops Q S ds (fuel + 1) l a w :=
  take_ l' hi hN (take_ofW hT hB hc) hQ (Or.inl ⟨hw, hy⟩) hS ha h
theorem tZ4 (i : Nat) (N : Option Tmp) {oi : Oper} {v : Value} {fuel : Nat} {l : Array Bool} {a a' : Act} {w : World} (l' : Array Bool) (hT : rtab md ops = T) {B : List Nat} (hB : waitsOk T.2 B = true) (hS : S w) (h : wpAnyLast P md ops Q S ds fuel l' a' w)
    (hi : ops[i]? = some oi := by exact rfl) (hN : oi.dst = N := by exact rfl) (hc : takeW T B ds l.toList l'.toList i = true := by kernel_rfl) (hQ : ∀ c a w, Q (.panic c) (a.put oi.dst v) w → Q (.panic c) a w := by exact fun _ _ _ h => h)
    (hw : Region.wanted oi (yielded ops a.tmps) = true := by exact rfl) (hy : ∀ w, S w → (execOp a.eval oi).run P w = .ok (.value v) w := by rintro w' ⟨s0, s1, s2, s3⟩; go_simp; with_reducible rfl)
    (ha : a.put N v = a' := by simp only [Act.put, List.setIfInBounds_toArray, List.set_cons_zero, List.set_cons_succ, i64_w, i32_w]; rfl) : wpAnyLast P md ops Q S ds (fuel + 1) l a w :=
  take_ l' hi hN (take_ofW hT hB hc) hQ (Or.inl ⟨hw, hy⟩) hS ha h
theorem tZ5 (i : Nat) (N : Option Tmp) {oi : Oper} {v : Value} {fuel : Nat} {l : Array Bool} {a a' : Act} {w : World} (l' : Array Bool) (hT : rtab md ops = T) {B : List Nat} (hB : waitsOk T.2 B = true) (hS : S w) (h : wpAnyLast P md ops Q S ds fuel l' a' w)
    (hi : ops[i]? = some oi := by exact rfl) (hN : oi.dst = N := by exact rfl) (hc : takeW T B ds l.toList l'.toList i = true := by kernel_rfl) (hQ : ∀ c a w, Q (.panic c) (a.put oi.dst v) w → Q (.panic c) a w := by exact fun _ _ _ h => h)
    (hw : Region.wanted oi (yielded ops a.tmps) = true := by exact rfl) (hy : ∀ w, S w → (execOp a.eval oi).run P w = .ok (.value v) w := by rintro w' ⟨s0, s1, s2, s3, s4⟩; go_simp; with_reducible rfl)
    (ha : a.put N v = a' := by simp only [Act.put, List.setIfInBounds_toArray, List.set_cons_zero, List.set_cons_succ, i64_w, i32_w]; rfl) : wpAnyLast P md ops Q S ds (fuel + 1) l a w :=
  take_ l' hi hN (take_ofW hT hB hc) hQ (Or.inl ⟨hw, hy⟩) hS ha h
theorem tZ7 (i : Nat) (N : Option Tmp) {oi : Oper} {v : Value} {fuel : Nat} {l : Array Bool} {a a' : Act} {w : World} (l' : Array Bool) (hT : rtab md ops = T) {B : List Nat} (hB : waitsOk T.2 B = true) (hS : S w) (h : wpAnyLast P md ops Q S ds fuel l' a' w)
    (hi : ops[i]? = some oi := by exact rfl) (hN : oi.dst = N := by exact rfl) (hc : takeW T B ds l.toList l'.toList i = true := by kernel_rfl) (hQ : ∀ c a w, Q (.panic c) (a.put oi.dst v) w → Q (.panic c) a w := by exact fun _ _ _ h => h)
    (hw : Region.wanted oi (yielded ops a.tmps) = true := by exact rfl) (hy : ∀ w, S w → (execOp a.eval oi).run P w = .ok (.value v) w := by rintro w' ⟨s0, s1, s2, s3, s4, s5, s6⟩; go_simp; with_reducible rfl)
    (ha : a.put N v = a' := by simp only [Act.put, List.setIfInBounds_toArray, List.set_cons_zero, List.set_cons_succ, i64_w, i32_w]; rfl) : wpAnyLast P md ops Q S ds (fuel + 1) l a w :=
  take_ l' hi hN (take_ofW hT hB hc) hQ (Or.inl ⟨hw, hy⟩) hS ha h
theorem oZ (i : Nat) (N : Option Tmp) {oi : Oper} {fuel : Nat} {l : Array Bool} {a : Act} {w : World} (l' : Array Bool) (hT : rtab md ops = T)
    (h : ∀ K : Act → World → Prop, Shut (∀ a' w', S w' → (S w' → wpAnyLast P md ops Q S ds fuel l' a' w') → K a' w') → if Region.wanted oi (yielded ops a.tmps) = true then Oper.wp P oi a w K Q else K (a.put N undef) w)
    (hi : ops[i]? = some oi := by exact rfl) (hN : oi.dst = N := by exact rfl) (hc : (readyT T.2 l.toList == [i] && l.toList.set i true == l'.toList) = true := by kernel_rfl) (hd : i ∉ ds := by decide) : wpAnyLast P md ops Q S ds (fuel + 1) l a w :=
  one_ l' hi hN (one_of hT hc) hd h
theorem lZ (i : Nat) (N : Option Tmp) {oi : Oper} {fuel : Nat} {l : Array Bool} {a : Act} {w : World} (l' : Array Bool) (hT : rtab md ops = T)
    (h : ∀ K : Act → World → Prop, Shut (∀ a' w', wpAnyLast P md ops Q S ds fuel l' a' w' → K a' w') → if Region.wanted oi (yielded ops a.tmps) = true then Oper.wp P oi a w K Q else K (a.put N undef) w)
    (hi : ops[i]? = some oi := by exact rfl) (hN : oi.dst = N := by exact rfl) (hc : (readyT T.2 l.toList == [i] && l.toList.set i true == l'.toList) = true := by kernel_rfl) (hd : i ∈ ds := by decide) : wpAnyLast P md ops Q S ds (fuel + 1) l a w :=
  last_ l' hi hN (one_of hT hc) hd h
theorem gZ {oi : Oper} {N : Option Tmp} {a : Act} {w : World} {K : Act → World → Prop} {f : FuncId} {fn : Func} {as_ : Array Operand} {ts : Array TypeId} (hf : P.funcs[f]? = some fn) (args : Array Value)
    (h : Calls P f args w fun e w' => ∃ v, e = .returned v ∧ K (a.put N v) w') (hname : (fn.name == "runtime.NumGoroutine") = false := by kernel_rfl) (hb : fn.body.isSome = true := by exact rfl)
    (hw : Region.wanted oi (yielded ops a.tmps) = true := by rfl) (hN : oi.dst = N := by exact rfl) (hop : oi.op = .call { callee := .value (.func f), args := as_, argTypes := ts } := by exact rfl)
    (hargs : as_.map a.eval = args := by (try simp only [List.map_toArray, List.map_cons, List.map_nil]); first | done | rfl | (simp only [List.length_drop, List.length_take]; rfl)) :
    if Region.wanted oi (yielded ops a.tmps) = true then Oper.wp P oi a w K Q else K (a.put N undef) w :=
  goes_ hf hname hb args hw hN hop hargs h
theorem gL {rest : List Oper} {oi : Oper} {a : Act} {w : World} (N : Option Tmp) {f : FuncId} {fn : Func} {as_ : Array Operand} {ts : Array TypeId} (hf : P.funcs[f]? = some fn) (args : Array Value)
    (h : Calls P f args w fun e w' => ∃ v, e = .returned v ∧ wpList P ops Q rest (a.put N v) w') (hd : oi.dst = N := by exact rfl) (hg : oi.guard = none := by exact rfl) (hname : (fn.name == "runtime.NumGoroutine") = false := by kernel_rfl) (hb : fn.body.isSome = true := by exact rfl)
    (hop : oi.op = .call { callee := .value (.func f), args := as_, argTypes := ts } := by exact rfl)
    (hargs : as_.map a.eval = args := by (try simp only [List.map_toArray, List.map_cons, List.map_nil]); first | done | rfl | (simp only [List.length_drop, List.length_take]; rfl)) : wpList P ops Q (oi :: rest) a w :=
  goesL_ N hd hg hf hname hb args hop hargs h
end
end Go.Proofs.YtmehagedoaopeaaGreatSq
namespace Go.Proofs.YtmehagedoaopeaaGreatGp
open Go Go.RowKit Go.Shelf Go.Proofs.YtmehagedoaopeaaGreatW.PrintWords Go.Proofs.YtmehagedoaopeaaGreatW.PrintLast

theorem calls_marks {P : Program} {f : FuncId} {fn : Func} {c : Code} {args : Array Value} {w : World} {R : Ending → World → Prop}
    (hf : P.funcs[f]? = some fn) (hb : fn.body = some c) (h : c.wp P (bodyPostM Fence.wide 9 P fn R) { tmps := args ++ Array.replicate (fn.ntmps - args.size) undef, defers := [] } w) : Calls P f args w R :=
  (callsIn_wide (n := 9)).1 (callsIn_of_wp_marks hf hb trivial (wpIn_wide.2 h))
theorem bodyPostM_ret {P : Program} {F : Fence} {n : Nat} {fn : Func} {R : Ending → World → Prop} {a : Act} {w : World} {v : Value}
    (hr : (results fn a.tmps).run P w = .ok v w) (hd : a.defers = []) (hR : R (.returned v) w) : bodyPostM F n P fn R .ret a w := by
  show LeavesInM F n P fn a.tmps R a.defers .returning w
  rw [hd]
  exact ⟨v, hr, hR⟩
theorem bodyPostM_mark {P : Program} {F : Fence} {n : Nat} {fn : Func} {R : Ending → World → Prop} {a : Act} {w : World} {v : Value} {D : Nat}
    (hd : a.defers = [{ target := .collected D, args := #[] }]) (hK : w.heap[D]? = some (.deferred (some [])))
    (hr : (results fn a.tmps).run P (w.putObj D (.deferred none)) = .ok v (w.putObj D (.deferred none))) (hR : R (.returned v) (w.putObj D (.deferred none))) : bodyPostM F n P fn R .ret a w := by
  show LeavesInM F n P fn a.tmps R a.defers .returning w
  rw [hd]
  exact ⟨by simp, .inl ⟨D, _, rfl, run_takeDeferred hK, v, hr, hR⟩⟩

section
variable {P : Program} {ops : Array Oper} {Q : Exit → Act → World → Prop} {l n : Nat}
theorem rowsIn_round {row : String} {args : Array Value} {w : World} {R : Value → World → Prop} (h : Rows P row args w R) : RowsIn (Fence.wide.inRound l) n P row args w R := by
  intro c cs _
  obtain ⟨v, w', h1, h2⟩ := h c cs
  exact ⟨v, w', h1, stepsIn_wide.2 h2⟩
theorem opIn_of_op {o : Oper} (hd : ∀ c, o.op ≠ .defer c) {K : Act → World → Prop} {a : Act} {w : World} (h : o.wp P a w K Q) : o.wpIn (Fence.wide.inRound l) n P a w K Q := by
  refine ⟨fun _ _ => trivial, ?_⟩
  rw [Fence.inRound_round, Oper.semAt_some l _ _ hd]
  unfold Oper.wp at h
  generalize (execOp a.eval o).run P w = r at h ⊢
  cases r with
  | ok x w' =>
    cases x with
    | value v => exact h
    | skip => exact h
    | defer d => exact h
    | enter f args => exact ⟨fun hd => by simp [Fence.wide] at hd, CallsIn.inRound l (CallsIn.mono (callsIn_wide.2 h) (fun e w'' he => by cases e <;> exact he))⟩
    | row row args => exact ⟨fun hd => by simp [Fence.wide] at hd, rowsIn_round h⟩
    | _ => exact h.elim
  | halt x w' => cases x <;> exact h
def NoDefer (ops : List Oper) : Prop := ∀ o ∈ ops, ∀ c, o.op ≠ .defer c
def noDeferB (o : Oper) : Bool := match o.op with | .defer _ => false | _ => true
theorem noDefer_of {l : List Oper} (h : l.all noDeferB = true) : NoDefer l := fun o ho c e => by
  have := List.all_eq_true.1 h o ho
  simp [noDeferB, e] at this
theorem listIn_of_list (hQ : ¬ LetsOut Q) : ∀ (rest : List Oper) (a : Act) (w : World), NoDefer rest → wpList P ops Q rest a w → wpListIn (Fence.wide.inRound l) n P ops Q rest a w
  | [], _, _, _, h => h
  | o :: rest, a, w, hd, h => by
    have hr : NoDefer rest := fun o' ho' => hd o' (List.mem_cons_of_mem _ ho')
    unfold wpList at h
    unfold wpListIn
    split
    · rename_i c
      rw [if_pos c] at h
      rcases h with h | h
      · exact Oper.wpIn_mono (fun a w h => listIn_of_list hQ rest a w hr h) (opIn_of_op (hd o List.mem_cons_self) h)
      · exact absurd h.2 hQ
    · rename_i c
      rw [if_neg c] at h
      exact ⟨fun _ _ => trivial, listIn_of_list hQ rest _ w hr h⟩
theorem regionIn {id : Nat} {rs : List Oper} {a : Act} {w : World} (hd : rs.all noDeferB = true) (hQ : ¬ LetsOut Q) (h : wpList P rs.toArray Q rs a w) : (Code.region id rs.toArray false).wpIn (Fence.wide.inRound l) n P Q a w :=
  wpIn_region_lit (listIn_of_list hQ _ _ _ (noDefer_of hd) h)
theorem anyIn_of_any {md : Region.Mode} (hQ : ¬ LetsOut Q) (hd : NoDefer ops.toList) : ∀ (fuel : Nat) (listed : Array Bool) (a : Act) (w : World), wpAny P md ops Q fuel listed a w → wpAnyIn (Fence.wide.inRound l) n P md ops Q fuel listed a w
  | 0, _, _, _, h => h
  | fuel + 1, listed, a, w, h => by
    refine ⟨h.1, fun i hi => ?_⟩
    have := h.2 i hi
    unfold wpOp at this
    unfold wpOpIn
    split
    · rename_i e
      rw [e] at this
      exact anyIn_of_any hQ hd fuel _ _ _ this
    · rename_i o e
      rw [e] at this
      simp only at this
      split
      · rename_i c
        rw [if_pos c] at this
        rcases this with h | h
        · exact Oper.wpIn_mono (fun a w h => anyIn_of_any hQ hd fuel _ a w h) (opIn_of_op (hd o (by
            have := Array.mem_of_getElem? e
            exact Array.mem_toList_iff.2 this)) h)
        · exact absurd h.2 hQ
      · rename_i c
        rw [if_neg c] at this
        exact ⟨fun _ _ => trivial, anyIn_of_any hQ hd fuel _ _ _ this⟩
theorem startIn {S : World → Prop} {ds : List Nat} {id m : Nat} {a : Act} {w : World} (lb : Array Bool) (hm : P.follows .mixedOrders = true) (hn : ops.size = m) (hl : Array.replicate m false = lb) (hS : S w.drew) (hd : ops.toList.all noDeferB = true) (hQ : ¬ LetsOut Q)
    (h : S w.drew → wpAnyLast P .any ops Q S ds m lb a w.drew) : (Code.region id ops true).wpIn (Fence.wide.inRound l) n P Q a w := by
  subst hn
  subst hl
  exact wpIn_region_any hm (anyIn_of_any hQ (noDefer_of hd) _ _ _ _ (wpAny_of_last _ _ _ _ (h hS)))
end
def Keeps (ok : Nat → Prop) (W W' : World) : Prop := ∀ k, ok k → W'.heap[k]? = W.heap[k]?
theorem Keeps.refl (ok : Nat → Prop) (W : World) : Keeps ok W W := fun _ _ => rfl
theorem Keeps.trans {ok : Nat → Prop} {A B C : World} (h : Keeps ok A B) (h' : Keeps ok B C) : Keeps ok A C := fun i hi => (h' i hi).trans (h i hi)
theorem Keeps.cell {ok : Nat → Prop} {W W' : World} {p : Addr} (h : Keeps ok W W') (hp : ok p.block) : W'.cell? p = W.cell? p := World.cell?_of_block (h _ hp)
theorem Keeps.put {ok : Nat → Prop} {W : World} {l : Nat} {o : Obj} (hl : ¬ ok l) : Keeps ok W (W.putObj l o) := fun _ hk => World.putObj_heap_other (fun e => hl (e ▸ hk))
theorem R_int_ok {k : IntKind} {e base g n c : Nat} {ok : Nat → Prop} {w : World} {xs : List Int} (h : Kd.R (Kd.int k) e w base ok (.slice (some ⟨g, 0, none⟩) n c) xs) : Kd.R (Kd.int k) e w base (fun k => k = g) (.slice (some ⟨g, 0, none⟩) n c) xs :=
  ⟨fun k hk => by simp [Value.ownBlock] at hk; exact hk.symm, h.2.imp_ (fun _ _ hp => hp)⟩
section
variable {α : Type} {d : Kd α} {e base b g : Nat} {ok : Nat → Prop} {v : Value} {xs : List α} {w w1 w0 : World} {o : Obj}
theorem Rbl (hb : Below w.heap.size w w1) (h : Aside0 (Kd.R d e w base ok v xs)) : Aside0 (Kd.R d e w1 base ok v xs) := ⟨Kd.R_below h.out hb⟩
theorem Sbl (hb : Below w.heap.size w w1) (h : Aside0 (Kd.S d e w base ok v xs)) : Aside0 (Kd.S d e w1 base ok v xs) := ⟨Kd.S_below h.out hb⟩
theorem Kbl (hb : Below w.heap.size w w1) (h : Aside0 (w.heap[g]? = some o)) : Aside0 (w1.heap[g]? = some o) := ⟨(hb.block g (blk_lt h.out)).trans h.out⟩
theorem Bbl (hb : Below w.heap.size w w1) (h : Aside0 (Below w0.heap.size w0 w)) : Aside0 (Below w0.heap.size w0 w1) := ⟨h.out.trans (hb.mono (below_size (w := w0) h.out))⟩
end
end Go.Proofs.YtmehagedoaopeaaGreatGp
namespace Go.Proofs
open Go.RowKit Go.Shelf
def Tryz.laysMulI_ren : Go.Shelf.Ren := { f := fun x => match x with | 212 => 65 | 263 => 97 | 264 => 98 | n => n, t := fun x => match x with | 46 => 95 | 51 => 118 | 146 => 119 | 53 => 57 | 148 => 121 | n => n, g := fun n => n }
set_option maxRecDepth 100000 in
theorem Tryz.laysMulI : Lays.n212 Tryz.prog Tryz.laysMulI_ren where
  mixed := by kernel_rfl
  f212 := Tryz.func65.trans (congrArg some (by kernel_rfl))
  f263 := Tryz.func97.trans (congrArg some (by kernel_rfl))
  f264 := Tryz.func98.trans (congrArg some (by kernel_rfl))
  t46 := Tryz.underlying95
  a46 := Tryz.isAgg95
  z46 := Tryz.sizeOf95
  v46 := Tryz.zeroValue95
  t51 := Tryz.underlying118
  a51 := Tryz.isAgg118
  z51 := Tryz.sizeOf118
  v51 := Tryz.zeroValue118
  t53 := Tryz.underlying57
  a53 := Tryz.isAgg57
  z53 := Tryz.sizeOf57
  v53 := Tryz.zeroValue57
  t146 := Tryz.underlying119
  a146 := Tryz.isAgg119
  z146 := Tryz.sizeOf119
  v146 := Tryz.zeroValue119
  t148 := Tryz.underlying121
  a148 := Tryz.isAgg121
  z148 := Tryz.sizeOf121
  v148 := Tryz.zeroValue121

end Go.Proofs
namespace Go.Proofs.YtmehagedoaopeaaGreat.PZ
open Go Go.RowKit Go.Shelf Go.Proofs.YtmehagedoaopeaaGreatW.PrintWords
set_option maxHeartbeats 400000
theorem hidPI {p : Prop} (h : p) : Hid p := h
theorem infoBI : (Tryz.prog.info? 3).map (fun i => (i.zero, i.size, i.bytes)) = some (some (.int .i64 0), 1, 8) := by kernel_rfl
theorem src_oneI {w4 : World} {ad : Addr} {v0 : Value} (h : w4.cell? ad = some v0) : ∀ (j : Nat) v, [v0][j]? = some v → w4.cell? (ad.add j) = some v := by
  intro j v hj
  match j with
  | 0 => simpa [Addr.add, ← Option.some.inj hj] using h
  | j + 1 => simp at hj
theorem wrap_mcI {m c : Nat} (h : m + c ≤ 2000000) : IntKind.i64.wrap ((m : Int) + (c : Int)) = ((m + c : Nat) : Int) := by
  unfold IntKind.wrap
  simp [IntKind.bits, IntKind.signed]
  omega
theorem src_repI {w : World} {g m c : Nat} {L : List Value} (hG : w.heap[g]? = some (.cells L.toArray 3 (0, 0))) (hL : L.take m = List.replicate m (Value.int .i64 3)) (hc : c ≤ m) :
    ∀ (j : Nat) v, (List.replicate c (Value.int .i64 3))[j]? = some v → w.cell? ((⟨g, 0, none⟩ : Addr).add j) = some v := by
  intro j v hj
  have hjc : j < c := by
    rcases Nat.lt_or_ge j c with h | h
    · exact h
    · rw [List.getElem?_eq_none (by simpa using h)] at hj; cases hj
  have h1 : (L.take m)[j]? = (List.replicate m (Value.int .i64 3))[j]? := by rw [hL]
  rw [List.getElem?_take_of_lt (by omega), List.getElem?_replicate, if_pos (by omega)] at h1
  rw [List.getElem?_replicate, if_pos hjc] at hj
  by_cases j0 : j = 0
  · subst j0
    simp [World.cell?, hG, Addr.add, h1, ← Option.some.inj hj]
  · simp [World.cell?, hG, Addr.add, h1, j0, ← Option.some.inj hj]
theorem splice_repI {L : List Value} {m c : Nat} (hL : L.take m = List.replicate m (Value.int .i64 3)) (_ : m ≤ L.length) : (splice L m (List.replicate c (Value.int .i64 3))).take (m + c) = List.replicate (m + c) (Value.int .i64 3) := by
  rw [splice, hL, ← List.append_assoc, List.replicate_append_replicate, List.take_left' (by simp)]
set_option maxRecDepth 100000 in
theorem Repeat_someI (n : Int) (hn1 : 1 ≤ n) (hn : n ≤ 1000000) (ad : Addr) (c0 : Nat) (w : World) (hc : w.cell? ad = some (.int .i64 3))
   (hm : ∀ w, Calls Tryz.prog 65 #[.int .u64 1, .int .u64 n] w fun e w' => e = .returned (.tuple #[.int .u64 0, .int .u64 n]) ∧ w' = w) :
    Calls Tryz.prog 27 #[.slice (some ad) 1 c0, .int .i64 n] w fun e w' => ∃ v0_ : Value, e = .returned v0_ ∧ Kd.R (Kd.int .i64) 3 w' w.heap.size (fun _ => True) v0_ (List.replicate n.toNat 3) ∧ Below w.heap.size w w' := by
  have h0 : ¬ ((n : Int) < 0) := by omega
  have h0' : (0 : Int) ≤ n := by omega
  go_enter Tryz.func27, Tryz.ntmps27
  go_wp2_with fail
  refine (hm _).mono ?_
  rintro e w' ⟨rfl, rfl⟩
  have hn8 : decide (n > 9223372036854775807) = false := by rw [decide_eq_false_iff_not]; omega
  have hw1 : wrap64 n = n := by unfold wrap64; omega
  go_wp2_with (first | ((with_reducible refine gate_dst (N := 30) rfl ?_); refine Kd.R_make (Kd.int .i64) _ 3 rfl (N := 30) rfl 27 _ _ rfl n rfl rfl Tryz.underlying27 (.int .i64 0) 8 infoBI rfl (by decide) (by omega) 0 (ok := fun _ => True) (okp := fun _ => True) rfl (fun _ hk => hk) trivial (by omega) (by omega) (Below.refl _ _) (Nat.le_refl _) ?_; intro v134 w4 ho5 hb hg_ hnew_; have hown := Kd.own_of_R (enc := Value.int .i64) ho5; clear hg_ hnew_; rcases hown.2 with ⟨_, h0_⟩ | ⟨g, cap, cur, rfl, hbase, hb1, h1, h2, h3, h4⟩; (exfalso; simp at h0_; omega); obtain ⟨L, rfl⟩ : ∃ L : List Value, cur = L.toArray := ⟨cur.toList, by simp⟩; have HR := Aside0.mk ho5; have H1 := Aside0.mk h1; have H3 := Aside0.mk h3; have H4 := Aside0.mk h4; have HBL := Aside0.mk hb1; have HBB := Aside0.mk hb; clear hown ho5 h1 h3 h4 hb1 hb) | ((with_reducible refine gate_dst (N := 33) rfl ?_); (refine wpList_copy_splice rfl (.tmp 31) (.tmp 32) 27 27 rfl 3 Tryz.underlying27 (by kernel_rfl) _ _ _ _ _ _ rfl rfl g 0 L 3 HBL.out [Value.int .i64 3] ?c1 ?c2 ?c3 ?c4 _ _ HBB.out hbase ?_; (case c1 => show 1 = min 1 n.toNat; omega); (case c2 => exact fun _ => ⟨rfl, ad, rfl, src_oneI ((HBB.out.cell (World.block_lt_of_cell? _ _ hc)).trans hc)⟩); (case c3 => have a := H3.out; have b := H1.out; simp at a b ⊢; omega); (case c4 => intro v hv; simp at hv; subst hv; rfl); intro w5 HG5 HB5)))
  have hL3 : Hid ((splice L 0 [Value.int .i64 3]).length = cap) := hidPI (by have a := H3.out; have b := H1.out; simp at a b; rw [length_splice _ _ _ (by simp; omega)]; omega)
  have hL4 : Hid ((splice L 0 [Value.int .i64 3]).take 1 = List.replicate 1 (Value.int .i64 3)) := hidPI (by simp [splice])
  have hcn : Hid (n ≤ (cap : Int)) := hidPI (by have b := H1.out; simp at b; omega)
  clear hw1 hn8 HR H1 H3 H4 HBL HBB hm
  generalize hLL : splice L 0 [Value.int .i64 3] = L5 at *
  clear hLL L
  obtain ⟨N, rfl⟩ : ∃ N : Nat, n = (N : Int) := ⟨n.toNat, by omega⟩
  simp only [Int.toNat_natCast]
  go_loopw [8] (fun v8 wr => ∃ (m : Nat) (L : List Value), 1 ≤ m ∧ m ≤ N ∧ v8 = .int .i64 (m : Int) ∧ Hid (wr.heap[g]? = some (.cells L.toArray 3 (0, 0))) ∧ Hid (L.length = cap) ∧ Hid (L.take m = List.replicate m (Value.int .i64 3)) ∧ Below w'.heap.size w' wr) (fun v8 _ => ((N : Int) - intOf v8).toNat)
  case atStart => exact ⟨1, L5, by omega, by omega, rfl, HG5, hL3, hL4, HB5⟩
  case round =>
    obtain ⟨m, L, hm1, hm2, rfl, hG, hLn, hLt, hBr⟩ := hrel
    clear HG5 hL3 hL4 HB5
    by_cases hlt : m < N
    · have hca : ¬ cap = m := by have := hcn.out; omega
      have hca2 : m < cap := by have := hcn.out; omega
      have hnn : m ≤ N := by omega
      have hmc : m ≤ cap := by omega
      have hnb : N ≤ 1000000 := by omega
      obtain ⟨c, hc⟩ : ∃ c : Nat, c = min m (N - m) := ⟨_, rfl⟩
      have hcb : c ≤ 1000000 := by omega
      have HC := hidPI hc
      clear hc
      go_wp2_with fail
      have hsz4 : (Tryz.prog.info? 3).map (·.size) = some 1 := by kernel_rfl
      go_region_law ((refine step_copy_splice rfl (.tmp 41) (.tmp 44) 27 27 rfl 3 Tryz.underlying27 hsz4 (some ⟨g, m, none⟩) (some ⟨g, 0, none⟩) (N - m) (cap - m) m cap (by simp [Act.eval, Act.put]) (by simp [Act.eval, Act.put]) g m L 3 hG.out (List.replicate c (Value.int .i64 3)) ?c1 ?c2 ?c3 ?c4 w'.heap.size w' (by first | exact hBr | exact below_drew1 hBr) hbase ?_; (case c1 => have := HC.out; simp; omega); (case c2 => exact fun _ => ⟨rfl, _, rfl, src_repI (w := wr.drew) hG.out hLt.out (by have := HC.out; omega)⟩); (case c3 => have a := HC.out; have b := hLn.out; have d := hcn.out; simp; omega); (case c4 => intro v hv; rw [List.eq_of_mem_replicate hv]; rfl); intro w6 HG6 HB6))
      simp only [Act.put, List.getElem_toArray, List.getElem_cons_zero, List.getElem_cons_succ, List.setIfInBounds_toArray, List.set_cons_zero, List.set_cons_succ, wrap_mcI (by omega : m + c ≤ 2000000)]
      go_roundw
      case rel => refine ⟨_, _, _, _, _, _, _, _, _, _, _, _, _, _, ⟨m + c, splice L m (List.replicate c (Value.int .i64 3)), by omega, by have := HC.out; omega, rfl, HG6, hidPI (by have a := HC.out; have b := hLn.out; have d := hcn.out; rw [length_splice _ _ _ (by simp; omega)]; exact b), hidPI (splice_repI hLt.out (by have a := HC.out; have b := hLn.out; have d := hcn.out; omega)), HB6⟩, rfl⟩
      case measure => have := HC.out; simp [intOf]; omega
    · go_wp2_with fail
      go_ret
      have e : m = N := by omega
      refine ⟨_, rfl, ?_, hBr⟩
      refine Kd.R_of_own (enc := Value.int .i64) ⟨by simp [encs], .inr ⟨g, cap, _, by simp, hbase, hG.out, ?_, h2, by simpa using hLn.out, ?_⟩⟩ (fun k hk => trivial)
      · have := hcn.out; simp; omega
      · have := hLt.out
        have e2 : N = m := by omega
        simp [e2, this, encs]
set_option maxRecDepth 100000 in
theorem Repeat_noneI (ad : Addr) (c0 : Nat) (w : World)
   (hm : ∀ w, Calls Tryz.prog 65 #[.int .u64 1, .int .u64 0] w fun e w' => e = .returned (.tuple #[.int .u64 0, .int .u64 0]) ∧ w' = w) :
    Calls Tryz.prog 27 #[.slice (some ad) 1 c0, .int .i64 0] w fun e w' => ∃ v0_ : Value, e = .returned v0_ ∧ Kd.R (Kd.int .i64) 3 w' w.heap.size (fun _ => True) v0_ ([] : List Int) ∧ Below w.heap.size w w' := by
  go_enter Tryz.func27, Tryz.ntmps27
  go_wp2_with fail
  refine (hm _).mono ?_
  rintro e w' ⟨rfl, rfl⟩
  go_wp2_with (first | ((with_reducible refine gate_dst (N := 30) rfl ?_); refine Kd.R_make (Kd.int .i64) _ 3 rfl (N := 30) rfl 27 _ _ rfl (0 : Int) rfl rfl Tryz.underlying27 (.int .i64 0) 8 infoBI rfl (by decide) (by omega) 0 (ok := fun _ => True) (okp := fun _ => True) rfl (fun _ hk => hk) trivial (by omega) (by omega) (Below.refl _ _) (Nat.le_refl _) ?_; intro v134 w4 ho5 hb hg_ hnew_; have hown := Kd.own_of_R (enc := Value.int .i64) ho5; clear hg_ hnew_; obtain ⟨p, cap, rfl⟩ : ∃ p cap, v134 = .slice p 0 cap := (by rcases hown.2 with ⟨h, _⟩ | ⟨g, cap, cur, h, _⟩; exact ⟨_, _, h⟩; exact ⟨_, _, h⟩); clear hown) | ((with_reducible refine gate_dst (N := 33) rfl ?_); refine wpList_copy_nothing rfl (.tmp 31) (.tmp 32) 27 27 rfl 3 Tryz.underlying27 (by kernel_rfl) _ _ _ _ _ _ rfl rfl rfl ?_))
  refine wp_loop_rounds 1 ?_
  rw [rounds_succ]
  go_wp2
  go_ret
  exact ⟨_, rfl, ho5, hb⟩

def slices_Repeat_int_int.f (l0 : List Int) (a1 : Int) : Option (List Int) := if l0 = [3] then (if 0 ≤ a1 then (if a1 ≤ 1000000 then (some (List.replicate a1.toNat 3)) else none) else none) else none
theorem mul_one_atI (n : Int) (h0 : 0 ≤ n) (h1 : n ≤ 1000000) (w : World) : Calls Tryz.prog 65 #[.int .u64 1, .int .u64 n] w fun e w' => e = .returned (.tuple #[.int .u64 0, .int .u64 n]) ∧ w' = w := by
  obtain ⟨N, rfl⟩ : ∃ N : Nat, n = (N : Int) := ⟨n.toNat, by omega⟩
  have h := Any.bits_Mul Tryz.laysMulI 1 N (by omega) (by omega) w
  rw [Nat.one_mul, Nat.div_eq_of_lt (by omega), Nat.mod_eq_of_lt (by omega)] at h
  exact h
theorem slices_Repeat_int_int.calls (A0 : Option Addr) (c0 : Nat) (l0 : List Int) (a1 : Int) (r : List Int) (w : World) (hr0 : Kd.C (Kd.int .i64) w A0 l0.length l0) (hc0 : l0.length ≤ c0) (h : slices_Repeat_int_int.f l0 a1 = some r) :
    Calls Tryz.prog 27 #[.slice A0 l0.length c0, .int .i64 a1] w fun e w' => ∃ v0_ : Value, e = .returned (v0_) ∧ Kd.R (Kd.int .i64) 3 w' w.heap.size (fun _ => True) v0_ r ∧ Below w.heap.size w w' := by
  unfold slices_Repeat_int_int.f at h
  by_cases c1 : l0 = [3]
  · rw [if_pos c1] at h
    by_cases c2 : 0 ≤ a1
    · rw [if_pos c2] at h
      by_cases c3 : a1 ≤ 1000000
      · rw [if_pos c3] at h
        obtain rfl := Option.some.inj h
        subst c1
        obtain ⟨ad, e, hx⟩ := Kd.at_int hr0 0 (by omega) (by simp)
        subst e
        have hx' : w.cell? ad = some (.int .i64 3) := by simpa [Addr.add, rd] using hx
        by_cases c4 : a1 = 0
        · subst c4
          exact Repeat_noneI ad c0 w (mul_one_atI 0 (by omega) (by omega))
        · exact Repeat_someI a1 (by omega) c3 ad c0 w hx' (mul_one_atI a1 c2 c3)
      · rw [if_neg c3] at h; cases h
    · rw [if_neg c2] at h; cases h
  · rw [if_neg c1] at h; cases h
end Go.Proofs.YtmehagedoaopeaaGreat.PZ
namespace Go.Proofs.YtmehagedoaopeaaGreatGp
open Go Go.Maps

theorem plainBool_inv {H : Type} {P : Program} {e : TypeId} (he : P.underlying e = some .bool) {v : Value} {z : DataW H × List MemPlace} (h : plainElem P e v = some z) : ∃ a, v = .bool a ∧ z = (.lit (.bool a), []) := by
  unfold plainElem at h
  rw [he] at h
  cases v <;> simp at h
  exact ⟨_, rfl, h.symm⟩
theorem lookB {H : Type} {P : Program} (w : World) {ops : Array Oper} {rest : List Oper} {o : Oper} {a : Act} {Q : Exit → Act → World → Prop}
    (hg : o.guard = none) (m x : Operand) (t : TypeId) (hop : o.op = Op.lookup t m x false)
    (k e : TypeId) (K : Keyed P k) (ht : P.underlying t = some (.map k e)) (he : P.underlying e = some .bool) (hz : (zeroValue e).run P w = .ok (.bool false) w) (b n : Nat) (D : DataW H)
    (hm : a.eval m = .map (some b)) (hown : w.ownsMap P k (plainElem P e) b n D) (key : Value) (kl : Lit) (hx : a.eval x = key) (hkey : keyOf P k key = some kl) (r : Bool)
    (hr : D.atKey kl (.lit (.bool false)) = .lit (.bool r))
    (hK : wpList P ops Q rest (a.put o.dst (.bool r)) w) :
    wpList P ops Q (o :: rest) a w := by
  refine wpList_plain hg fun K' hK' => ?_
  obtain ⟨v, ps, hrun, hv⟩ := hown.lookup K ht hz (plainElem_bool he false) hkey
  obtain ⟨c, rfl, hc⟩ := plainBool_inv he hv
  simp only [Prod.mk.injEq] at hc
  have hcr : c = r := by
    have := hc.1.symm.trans hr
    simpa using this
  subst hcr
  unfold Oper.wp
  simp [execOp, hop, hm, hx, hrun, Result.andThen]
  exact hK' _ _ hK
def nubI : List Int → List Int
  | [] => []
  | x :: t => if t.contains x then nubI t else x :: nubI t
def SetIs (q : IntKind) (D : DataW Unit) (S : List Int) : Prop :=
  Tidy D ∧ (∀ x : Int, D.atKey (.int q x) (.lit (.bool false)) = .lit (.bool (S.contains x))) ∧ (∀ x : Int, Maps.has D (.int q x) = S.contains x) ∧ Maps.size D = (nubI S).length
theorem SetIs.empty (q : IntKind) : SetIs q (.map []) [] := ⟨tidy_empty, fun _ => rfl, fun _ => rfl, rfl⟩
theorem SetIs.put {q : IntKind} {D : DataW Unit} {S : List Int} (h : SetIs q D S) (x : Int) : SetIs q (D.put (.int q x) (.lit (.bool true))) (x :: S) := by
  obtain ⟨h1, h2, h3, h4⟩ := h
  have hk : WideAt.IsKeyLit (.int q x) := by simp [WideAt.IsKeyLit]
  refine ⟨h1.put hk _, fun y => ?_, fun y => ?_, ?_⟩
  · by_cases c : y = x
    · subst c
      rw [atKey_put_same h1.isMap hk]
      simp
    · rw [atKey_put_other (by simpa using c), h2]
      simp [c]
  · by_cases c : y = x
    · subst c
      rw [has_put_same h1.isMap hk]
      simp
    · rw [has_put_other (by simpa using c), h3]
      simp [c]
  · rw [size_put h1, h3, h4]
    show _ = (if S.contains x then nubI S else x :: nubI S).length
    split <;> simp
end Go.Proofs.YtmehagedoaopeaaGreatGp
namespace Go.Proofs.YtmehagedoaopeaaGreat.PZ
open Go Go.RowKit Go.Maps Go.Proofs.YtmehagedoaopeaaGreatW.PrintWords Go.Proofs.YtmehagedoaopeaaGreatGp
set_option maxHeartbeats 400000
theorem distinctK : Keyed Tryz.prog 3 := int_keyed Tryz.underlying3
theorem distinctZ (w : World) : (zeroValue 4).run Tryz.prog w = .ok (.bool false) w := by kernel_rfl
def okI (x : Int) : Bool := decide (-9223372036854775808 ≤ x) && decide (x ≤ 9223372036854775807)
theorem okI_wf {x : Int} (h : okI x = true) : (Lit.int .i64 x).wf = true := h
theorem rdn {l : List Int} {k : Nat} (h : k < l.length) : rd l (k : Int) = l[k] := by simp [rd, h]
def goesI : List Int → List Int → Bool
  | _, [] => true
  | S, x :: t => !(S.contains x) && goesI (x :: S) t
def impl_distinct.f (l0 : List Int) : Option Bool := if l0.length ≤ 1000000 ∧ l0.all okI = true then some (goesI [] l0) else none
theorem impl_distinct.calls (A0 : Option Addr) (c0 : Nat) (l0 : List Int) (r : Bool) (w : World) (hr0 : Kd.C (Kd.int .i64) w A0 l0.length l0) (_ : l0.length ≤ c0) (h : impl_distinct.f l0 = some r) :
    Calls Tryz.prog 84 #[.slice A0 l0.length c0] w fun e w' => e = .returned (.bool r) ∧ Below w.heap.size w w' := by
  unfold impl_distinct.f at h
  split at h
  case isFalse => cases h
  case isTrue hl =>
  obtain ⟨hl, hok⟩ := hl
  have HR := Option.some.inj h
  have HG : Aside0 (goesI [] l0 = r) := ⟨HR⟩
  clear HR h
  have HO : Aside0 (∀ x ∈ l0, okI x = true) := ⟨by simpa using hok⟩
  clear hok
  have HC := Aside0.mk hr0
  clear hr0
  have hmm := @run_makeMap Tryz.prog
  go_enter Tryz.func84, Tryz.ntmps84
  go_wp2
  go_loopw [9] (fun i wr => ∃ (k : Nat) (S : List Int) (D : DataW Unit), k ≤ l0.length ∧ i = .int .i64 k ∧ wr.ownsMap Tryz.prog 3 (plainElem (H := Unit) Tryz.prog 4) w.heap.size k D ∧ Aside0 (SetIs .i64 D S) ∧ Aside0 (goesI S (l0.drop k) = r) ∧ Below w.heap.size w wr)
    (fun i _ => l0.length - (intOf i).toNat)
  case atStart => exact ⟨0, [], .map [], Nat.zero_le _, rfl, World.ownsMap_made _ _ _ _, ⟨SetIs.empty _⟩, ⟨by simpa using HG.out⟩, (Below.refl _ _).alloc (Nat.le_refl _) _⟩
  case round =>
    obtain ⟨k, S, D, hk, rfl, hown, HS, HA, hnx⟩ := hrel
    by_cases hlt : k < l0.length
    · obtain ⟨ad, e0, hx⟩ := Kd.at_int HC.out (k : Int) (by omega) (by omega)
      subst e0
      have hx' := pw_cell_below hnx hx
      rw [Int.toNat_natCast] at hx'
      clear hx
      have HK : Aside0 (keyOf Tryz.prog 3 (.int .i64 (rd l0 k)) = some (.int .i64 (rd l0 k))) := ⟨keyOf_int_mk Tryz.underlying3 (okI_wf (HO.out _ (by rw [rdn hlt]; exact List.getElem_mem hlt)))⟩
      have HD : Aside0 (l0.drop k = rd l0 k :: l0.drop (k + 1)) := ⟨by rw [rdn hlt]; exact List.drop_eq_getElem_cons hlt⟩
      by_cases hs : S.contains (rd l0 k) = true
      · have HB := HS.out.2.1 (rd l0 k)
        rw [hs] at HB
        have HB' := Aside0.mk HB
        clear HB
        go_wp2_with (first
          | (at_lookup; refine lookB _ rfl _ _ 127 rfl 3 4 distinctK Tryz.underlying127 Tryz.underlying4 (distinctZ _) w.heap.size k D rfl hown _ _ rfl HK.out true HB'.out ?_)
          | go_in)
        go_ret
        refine ⟨?_, hnx⟩
        have := HA.out
        rw [HD.out, goesI, hs] at this
        rw [← this]; rfl
      · have hs' : S.contains (rd l0 k) = false := by simpa using hs
        have HF := Aside0.mk hs'
        have HB := HS.out.2.1 (rd l0 k)
        rw [hs'] at HB
        clear hs' hs
        have HB' := Aside0.mk HB
        clear HB
        go_wp2_with (first
          | (at_lookup; refine lookB _ rfl _ _ 127 rfl 3 4 distinctK Tryz.underlying127 Tryz.underlying4 (distinctZ _) w.heap.size k D rfl hown _ _ rfl HK.out false HB'.out ?_)
          | (at_mapUpdate; refine wpList_mapUpdate_own _ rfl _ _ _ 127 rfl 3 4 distinctK Tryz.underlying127 (plainElem (H := Unit) Tryz.prog 4) w.heap.size k _ rfl hown (by unfold maxLen; omega) _ _ _ rfl rfl HK.out _ [] (plainElem_bool Tryz.underlying4 true) ?_; intro w1 hown1 hgrow1)
          | go_in)
        go_roundw
        case rel => exact ⟨k + 1, rd l0 k :: S, _, by omega, by go_num, hown1, ⟨HS.out.put _⟩, ⟨by have := HA.out; rw [HD.out, goesI, HF.out] at this; exact this⟩, hnx.grown hgrow1 hnx.size (fun j hj => by cases hj; exact Nat.le_refl _)⟩
        case measure => simp [intOf]; omega
    · have e : k = l0.length := by omega
      subst e
      go_wp2
      go_ret
      refine ⟨?_, hnx⟩
      have := HA.out
      rw [List.drop_length, goesI] at this
      rw [← this]; rfl
end Go.Proofs.YtmehagedoaopeaaGreat.PZ
-- printed by a program of this session (wip/gp) out of the translation; Lean checks it
namespace Go.Proofs.YtmehagedoaopeaaGreat.PZ
open Go.RowKit Go.Proofs.YtmehagedoaopeaaGreatW.PrintWords Go.Proofs.YtmehagedoaopeaaGreatW.PrintLast Go.Proofs.YtmehagedoaopeaaGreatW.PrintMore Go.Proofs.YtmehagedoaopeaaGreatSq
attribute [local go_sem] max2_int min2_int max_two min_two max_three min_three max_four min_four   -- for this text's walks alone
attribute [local go_sem] Go.Proofs.YtmehagedoaopeaaGreatGp.str_geq Go.Proofs.YtmehagedoaopeaaGreatGp.str_gtr Go.Proofs.YtmehagedoaopeaaGreatGp.str_leq
set_option linter.unusedVariables false
set_option linter.unusedSimpArgs false



def errW : Option Int → Value
 | none => .nilIface
 | some c => .iface 0 (.int .i64 c)
theorem errW_none : errW none = .nilIface := rfl
theorem errW_some (c : Int) : errW (some c) = .iface 0 (.int .i64 c) := rfl

theorem info3 : (Tryz.prog.info? 3).map (fun i => (i.zero, i.size, i.bytes)) = some (some (.int .i64 0), 1, 8) := by kernel_rfl
theorem info4 : (Tryz.prog.info? 4).map (fun i => (i.zero, i.size, i.bytes)) = some (some (.bool false), 1, 1) := by kernel_rfl
theorem info5 : (Tryz.prog.info? 5).map (fun i => (i.zero, i.size, i.bytes)) = some (some (.int .u8 0), 1, 1) := by kernel_rfl
theorem info9 : (Tryz.prog.info? 9).map (fun i => (i.zero, i.size, i.bytes)) = some (some (.string ⟨#[]⟩), 1, 16) := by kernel_rfl
theorem info27 : (Tryz.prog.info? 27).map (fun i => (i.zero, i.size, i.bytes)) = some (some (.slice none 0 0), 1, 24) := by kernel_rfl
theorem info71 : (Tryz.prog.info? 71).map (fun i => (i.zero, i.size, i.bytes)) = some (some (.agg #[(.int .i64 0), (.int .i64 0)]), 2, 16) := by kernel_rfl
-- the values' own types
def rd_L3 (xs : List (List Int)) (i : Int) : (List Int) := xs.getD i.toNat ([] : List Int)
theorem at_L3 {w : World} {A : Option Addr} {n : Nat} {xs : List (List Int)} (h : Kd.C (Kd.slice 3 (Kd.int .i64)) w A n xs) (i : Int) (h0 : 0 ≤ i) (h1 : i < n) : ∃ ad A0 c0, A = some ad ∧ w.cell? (ad.add i.toNat) = some (.slice A0 (rd_L3 xs i).length c0) ∧ (rd_L3 xs i).length ≤ c0 ∧ (Kd.int .i64).C w A0 (rd_L3 xs i).length (rd_L3 xs i) := by
 obtain ⟨ad, c, e, _, hK, hc0⟩ := Kd.C_get h ([] : List Int) i h0 h1
 have hc : ∀ j u, c[j]? = some u → w.cell? (ad.add (i.toNat * 1 + j)) = some u := hc0
 obtain ⟨A0, c0, rfl, l0, g0⟩ := hK
 exact ⟨ad, A0, c0, e, by have hq := hc 0 _ rfl; rwa [Nat.mul_one, Nat.add_zero] at hq, l0, g0⟩

structure S71 where
 f0 : Int
 f1 : Int
def z71 : S71 := ⟨(0 : Int), (0 : Int)⟩
def k71 : Kd S71 := Kd.iso (Kd.pair (Kd.int .i64) (Kd.int .i64)) (fun x : S71 => (x.f0, x.f1))
theorem k71_open {w : World} {x : S71} {cs : List Value} (h : k71.K w x cs) : cs = [.int .i64 x.f0, .int .i64 x.f1] := by
 obtain ⟨_, _, rfl, rfl, rfl⟩ := h
 exact rfl
theorem k71_mkM (w : World) (base : Nat) (ok : Nat → Prop) (x : S71)  : k71.M w base ok x [.int .i64 x.f0, .int .i64 x.f1] := ⟨[.int .i64 x.f0], [.int .i64 x.f1], rfl, rfl, rfl⟩
def rd_T71 (xs : List S71) (i : Int) : S71 := xs.getD i.toNat z71
theorem at_T71 {w : World} {A : Option Addr} {n : Nat} {xs : List S71} (h : Kd.C k71 w A n xs) (i : Int) (h0 : 0 ≤ i) (h1 : i < n) : ∃ ad , A = some ad ∧ w.cell? (ad.add (i.toNat * 2)) = some (.int .i64 (rd_T71 xs i).f0) ∧ w.cell? ⟨(ad.add (i.toNat * 2)).block, (ad.add (i.toNat * 2)).off + 1, none⟩ = some (.int .i64 (rd_T71 xs i).f1) := by
 obtain ⟨ad, c, e, _, hK, hc0⟩ := Kd.C_get h z71 i h0 h1
 have hc : ∀ j u, c[j]? = some u → w.cell? (ad.add (i.toNat * 2 + j)) = some u := hc0
 obtain rfl := k71_open hK
 exact ⟨ad, e, hc 0 _ rfl, by rw [← add_field _ _ 1 (by omega)]; exact hc 1 _ rfl⟩

section
open Go Go.Shelf Go.Proofs.YtmehagedoaopeaaGreatGp
attribute [local go_sem] Oper.semAt_some
theorem add_block (ad : Addr) (k : Nat) : (ad.add k).block = ad.block := by unfold Addr.add; split <;> rfl
theorem Backward.calls (A : Option Addr) (n c : Nat) (w : World) : Calls Tryz.prog 28 #[.slice A n c] w fun e w' => ∃ g, w.heap.size = g ∧ e = .returned (.func (.func 66) #[] #[.pointer (some ⟨g, 0, none⟩)]) ∧ w'.heap[g]? = some (.cells #[.slice A n c] 38 (0, 0)) ∧ Below w.heap.size w w' := by
  go_enter Tryz.func28, Tryz.ntmps28
  go_wp2
  go_ret
  exact ⟨_, rfl, rfl, World.alloc_heap_new w _, (Below.refl _ _).alloc (Nat.le_refl _) _⟩
def backTo (xs : List S71) (k : Nat) : List (Nat × S71) := (List.range k).map fun j => (xs.length - 1 - j, xs[xs.length - 1 - j]?.getD z71)
theorem backTo_succ (xs : List S71) (k : Nat) : backTo xs (k + 1) = backTo xs k ++ [(xs.length - 1 - k, xs[xs.length - 1 - k]?.getD z71)] := by simp [backTo, List.range_succ]
theorem backTo_length (xs : List S71) (k : Nat) : (backTo xs k).length = k := by simp [backTo]
def encBack (x : Nat × S71) : Array Value := #[.int .i64 (x.1 : Int), .agg #[.int .i64 x.2.f0, .int .i64 x.2.f1]]

set_option maxRecDepth 100000 in
set_option maxHeartbeats 2000000 in
theorem back1_in (F : Fence) (n : Nat) (hf : F.fn 66) (hro : F.round = none) (hn : 1 ≤ n) (l Bs : Nat) (ok : Nat → Prop) (A : Option Addr) (c : Nat) (xs : List S71) (hreach : (xs.length : Int) ≤ 17592186044416) (hBn : ok Bs) (hA : ∀ ad, A = some ad → ok ad.block) (J Jx : List (Nat × S71) → World → Prop)
    (hY : ∀ pre x W, J pre W → pre.length < xs.length → x.1 < xs.length → x.2 = xs[x.1]?.getD z71 → YieldAt F (n - 1) Tryz.prog l (encBack x) W fun e W' =>
      (e = .returned (.bool true) ∧ J (pre ++ [x]) W' ∧ Keeps ok W W') ∨ (e = .returned (.bool false) ∧ Jx (pre ++ [x]) W'))
    (W : World) (hBs : W.cell? ⟨Bs, 0, none⟩ = some (.slice A xs.length c)) (hc : ∀ j, j < xs.length → ∃ ad : Addr, A = some ad ∧ W.cell? (ad.add (j * 2)) = some (.int .i64 (xs[j]?.getD z71).f0) ∧ W.cell? ⟨(ad.add (j * 2)).block, (ad.add (j * 2)).off + 1, none⟩ = some (.int .i64 (xs[j]?.getD z71).f1)) (h0 : J [] W) :
    CallsIn F n Tryz.prog 66 #[.func (.yield l) #[] #[], .pointer (some ⟨Bs, 0, none⟩)] W fun e W' => (∃ v, e = .returned v) ∧
      ((∃ ys, ys = backTo xs xs.length ∧ J ys W') ∨ (∃ pre, (∃ k, k ≤ xs.length ∧ pre = backTo xs k) ∧ Jx pre W')) := by
  refine callsIn_of_wp Tryz.func66 rfl hf ?_ hro
  simp only [Tryz.ntmps66, List.size_toArray, List.length_cons, List.length_nil, Nat.reduceAdd, Nat.reduceSub, Array.replicate_succ, Array.replicate_zero, List.push_toArray, List.append_toArray, List.nil_append, List.cons_append]
  gi_wp2
  gi_loopw [3] (fun i wr => ∃ k j : Nat, k + j = xs.length ∧ i = .int .i64 ((j : Int) - 1) ∧ J (backTo xs k) wr ∧ Keeps ok W wr)
    (fun i _ => (intOf i + 1).toNat)
  case atStart => exact ⟨0, xs.length, by omega, by go_num, h0, Keeps.refl _ _⟩
  case round =>
    obtain ⟨k, j, hkj, rfl, hJs, hnx⟩ := hrel
    have hBs' := (hnx.cell (p := ⟨Bs, 0, none⟩) hBn).trans hBs
    cases j with
    | zero =>
      obtain rfl : k = xs.length := by omega
      gi_wp2
      go_end0
      exact ⟨⟨_, rfl⟩, .inl ⟨_, rfl, hJs⟩⟩
    | succ m =>
      rw [show (((m + 1 : Nat) : Int) - 1) = (m : Int) from by omega]
      have hm : xs.length - 1 - k = m := by omega
      obtain ⟨ad, rfl, hc0, hc1⟩ := hc m (by omega)
      have hbn : ok (ad.add (m * 2)).block := (add_block ad _).symm ▸ hA ad rfl
      have hx0 := (hnx.cell (p := ad.add (m * 2)) hbn).trans hc0
      have hx1 := (hnx.cell (p := ⟨(ad.add (m * 2)).block, (ad.add (m * 2)).off + 1, none⟩) hbn).trans hc1
      obtain ⟨fn, tmps, assign, body, hy, hR⟩ := hY _ (m, xs[m]?.getD z71) wr hJs (by rw [backTo_length]; omega) (by simp only []; omega) rfl
      dsimp only [encBack] at hy
      gi_wp2
      refine hR.mono ?_
      rintro e W3 (⟨rfl, hJ3, hk3⟩ | ⟨rfl, hJx3⟩)
      · gi_wp2
        go_roundw
        case rel => exact ⟨k + 1, m, by omega, by go_num, by rw [backTo_succ, hm]; exact hJ3, hnx.trans hk3⟩
        case measure => simp [intOf]
      · gi_wp2
        refine bodyPost_ret (results_none rfl _ _ _) rfl ?_
        exact ⟨⟨_, rfl⟩, .inr ⟨_, ⟨k + 1, by omega, by rw [backTo_succ, hm]⟩, hJx3⟩⟩
abbrev BackE (xs : List S71) := { x : Nat × S71 // x.1 < xs.length ∧ x.2 = xs[x.1]?.getD z71 }
theorem back_stops (F : Fence) (n : Nat) (hf : F.fn 66) (hro : F.round = none) (hn : 1 ≤ n) (Bs : Nat) (ok : Nat → Prop) (A : Option Addr) (c : Nat) (xs : List S71) (hreach : (xs.length : Int) ≤ 17592186044416) (hBn : ok Bs) (hA : ∀ ad, A = some ad → ok ad.block) (w : World) (hlt : ∀ k, ok k → k < w.heap.size)
    (hBs : w.cell? ⟨Bs, 0, none⟩ = some (.slice A xs.length c)) (hc : ∀ j, j < xs.length → ∃ ad : Addr, A = some ad ∧ w.cell? (ad.add (j * 2)) = some (.int .i64 (xs[j]?.getD z71).f0) ∧ w.cell? ⟨(ad.add (j * 2)).block, (ad.add (j * 2)).off + 1, none⟩ = some (.int .i64 (xs[j]?.getD z71).f1)) :
    SeqStopsK F n Tryz.prog 66 #[.pointer (some ⟨Bs, 0, none⟩)] (fun x : BackE xs => encBack x.1) (Keeps ok) (fun ys => ys.map Subtype.val = backTo xs xs.length) (fun _ => True) xs.length w := fun l J Jx W hW _ _ hY h0 => by
  have hW' : Keeps ok w W := fun k hk => hW.block k (hlt k hk)
  refine (back1_in F n hf hro hn l Bs ok A c xs hreach hBn hA (fun pre W => ∃ q : List (BackE xs), q.map Subtype.val = pre ∧ J q W) (fun pre W => ∃ q : List (BackE xs), q.map Subtype.val = pre ∧ Jx q W) ?_ W ((hW'.cell (p := ⟨Bs, 0, none⟩) hBn).trans hBs)
    (fun j hj => by obtain ⟨ad, e, h1, h2⟩ := hc j hj; exact ⟨ad, e, (hW'.cell (p := ad.add (j * 2)) ((add_block ad _).symm ▸ hA ad e)).trans h1, (hW'.cell (p := ⟨(ad.add (j * 2)).block, (ad.add (j * 2)).off + 1, none⟩) ((add_block ad (j * 2)).symm ▸ hA ad e)).trans h2⟩) ⟨[], rfl, h0⟩).mono ?_
  · rintro pre x W1 ⟨q, rfl, hq⟩ hlen h1 h2
    obtain ⟨fn, tmps, assign, body, hy, hR⟩ := hY q ⟨x, h1, h2⟩ W1 hq (by simpa using hlen)
    refine ⟨fn, tmps, assign, body, hy, hR.mono ?_⟩
    rintro e W' (⟨he, hj, hk⟩ | ⟨he, hj⟩)
    · exact .inl ⟨he, ⟨_, by simp, hj⟩, hk⟩
    · exact .inr ⟨he, ⟨_, by simp, hj⟩⟩
  · rintro e W' ⟨he, ⟨ys, rfl, q, hq, hj⟩ | ⟨pre, _, q, hq, hj⟩⟩
    · exact ⟨he, .inl ⟨q, hq, hj⟩⟩
    · exact ⟨he, .inr ⟨q, trivial, hj⟩⟩

theorem grown_trans {A B C : World} {g : Nat} {row : Option Nat} (h : A.grownBy B (some g)) (h' : B.grownBy C row) (hr : ∀ r, row = some r → r = g ∨ A.heap.size ≤ r) : A.grownBy C (some g) :=
  ⟨h'.os.trans h.os, h'.tape.trans h.tape, h'.output.trans h.output, Nat.le_trans h.size h'.size, fun k hk hne => (h'.block k (Nat.lt_of_lt_of_le hk h.size) (fun e => by
    rcases hr k e.symm with rfl | h2
    · exact hne rfl
    · omega)).trans (h.block k hk hne)⟩
theorem grown_drew {A B : World} {row : Option Nat} (h : A.grownBy B row) : A.grownBy B.drew row := ⟨h.os, h.tape, h.output, h.size, h.block⟩
theorem grown_drewN {A B : World} {row : Option Nat} (h : A.grownBy B row) : ∀ m, A.grownBy (B.drewN m) row
  | 0 => h
  | m + 1 => grown_drew (grown_drewN h m)
theorem grown_set {A B : World} {g : Nat} (h : A.grownBy B (some g)) (j : Nat) (u : Value) : A.grownBy (B.setCell ⟨g, j, none⟩ u) (some g) := grown_trans h (row := some g) ⟨rfl, rfl, rfl, by simp, fun k _ hk => Below.heap_setCell B ⟨g, j, none⟩ u k (fun e => hk (by rw [e]))⟩ (fun r e => .inl (Option.some.inj e).symm)
theorem box_two {W w1 : World} {g t : Nat} {a b : Int} (hg : g = W.heap.size) (hb : Below W.heap.size W w1) (hx : w1.heap[g]? = some (.cells #[.int .i64 0, .int .i64 0] t (0, 0))) :
    W.grownBy ((w1.setCell ⟨g, 0, none⟩ (.int .i64 a)).setCell ⟨g, 1, none⟩ (.int .i64 b)) none ∧ ((w1.setCell ⟨g, 0, none⟩ (.int .i64 a)).setCell ⟨g, 1, none⟩ (.int .i64 b)).heap[g]? = some (.cells #[.int .i64 a, .int .i64 b] t (0, 0)) := by
  refine ⟨⟨hb.os, hb.tape, hb.output, by simp; exact hb.size, fun k hk _ => ?_⟩, ?_⟩
  · exact (Below.heap_setCell _ ⟨g, 1, none⟩ _ k (fun e => by simp only at e; omega)).trans ((Below.heap_setCell _ ⟨g, 0, none⟩ _ k (fun e => by simp only at e; omega)).trans (hb.block k hk))
  · refine blk_put (cs := #[.int .i64 a, .int .i64 0]) ?_ 1 _ rfl
    exact blk_put (cs := #[.int .i64 0, .int .i64 0]) hx 0 _ rfl
theorem backTo_fold (xs : List S71) : (backTo xs xs.length).map Prod.snd = xs.reverse := by
  apply List.ext_getElem
  · simp [backTo]
  · intro i h1 h2
    simp only [backTo, List.map_map, List.length_map, List.length_range] at h1
    have hi : xs.length - 1 - i < xs.length := by omega
    simp [backTo, hi]
theorem R_only {e base : Nat} {v : Value} {xs : List Int} {w w1 : World} {g : Nat} (h : Kd.R (Kd.int .i64) e w base (fun k => k = g) v xs) {row : Option Nat} (hg : w.grownBy w1 row) (hr : ∀ r, row = some r → r ≠ g) : Kd.R (Kd.int .i64) e w1 base (fun k => k = g) v xs :=
  Kd.R_step h (fun k hk hlt => hg.block k hlt (fun e => hr k e.symm hk))
set_option maxRecDepth 100000 in
set_option maxHeartbeats 2000000 in
theorem range_back {g : Operand} {p1 p2 : Tmp} {assign body : Code} {Q : Exit → Act → World → Prop} {a : Act} {w : World} (xs : List S71) (Bs : Nat) (A : Option Addr) (c gm co base : Nat) (m0 : List Int)
    (hg : a.eval g = .func (.func 66) #[] #[.pointer (some ⟨Bs, 0, none⟩)]) (hreach : (xs.length : Int) ≤ 17592186044416)
    (hB : w.heap[Bs]? = some (.cells #[.slice A xs.length c] 38 (0, 0))) (hX : Kd.R k71 71 w base (fun k => k ≠ gm) (.slice A xs.length c) xs) (hgm : gm < w.heap.size) (hne : Bs ≠ gm)
    (hM : Kd.R (Kd.int .i64) 3 w base (fun k => k = gm) (.slice (some ⟨gm, 0, none⟩) m0.length co) m0)
    (step : List Int → S71 → List Int) (iv : Tmp)
    (hassign : ∀ (l : Nat) (j : Nat) (s : S71) (W : World) (K : Act → World → Prop), (∀ gb W', gb = W.heap.size → W.grownBy W' none → W'.heap[gb]? = some (.cells #[.int .i64 s.f0, .int .i64 s.f1] 71 (0, 0)) → K { tmps := ((a.tmps.setIfInBounds p1 (.int .i64 ((j : Nat) : Int))).setIfInBounds p2 (.agg #[.int .i64 s.f0, .int .i64 s.f1])).setIfInBounds iv (.pointer (some ⟨gb, 0, none⟩)), defers := [] } W') →
      assign.wpIn (Fence.wide.inRound l) 7 Tryz.prog (Exit.then K (fun _ _ _ => False)) { tmps := (a.tmps.setIfInBounds p1 (.int .i64 ((j : Nat) : Int))).setIfInBounds p2 (.agg #[.int .i64 s.f0, .int .i64 s.f1]), defers := [] } W)
    (hbody : ∀ (l : Nat) (m : List Int) (j : Nat) (s : S71) (gb : Nat) (W : World), s ∈ xs → m.length = m0.length → w.grownBy W (some gm) → w.heap.size ≤ gb → W.heap[gb]? = some (.cells #[.int .i64 s.f0, .int .i64 s.f1] 71 (0, 0)) →
      Kd.R (Kd.int .i64) 3 W base (fun k => k = gm) (.slice (some ⟨gm, 0, none⟩) m.length co) m →
      body.wpIn (Fence.wide.inRound l) 7 Tryz.prog (fun e _ W' => e = .normal ∧ W.grownBy W' (some gm) ∧ (step m s).length = m0.length ∧ Kd.R (Kd.int .i64) 3 W' base (fun k => k = gm) (.slice (some ⟨gm, 0, none⟩) m.length co) (step m s)) { tmps := ((a.tmps.setIfInBounds p1 (.int .i64 ((j : Nat) : Int))).setIfInBounds p2 (.agg #[.int .i64 s.f0, .int .i64 s.f1])).setIfInBounds iv (.pointer (some ⟨gb, 0, none⟩)), defers := [] } W)
    (hdone : ∀ (D : Nat) (m : List Int) (W : World), w.heap.size ≤ D → m = xs.foldr (fun s m => step m s) m0 → m.length = m0.length → w.grownBy W (some gm) → Kd.R (Kd.int .i64) 3 W base (fun k => k = gm) (.slice (some ⟨gm, 0, none⟩) m.length co) m → W.heap[D]? = some (.deferred (some [])) →
      Q .normal { a with defers := { target := .collected D, args := #[] } :: a.defers } W) :
    (Code.rangeFunc g #[p1, p2] assign body).wp Tryz.prog Q a w := by
  have hlt : ∀ k, ((∃ ad, A = some ad ∧ k = ad.block) ∨ k = Bs) → k < w.heap.size ∧ k ≠ gm := by
    rintro k (⟨ad, rfl, rfl⟩ | rfl)
    · obtain ⟨g, rfl⟩ := Kd.R_head hX
      have hk : (Value.slice (some ⟨g, 0, none⟩) xs.length c).ownBlock = some g := by simp [Value.ownBlock]
      exact ⟨Kd.R_lt hX g hk, hX.1 g hk⟩
    · exact ⟨(Array.getElem?_eq_some_iff.1 hB).1, hne⟩
  refine (wpIn_wide (n := 9)).1 (wpIn_rangeFunc_ownH (α := BackE xs) (F := Fence.wide) rfl (by omega) (gf := 66) (lb := #[.pointer (some ⟨Bs, 0, none⟩)]) hg trivial (enters_of Tryz.func66 (by kernel_rfl) rfl)
    (back_stops Fence.wide 8 trivial rfl (by omega) Bs (fun k => (∃ ad, A = some ad ∧ k = ad.block) ∨ k = Bs) A c xs hreach (.inr rfl) (fun ad e => .inl ⟨ad, e, rfl⟩) w (fun k hk => (hlt k hk).1) (cz ⟨hB⟩ 0) ?hc)
    (fun {_ _ _} h h' => h.trans h') (fun W l o o' hl ho h1 _ => Keeps.put (fun hk => by have := (hlt l hk).1; omega)) (Below.refl _ _) (fun (x : BackE xs) => by simp [encBack])
    (fun (pre : List (BackE xs)) W => ∃ m, m = pre.foldl (fun m x => step m x.1.2) m0 ∧ m.length = m0.length ∧ w.grownBy W (some gm) ∧ Kd.R (Kd.int .i64) 3 W base (fun k => k = gm) (.slice (some ⟨gm, 0, none⟩) m.length co) m) (fun _ _ _ => False)
    ?hI (fun _ _ _ _ _ h _ _ => h.elim) ⟨m0, rfl, rfl, ⟨rfl, rfl, rfl, Nat.le_refl _, fun _ _ _ => rfl⟩, hM⟩
    (fun (x : BackE xs) a' W => ∃ gb, w.heap.size ≤ gb ∧ W.heap[gb]? = some (.cells #[.int .i64 x.1.2.f0, .int .i64 x.1.2.f1] 71 (0, 0)) ∧ a' = { tmps := ((a.tmps.setIfInBounds p1 (.int .i64 ((x.1.1 : Nat) : Int))).setIfInBounds p2 (.agg #[.int .i64 x.1.2.f0, .int .i64 x.1.2.f1])).setIfInBounds iv (.pointer (some ⟨gb, 0, none⟩)), defers := [] }) ?hAx ?assign ?body ?done (fun _ _ _ _ _ _ h _ => h.elim))
  case hc =>
    intro j hj
    obtain ⟨ad, e, h0, h1⟩ := at_T71 (Kd.R_reads' hX).2.2 (j : Int) (by omega) (by omega)
    have hr : rd_T71 xs (j : Int) = xs[j]?.getD z71 := by simp [rd_T71]
    rw [hr, Int.toNat_natCast] at h0 h1
    exact ⟨ad, e, h0, h1⟩
  case hI =>
    rintro pre W W' row ⟨m, e, hl, hG, hR⟩ hg' hrow
    exact ⟨m, e, hl, grown_trans hG hg' (fun r er => .inr (hrow r er).1), R_only hR hg' (fun r er => by have := (hrow r er).1; omega)⟩
  case hAx =>
    rintro x a' _ W W' row ⟨gb, h0, h1, h2⟩ hg' hrow
    refine ⟨gb, h0, (hg'.block gb (Array.getElem?_eq_some_iff.1 h1).1 (fun er => ?_)).trans h1, h2⟩
    obtain ⟨_, o, ho, hc⟩ := hrow gb er.symm
    rw [h1] at ho
    cases ho
    cases hc
  case assign =>
    rintro l pre x W K ⟨m, e, hl, hG, hR⟩ hK
    have hz : ((#[p1, p2] : Array Tmp).zip (encBack x.1)).foldl (fun t (p, v) => t.setIfInBounds p v) a.tmps = (a.tmps.setIfInBounds p1 (.int .i64 ((x.1.1 : Nat) : Int))).setIfInBounds p2 (.agg #[.int .i64 x.1.2.f0, .int .i64 x.1.2.f1]) := by simp [encBack]
    rw [hz]
    refine hassign l x.1.1 x.1.2 W K (fun gb W' hgb hg' hb => hK _ _ ⟨hg'.size, fun k o hk ho _ => (hg'.block k (Array.getElem?_eq_some_iff.1 ho).1 (by simp)).trans ho⟩
      (fun k hk => hg'.block k (Nat.lt_of_lt_of_le (hlt k hk).1 hG.size) (by simp)) ⟨m, e, hl, grown_trans hG hg' (by simp), R_only hR hg' (by simp)⟩ ⟨gb, by rw [hgb]; exact hG.size, hb, rfl⟩)
  case body =>
    rintro l pre x a' W _ _ ⟨m, e, hl, hG, hR⟩ ⟨gb, h0, h1, rfl⟩ _
    have hmem : x.1.2 ∈ xs := by
      rw [x.2.2, List.getElem?_eq_getElem x.2.1]
      exact List.getElem_mem x.2.1
    refine wpIn_mono (hbody l m x.1.1 x.1.2 gb W hmem hl hG h0 h1 hR) ?_
    rintro e' a'' W' ⟨rfl, hg', hl', hR'⟩
    refine ⟨⟨hg'.size, fun k o hk ho _ => (hg'.block k (Array.getElem?_eq_some_iff.1 ho).1 (by rintro ⟨⟩; omega)).trans ho⟩, fun k hk => hg'.block k (Nat.lt_of_lt_of_le (hlt k hk).1 hG.size) (fun er => (hlt k hk).2 (Option.some.inj er)), step m x.1.2, by rw [List.foldl_append, ← e]; rfl, hl', grown_trans hG hg' (fun r er => .inl (Option.some.inj er).symm), ?_⟩
    rw [show (step m x.1.2).length = m.length from hl'.trans hl.symm]
    exact hR'
  case done =>
    rintro D ys W hD hS ⟨m, e, hl, hG, hR⟩ hK
    refine hdone D m W hD ?_ hl hG hR hK
    rw [e, ← List.foldl_reverse, ← backTo_fold, ← hS, List.map_map, List.foldl_map]
    rfl
end
end Go.Proofs.YtmehagedoaopeaaGreat.PZ
