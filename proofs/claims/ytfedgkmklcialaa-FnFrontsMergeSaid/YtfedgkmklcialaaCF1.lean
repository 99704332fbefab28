import Derived.Laws.Strings
import Derived.Tactics
import Derived.Lib.LazyBuf
import Derived.Test.YtfedgkmklcialaaCF0
import Derived.WalkKit
import Derived.KernelRfl
import Derived.Test.YtfedgkmklcialaaProg
import Derived.Shelf.Lay
import Derived.Shelf.Sort.Plain
import Derived.Shelf.Slices.In.SortNone
import Derived.Sort.OwnSorted
import Derived.Sort.EveryDepth
import Derived.Ground.NamesProg
import Derived.Shelf.Slices.CompactS
import Derived.Lib.RowBridge
import Derived.Below
import Derived.Deep.Draws
import Derived.Deep.AppendLies
import Derived.Maps.AppendAt
import Derived.OwnWalk
import Derived.Laws.BytesArg
import Derived.Laws.MakeOwn
import Derived.Laws.OwnMore
import Derived.Deep.OwnRows
import Derived.Lib.ConvBytes
import Derived.Laws.Slices
import Derived.RowKit3
import Derived.Deep.LoopGhost
import Derived.Deep.QuietTactic
import Derived.BigQuiet
import Derived.WideLaws
import Derived.Deep.DeepCutAuto
import Derived.Deep.CutBlock
import Derived.Deep.RegionHeld3
import Derived.Laws.Rows
import Derived.Lib.AppendStr
import Derived.ArgAppend
import Derived.Laws.IdiomCopy
import Derived.OrdersHeld
import Derived.Laws.BitsLemmas
import Derived.RowKit
namespace Go.Proofs.YtfedgkmklcialaaGp
open Go

theorem str_geq (t : TypeId) (a b : ByteArray) : binOp .geq t (.string a) (.string b) = pure (.bool !(Op.bytesLess a.toList b.toList)) := by simp [binOp, Op.stringOp]

theorem bl_irrefl : ∀ l : List UInt8, Op.bytesLess l l = false
  | [] => by simp [Op.bytesLess]
  | a :: l => by simp [Op.bytesLess, bl_irrefl l]

theorem bl_total : ∀ a b : List UInt8, (Op.bytesLess a b || a == b) = !(Op.bytesLess b a)
  | [], [] => by simp [Op.bytesLess]
  | [], b :: l => by simp [Op.bytesLess]
  | a :: l, [] => by simp [Op.bytesLess]
  | a :: l, b :: m => by
    have ih := bl_total l m
    simp only [Op.bytesLess, List.cons_beq_cons]
    by_cases h1 : a < b
    · have h2 : ¬ b < a := fun h => absurd (UInt8.lt_iff_toNat_lt.mp h1) (by have := UInt8.lt_iff_toNat_lt.mp h; omega)
      have h3 : ¬ b = a := fun h => by subst h; exact h2 h1
      simp [h1, h2, h3]
    · by_cases h2 : b < a
      · have h3 : ¬ a = b := fun h => by subst h; exact h1 h2
        simp [h1, h2, h3]
      · have h3 : a = b := by
          apply UInt8.toNat_inj.mp
          have := mt UInt8.lt_iff_toNat_lt.mpr h1; have := mt UInt8.lt_iff_toNat_lt.mpr h2; omega
        subst h3
        simpa using ih

theorem str_gtr (t : TypeId) (a b : ByteArray) : binOp .gtr t (.string a) (.string b) = pure (.bool (Op.bytesLess b.toList a.toList)) := by
  have h := bl_total a.toList b.toList
  have e : binOp .gtr t (.string a) (.string b) = pure (.bool !(Op.bytesLess a.toList b.toList || a.toList == b.toList)) := by simp [binOp, Op.stringOp]
  rw [e, h, Bool.not_not]
theorem str_leq (t : TypeId) (a b : ByteArray) : binOp .leq t (.string a) (.string b) = pure (.bool !(Op.bytesLess b.toList a.toList)) := by
  have h := bl_total a.toList b.toList
  have e : binOp .leq t (.string a) (.string b) = pure (.bool (Op.bytesLess a.toList b.toList || a.toList == b.toList)) := by simp [binOp, Op.stringOp]
  rw [e, h]

section
open Go.Proofs.YtfedgkmklcialaaW.PrintLast
variable {P : Program} {ops : Array Oper} {Q : Exit → Act → World → Prop}
end

section
open Go.Proofs.YtfedgkmklcialaaW.PrintWords
end

end Go.Proofs.YtfedgkmklcialaaGp
namespace Go.Proofs.YtfedgkmklcialaaSq
open Go Go.RowKit Go.Proofs.YtfedgkmklcialaaW.PrintWords Go.Proofs.YtfedgkmklcialaaW.PrintLast

class Stp (W W' : World) : Prop where
  out : Below W.heap.size W W'
instance Stp.rfl_ (W : World) : Stp W W := ⟨Below.refl _ _⟩
instance Stp.alloc_ (W W' : World) (o : Obj) [h : Stp W W'] : Stp W (W'.alloc o) := ⟨below_alloc h.out o⟩
instance Stp.drewN_ (W W' : World) (n : Nat) [h : Stp W W'] : Stp W (W'.drewN n) := ⟨pw_below_drewN h.out n⟩
instance Stp.drewA_ (W w : World) (k n : Nat) [h : Stp W (w.drewN k)] : Stp W (w.drewN (k + n)) := ⟨by rw [← World.drewN_drewN]; exact pw_below_drewN h.out n⟩
instance Stp.drew_ (W W' : World) [h : Stp W W'] : Stp W W'.drew := ⟨below_drew h.out⟩
section
variable {α : Type} {d : Kd α} {e base n : Nat} {ok : Nat → Prop} {u v : Value} {xs : List α} {w W0 W W1 : World} {A : Option Addr} {g : Nat} {o : Obj}
theorem Rz [h' : Stp W0 W] (h : d.R e W0 base ok v xs) : d.R e W base ok v xs := Kd.R_below h h'.out
theorem Kz [h' : Stp W0 W] (h : W0.heap[g]? = some o) : W.heap[g]? = some o := blk_below h h'.out
theorem Bz [h' : Stp W0 W] (h : Below w.heap.size w W0) : Below w.heap.size w W := below_step h h'.out
theorem Bq (h : Below w.heap.size w W := by repeat (first | (with_reducible (refine Aside0.out ?_; assumption)) | (with_reducible apply below_alloc) | (with_reducible apply pw_below_drewN) | (with_reducible apply below_drew1) | ((with_reducible refine below_set ?_ ?_); rotate_left; (with_reducible (refine Aside0.out ?_; assumption))))) : Below w.heap.size w W := h
theorem Cz [h' : Stp W0 W] (h : d.C W0 A n xs) : d.C W A n xs := Kd.C_below h h'.out
theorem Rb [Stp W0 W] (h : Aside0 (d.R e W0 base ok v xs)) (hb : Below W.heap.size W W1) : Aside0 (d.R e W1 base ok v xs) := ⟨Kd.R_below (Rz h.out) hb⟩
theorem Kb [Stp W0 W] (h : Aside0 (W0.heap[g]? = some o)) (hb : Below W.heap.size W W1) : Aside0 (W1.heap[g]? = some o) := ⟨blk_below (Kz h.out) hb⟩
theorem Bb [Stp W0 W] (h : Aside0 (Below w.heap.size w W0)) (hb : Below W.heap.size W W1) : Aside0 (Below w.heap.size w W1) := ⟨below_step (Bz h.out) hb⟩
theorem Re [Stp W0 W] (h : Aside0 (d.R e W0 base ok u xs)) (hv : ∀ k, v.ownBlock = some k → W.heap.size ≤ k) (hb : Below W.heap.size W W1) : Aside0 (d.R e W1 base (fun k => ok k ∧ some k ≠ v.ownBlock) u xs) := ⟨Kd.R_elder' (Rz h.out) hv hb⟩
theorem Rl [Stp W0 W] (h : d.R e W1 W.heap.size ok v xs) (hb : Aside0 (Below w.heap.size w W0)) : Aside0 (d.R e W1 w.heap.size ok v xs) := ⟨Kd.R_lower h (below_size (Bz hb.out))⟩
theorem Gl [Stp W0 W] (hb : Aside0 (Below w.heap.size w W0)) (hg : g = W.heap.size) : Aside0 (w.heap.size ≤ g) := ⟨by rw [hg]; exact below_size (Bz hb.out)⟩
theorem Bc (_h : Aside0 (Below w.heap.size w W0)) (hb : Below W.heap.size W W1) (h : Below w.heap.size w W := by repeat (first | (with_reducible (refine Aside0.out ?_; assumption)) | (with_reducible apply below_alloc) | (with_reducible apply pw_below_drewN) | (with_reducible apply below_drew1) | ((with_reducible refine below_set ?_ ?_); rotate_left; (with_reducible (refine Aside0.out ?_; assumption))))) : Aside0 (Below w.heap.size w W1) := ⟨below_step h hb⟩
theorem Rm (h' : d.R e W1 W.heap.size ok v xs) (_h : Aside0 (Below w.heap.size w W0)) (h : Below w.heap.size w W := by repeat (first | (with_reducible (refine Aside0.out ?_; assumption)) | (with_reducible apply below_alloc) | (with_reducible apply pw_below_drewN) | (with_reducible apply below_drew1) | ((with_reducible refine below_set ?_ ?_); rotate_left; (with_reducible (refine Aside0.out ?_; assumption))))) : Aside0 (d.R e W1 w.heap.size ok v xs) := ⟨Kd.R_lower h' (below_size h)⟩
theorem Gm (_h : Aside0 (Below w.heap.size w W0)) (hg : g = W.heap.size) (h : Below w.heap.size w W := by repeat (first | (with_reducible (refine Aside0.out ?_; assumption)) | (with_reducible apply below_alloc) | (with_reducible apply pw_below_drewN) | (with_reducible apply below_drew1) | ((with_reducible refine below_set ?_ ?_); rotate_left; (with_reducible (refine Aside0.out ?_; assumption))))) : Aside0 (w.heap.size ≤ g) := ⟨by rw [hg]; exact below_size h⟩
theorem Nl [Stp W0 W] {g' : Nat} (h : Aside0 (W0.heap[g]? = some o)) (hg : g' = W.heap.size) : Aside0 (g ≠ g') := ⟨by rw [hg]; exact Nat.ne_of_lt (blk_lt (Kz (W := W) h.out))⟩
theorem Ng [Stp W0 W] {g' : Nat} (h : Aside0 (W0.heap[g]? = some o)) (hg : g' = W.heap.size) : Aside0 (g' ≠ g) := ⟨by rw [hg]; exact Nat.ne_of_gt (blk_lt (Kz (W := W) h.out))⟩
end

theorem aP : (∀ (a : Act) (d : Tmp) (v : Value), a.put (some d) v = { a with tmps := a.tmps.setIfInBounds d v }) ∧ (∀ (a : Act) (v : Value), a.put none v = a) ∧ (∀ (l : List Value) (i : Nat) (x : Value), l.toArray.setIfInBounds i x = (l.set i x).toArray) ∧ (∀ (x : Value) (xs : List Value) (b : Value), (x :: xs).set 0 b = b :: xs) ∧ (∀ (x : Value) (xs : List Value) (n : Nat) (b : Value), (x :: xs).set (n + 1) b = x :: xs.set n b) := ⟨fun _ _ _ => rfl, fun _ _ => rfl, fun _ _ _ => List.setIfInBounds_toArray _ _ _, fun _ _ _ => List.set_cons_zero, fun _ _ _ _ => List.set_cons_succ⟩
theorem wZ {p : Prop} (h : p := by first | rfl | (simp; done) | (simp [*]; done)) : p := h
theorem eZ {p : Prop} (h : p := by first | rfl | (simp [errW_none, errW_some] <;> rfl) | (simp [*, errW_none, errW_some] <;> rfl)) : p := h
theorem nZ {p : Prop} (h : p := by first | exact Kd.R_nil _ _ _ _ _ | exact Kd.N_nil _ _ _ _ _ | exact Kd.V_nil _ _ _ _ _ | exact Kd.Q_nil _ _ _ _ _ | exact Kd.S_nil _ _ _ _ _) : p := h
theorem yZ {p : Prop} (h : p := by first | exact ⟨rfl, _, World.drewN_drewN _ _ _⟩ | exact ⟨rfl, _, Eq.trans (World.drewN_drewN _ _ _) (congrArg (World.drewN _) (Nat.add_assoc _ _ _))⟩) : p := h
theorem eT (p : Prop) [Decidable p] (h : decide p = true := by first | (with_reducible assumption) | assumption) : p = True := eq_true (of_decide_eq_true h)
theorem am {p : Prop} (h : p) : Aside0 p := ⟨h⟩

section
variable {w : World} {g : Nat} {t : TypeId}
theorem dT {p : Prop} [Decidable p] (h : decide p = true := by first | (with_reducible assumption) | assumption) : p := of_decide_eq_true h
theorem cz {cs : Array Value} {v : Value} (h : Aside0 (w.heap[g]? = some (.cells cs t (0, 0)))) (i : Nat) (hv : cs[i]? = some v := by exact rfl) : w.cell? ⟨g, i, none⟩ = some v := (blk_cell h.out i).trans hv
theorem cf3 {v0 v1 v2 : Value} (h : Aside0 (w.heap[g]? = some (.cells #[v0, v1, v2] t (0, 0)))) : w.cell? ⟨g, 0, none⟩ = some v0 ∧ w.cell? ⟨g, 1, none⟩ = some v1 ∧ w.cell? ⟨g, 2, none⟩ = some v2 ∧ w.frozen? ⟨g, 0, none⟩ = false ∧ w.frozen? ⟨g, 1, none⟩ = false ∧ w.frozen? ⟨g, 2, none⟩ = false := ⟨cz h 0, cz h 1, cz h 2, blk_frozen h.out 0, blk_frozen h.out 1, blk_frozen h.out 2⟩
end

theorem bE {P : Program} {ops : Array Oper} {rest : List Oper} {o : Oper} {a : Act} {Q : Exit → Act → World → Prop} {W : World} (N : Tmp) (cs : Array Value) (t : TypeId)
    (h : ∀ g, g = W.heap.size → ∀ w1, w1.heap[g]? = some (.cells cs t (0, 0)) → Below W.heap.size W w1 → wpList P ops Q rest (a.put o.dst (.pointer (some ⟨g, 0, none⟩))) w1)
    (hg : o.guard = none := by exact rfl) (hd : o.dst = some N := by exact rfl)
    (hr : (execOp a.eval o).run P W = .ok (.value (.pointer (some ⟨W.heap.size, 0, none⟩))) (W.alloc (.cells cs t (0, 0))) := by first | (go_simp; done) | (go_simp; rfl)) : wpList P ops Q (o :: rest) a W := box_event hg hd hr h

def bL : Nat → Nat → List Bool
  | 0, _ => []
  | n + 1, m => (m % 2 == 1) :: bL n (m / 2)
def bA (n m : Nat) : Array Bool := ⟨bL n m⟩

section
variable {P : Program} {md : Region.Mode} {ops : Array Oper} {Q : Exit → Act → World → Prop} {S : World → Prop} {ds : List Nat} {T : Bool × List (List Nat × List Nat)}
theorem pZ (i : Nat) (N : Option Tmp) {oi : Oper} {v : Value} {fuel : Nat} {l : Array Bool} {a a' : Act} {w : World} (l' : Array Bool) (hT : rtab md ops = T) (h : wpAnyLast P md ops Q S ds fuel l' a' w)
    (hi : ops[i]? = some oi := by exact rfl) (hN : oi.dst = N := by exact rfl) (hc : anyT T l.toList l'.toList i = true := by kernel_rfl) (hQ : ∀ c a w, Q (.panic c) (a.put oi.dst v) w → Q (.panic c) a w := by exact fun _ _ _ h => h)
    (hw : Region.wanted oi (yielded ops a.tmps) = true := by exact rfl) (hy : ∀ w, (execOp a.eval oi).run P w = .ok (.value v) w := by intro w'; go_simp; with_reducible rfl)
    (ha : a.put N v = a' := by simp only [Act.put, List.setIfInBounds_toArray, List.set_cons_zero, List.set_cons_succ, i64_w, i32_w]; rfl) : wpAnyLast P md ops Q S ds (fuel + 1) l a w :=
  pure_ l' hi hN (any_of hT hc) hQ (Or.inl ⟨hw, hy⟩) ha h
theorem sZ (i : Nat) (N : Option Tmp) {oi : Oper} {fuel : Nat} {l : Array Bool} {a a' : Act} {w : World} (l' : Array Bool) (hT : rtab md ops = T) (h : wpAnyLast P md ops Q S ds fuel l' a' w)
    (hi : ops[i]? = some oi := by exact rfl) (hN : oi.dst = N := by exact rfl) (hc : anyT T l.toList l'.toList i = true := by kernel_rfl) (hQ : ∀ c a w, Q (.panic c) (a.put oi.dst undef) w → Q (.panic c) a w := by exact fun _ _ _ h => h)
    (hw : Region.wanted oi (yielded ops a.tmps) = false := by exact rfl)
    (ha : a.put N undef = a' := by simp only [Act.put, List.setIfInBounds_toArray, List.set_cons_zero, List.set_cons_succ, i64_w, i32_w]; rfl) : wpAnyLast P md ops Q S ds (fuel + 1) l a w :=
  pure_ l' hi hN (any_of hT hc) hQ (Or.inr ⟨hw, rfl⟩) ha h
theorem tZ2 (i : Nat) (N : Option Tmp) {oi : Oper} {v : Value} {fuel : Nat} {l : Array Bool} {a a' : Act} {w : World} (l' : Array Bool) (hT : rtab md ops = T) {B : List Nat} (hB : waitsOk T.2 B = true) (hS : S w) (h : wpAnyLast P md ops Q S ds fuel l' a' w)
    (hi : ops[i]? = some oi := by exact rfl) (hN : oi.dst = N := by exact rfl) (hc : takeW T B ds l.toList l'.toList i = true := by kernel_rfl) (hQ : ∀ c a w, Q (.panic c) (a.put oi.dst v) w → Q (.panic c) a w := by exact fun _ _ _ h => h)
    (hw : Region.wanted oi (yielded ops a.tmps) = true := by exact rfl) (hy : ∀ w, S w → (execOp a.eval oi).run P w = .ok (.value v) w := by rintro w' ⟨s0, s1⟩; go_simp; with_reducible rfl)
    (ha : a.put N v = a' := by simp only [Act.put, List.setIfInBounds_toArray, List.set_cons_zero, List.set_cons_succ, i64_w, i32_w]; rfl) : wpAnyLast P md ops Q S ds (fuel + 1) l a w :=
  take_ l' hi hN (take_ofW hT hB hc) hQ (Or.inl ⟨hw, hy⟩) hS ha h
theorem tZ3 (i : Nat) (N : Option Tmp) {oi : Oper} {v : Value} {fuel : Nat} {l : Array Bool} {a a' : Act} {w : World} (l' : Array Bool) (hT : rtab md ops = T) {B : List Nat} (hB : waitsOk T.2 B = true) (hS : S w) (h : wpAnyLast P md ops Q S ds fuel l' a' w)
    (hi : ops[i]? = some oi := by exact rfl) (hN : oi.dst = N := by exact rfl) (hc : takeW T B ds l.toList l'.toList i = true := by kernel_rfl) (hQ : ∀ c a w, Q (.panic c) (a.put oi.dst v) w → Q (.panic c) a w := by exact fun _ _ _ h => h)
    (hw : Region.wanted oi (yielded ops a.tmps) = true := by exact rfl) (hy : ∀ w, S w → (execOp a.eval oi).run P w = .ok (.value v) w := by rintro w' ⟨s0, s1, s2⟩; go_simp; with_reducible rfl)
    (ha : a.put N v = a' := by simp only [Act.put, List.setIfInBounds_toArray, List.set_cons_zero, List.set_cons_succ, i64_w, i32_w]; rfl) : wpAnyLast P md ops Q S ds (fuel + 1) l a w :=
  take_ l' hi hN (take_ofW hT hB hc) hQ (Or.inl ⟨hw, hy⟩) hS ha h
theorem tZ4 (i : Nat) (N : Option Tmp) {oi : Oper} {v : Value} {fuel : Nat} {l : Array Bool} {a a' : Act} {w : World} (l' : Array Bool) (hT : rtab md ops = T) {B : List Nat} (hB : waitsOk T.2 B = true) (hS : S w) (h : wpAnyLast P md ops Q S ds fuel l' a' w)
    (hi : ops[i]? = some oi := by exact rfl) (hN : oi.dst = N := by exact rfl) (hc : takeW T B ds l.toList l'.toList i = true := by kernel_rfl) (hQ : ∀ c a w, Q (.panic c) (a.put oi.dst v) w → Q (.panic c) a w := by exact fun _ _ _ h => h)
    (hw : Region.wanted oi (yielded ops a.tmps) = true := by exact rfl) (hy : ∀ w, S w → (execOp a.eval oi).run P w = .ok (.value v) w := by rintro w' ⟨s0, s1, s2, s3⟩; go_simp; with_reducible rfl)
    (ha : a.put N v = a' := by simp only [Act.put, List.setIfInBounds_toArray, List.set_cons_zero, List.set_cons_succ, i64_w, i32_w]; rfl) : wpAnyLast P md ops Q S ds (fuel + 1) l a w :=
  take_ l' hi hN (take_ofW hT hB hc) hQ (Or.inl ⟨hw, hy⟩) hS ha h
theorem tZ6 (i : Nat) (N : Option Tmp) {oi : Oper} {v : Value} {fuel : Nat} {l : Array Bool} {a a' : Act} {w : World} (l' : Array Bool) (hT : rtab md ops = T) {B : List Nat} (hB : waitsOk T.2 B = true) (hS : S w) (h : wpAnyLast P md ops Q S ds fuel l' a' w)
    (hi : ops[i]? = some oi := by exact rfl) (hN : oi.dst = N := by exact rfl) (hc : takeW T B ds l.toList l'.toList i = true := by kernel_rfl) (hQ : ∀ c a w, Q (.panic c) (a.put oi.dst v) w → Q (.panic c) a w := by exact fun _ _ _ h => h)
    (hw : Region.wanted oi (yielded ops a.tmps) = true := by exact rfl) (hy : ∀ w, S w → (execOp a.eval oi).run P w = .ok (.value v) w := by rintro w' ⟨s0, s1, s2, s3, s4, s5⟩; go_simp; with_reducible rfl)
    (ha : a.put N v = a' := by simp only [Act.put, List.setIfInBounds_toArray, List.set_cons_zero, List.set_cons_succ, i64_w, i32_w]; rfl) : wpAnyLast P md ops Q S ds (fuel + 1) l a w :=
  take_ l' hi hN (take_ofW hT hB hc) hQ (Or.inl ⟨hw, hy⟩) hS ha h
theorem oZ (i : Nat) (N : Option Tmp) {oi : Oper} {fuel : Nat} {l : Array Bool} {a : Act} {w : World} (l' : Array Bool) (hT : rtab md ops = T)
    (h : ∀ K : Act → World → Prop, Shut (∀ a' w', S w' → (S w' → wpAnyLast P md ops Q S ds fuel l' a' w') → K a' w') → if Region.wanted oi (yielded ops a.tmps) = true then Oper.wp P oi a w K Q else K (a.put N undef) w)
    (hi : ops[i]? = some oi := by exact rfl) (hN : oi.dst = N := by exact rfl) (hc : (readyT T.2 l.toList == [i] && l.toList.set i true == l'.toList) = true := by kernel_rfl) (hd : i ∉ ds := by decide) : wpAnyLast P md ops Q S ds (fuel + 1) l a w :=
  one_ l' hi hN (one_of hT hc) hd h
theorem lZ (i : Nat) (N : Option Tmp) {oi : Oper} {fuel : Nat} {l : Array Bool} {a : Act} {w : World} (l' : Array Bool) (hT : rtab md ops = T)
    (h : ∀ K : Act → World → Prop, Shut (∀ a' w', wpAnyLast P md ops Q S ds fuel l' a' w' → K a' w') → if Region.wanted oi (yielded ops a.tmps) = true then Oper.wp P oi a w K Q else K (a.put N undef) w)
    (hi : ops[i]? = some oi := by exact rfl) (hN : oi.dst = N := by exact rfl) (hc : (readyT T.2 l.toList == [i] && l.toList.set i true == l'.toList) = true := by kernel_rfl) (hd : i ∈ ds := by decide) : wpAnyLast P md ops Q S ds (fuel + 1) l a w :=
  last_ l' hi hN (one_of hT hc) hd h
theorem gZ {oi : Oper} {N : Option Tmp} {a : Act} {w : World} {K : Act → World → Prop} {f : FuncId} {fn : Func} {as_ : Array Operand} {ts : Array TypeId} (hf : P.funcs[f]? = some fn) (args : Array Value)
    (h : Calls P f args w fun e w' => ∃ v, e = .returned v ∧ K (a.put N v) w') (hname : (fn.name == "runtime.NumGoroutine") = false := by kernel_rfl) (hb : fn.body.isSome = true := by exact rfl)
    (hw : Region.wanted oi (yielded ops a.tmps) = true := by rfl) (hN : oi.dst = N := by exact rfl) (hop : oi.op = .call { callee := .value (.func f), args := as_, argTypes := ts } := by exact rfl)
    (hargs : as_.map a.eval = args := by (try simp only [List.map_toArray, List.map_cons, List.map_nil]); first | done | rfl | (simp only [List.length_drop, List.length_take]; rfl)) :
    if Region.wanted oi (yielded ops a.tmps) = true then Oper.wp P oi a w K Q else K (a.put N undef) w :=
  goes_ hf hname hb args hw hN hop hargs h
theorem gL {rest : List Oper} {oi : Oper} {a : Act} {w : World} (N : Option Tmp) {f : FuncId} {fn : Func} {as_ : Array Operand} {ts : Array TypeId} (hf : P.funcs[f]? = some fn) (args : Array Value)
    (h : Calls P f args w fun e w' => ∃ v, e = .returned v ∧ wpList P ops Q rest (a.put N v) w') (hd : oi.dst = N := by exact rfl) (hg : oi.guard = none := by exact rfl) (hname : (fn.name == "runtime.NumGoroutine") = false := by kernel_rfl) (hb : fn.body.isSome = true := by exact rfl)
    (hop : oi.op = .call { callee := .value (.func f), args := as_, argTypes := ts } := by exact rfl)
    (hargs : as_.map a.eval = args := by (try simp only [List.map_toArray, List.map_cons, List.map_nil]); first | done | rfl | (simp only [List.length_drop, List.length_take]; rfl)) : wpList P ops Q (oi :: rest) a w :=
  goesL_ N hd hg hf hname hb args hop hargs h
end
end Go.Proofs.YtfedgkmklcialaaSq
namespace Go.Proofs
open Go.RowKit Go.Shelf Go.Sort
def Try.laysSort_ren : Go.Shelf.Ren := { f := fun x => match x with | 190 => 59 | 125 => 76 | 258 => 75 | 128 => 90 | 129 => 91 | 302 => 82 | 303 => 83 | 304 => 84 | 305 => 85 | 306 => 86 | 307 => 87 | 308 => 72 | 309 => 88 | 310 => 89 | 333 => 95 | 329 => 96 | 330 => 97 | 334 => 98 | 335 => 99 | 336 => 81 | 344 => 100 | n => n, t := fun x => match x with | 31 => 22 | 9 => 9 | 3 => 3 | 46 => 80 | 0 => 0 | 51 => 97 | 53 => 71 | 4 => 4 | 183 => 91 | 182 => 90 | 131 => 42 | 5 => 5 | 218 => 101 | 222 => 105 | 228 => 107 | 229 => 108 | n => n, g := fun n => n }
set_option maxRecDepth 100000 in
theorem Try.laysSort : Lays.n190 Try.prog Try.laysSort_ren where
  mixed := by kernel_rfl
  f125 := Try.func76.trans (congrArg some (by kernel_rfl))
  f128 := Try.func90.trans (congrArg some (by kernel_rfl))
  f129 := Try.func91.trans (congrArg some (by kernel_rfl))
  f190 := Try.func59.trans (congrArg some (by kernel_rfl))
  f258 := Try.func75.trans (congrArg some (by kernel_rfl))
  f302 := Try.func82.trans (congrArg some (by kernel_rfl))
  f303 := Try.func83.trans (congrArg some (by kernel_rfl))
  f304 := Try.func84.trans (congrArg some (by kernel_rfl))
  f305 := Try.func85.trans (congrArg some (by kernel_rfl))
  f306 := Try.func86.trans (congrArg some (by kernel_rfl))
  f307 := Try.func87.trans (congrArg some (by kernel_rfl))
  f308 := Try.func72.trans (congrArg some (by kernel_rfl))
  f309 := Try.func88.trans (congrArg some (by kernel_rfl))
  f310 := Try.func89.trans (congrArg some (by kernel_rfl))
  f329 := Try.func96.trans (congrArg some (by kernel_rfl))
  f330 := Try.func97.trans (congrArg some (by kernel_rfl))
  f333 := Try.func95.trans (congrArg some (by kernel_rfl))
  f334 := Try.func98.trans (congrArg some (by kernel_rfl))
  f335 := Try.func99.trans (congrArg some (by kernel_rfl))
  f336 := Try.func81.trans (congrArg some (by kernel_rfl))
  f344 := Try.func100.trans (congrArg some (by kernel_rfl))
  t0 := Try.underlying0
  a0 := Try.isAgg0
  z0 := Try.sizeOf0
  v0 := Try.zeroValue0
  t3 := Try.underlying3
  a3 := Try.isAgg3
  z3 := Try.sizeOf3
  v3 := Try.zeroValue3
  t4 := Try.underlying4
  a4 := Try.isAgg4
  z4 := Try.sizeOf4
  v4 := Try.zeroValue4
  t5 := Try.underlying5
  a5 := Try.isAgg5
  z5 := Try.sizeOf5
  v5 := Try.zeroValue5
  t9 := Try.underlying9
  a9 := Try.isAgg9
  z9 := Try.sizeOf9
  v9 := Try.zeroValue9
  t31 := Try.underlying22
  a31 := Try.isAgg22
  z31 := Try.sizeOf22
  v31 := Try.zeroValue22
  t46 := Try.underlying80
  a46 := Try.isAgg80
  z46 := Try.sizeOf80
  v46 := Try.zeroValue80
  t51 := Try.underlying97
  a51 := Try.isAgg97
  z51 := Try.sizeOf97
  v51 := Try.zeroValue97
  t53 := Try.underlying71
  a53 := Try.isAgg71
  z53 := Try.sizeOf71
  v53 := Try.zeroValue71
  t131 := Try.underlying42
  a131 := Try.isAgg42
  z131 := Try.sizeOf42
  v131 := Try.zeroValue42
  t182 := Try.underlying90
  a182 := Try.isAgg90
  z182 := Try.sizeOf90
  v182 := Try.zeroValue90
  t183 := Try.underlying91
  a183 := Try.isAgg91
  z183 := Try.sizeOf91
  v183 := Try.zeroValue91
  t218 := Try.underlying101
  a218 := Try.isAgg101
  z218 := Try.sizeOf101
  v218 := Try.zeroValue101
  t222 := Try.underlying105
  a222 := Try.isAgg105
  z222 := Try.sizeOf105
  v222 := Try.zeroValue105
  t228 := Try.underlying107
  a228 := Try.isAgg107
  z228 := Try.sizeOf107
  v228 := Try.zeroValue107
  t229 := Try.underlying108
  a229 := Try.isAgg108
  z229 := Try.sizeOf108
  v229 := Try.zeroValue108

end Go.Proofs
namespace Go.Proofs.Ytfedgkmklcialaa.PM
open Go Go.RowKit Go.Shelf Go.Sort Go.Proofs.YtfedgkmklcialaaW.PrintWords

def bytesL (l : List ByteArray) : List (List UInt8) := l.map fun s => s.data.toList
def sortS (l : List ByteArray) : List ByteArray := ((bytesL l).mergeSort fun x y => decide (x ≤ y)).map fun b => ⟨b.toArray⟩
theorem sortS_len (l : List ByteArray) : (sortS l).length = l.length := by simp [sortS, bytesL]
def slices_Sort_string_string.f (l0 : List ByteArray) : Option (List ByteArray) := if l0.length < 4611686018427387904 then some (sortS l0) else none

theorem encs_bytes (l : List ByteArray) : encs Value.string l = (bytesL l).map encStr := by
  simp [encs, bytesL, encStr]
theorem slices_Sort_string_string.calls (P0_ : Nat → Prop) (u9000_ : Value) (l0 : List ByteArray) (r : List ByteArray) (w0 w : World) (hB : Below w0.heap.size w0 w) (ho0 : Kd.R Kd.string 9 w w0.heap.size P0_ u9000_ l0) (h : slices_Sort_string_string.f l0 = some r) :
    Calls Try.prog 59 #[u9000_] w fun e w' => e = .returned (.tuple #[]) ∧ Kd.R Kd.string 9 w' w0.heap.size (fun k_ => (P0_ k_ ∨ w.heap.size ≤ k_)) u9000_ r ∧ Below w0.heap.size w0 w' ∧ Kept w w' (fun k_ => P0_ k_) := by
  unfold slices_Sort_string_string.f at h
  split at h
  case isFalse => cases h
  case isTrue hl =>
  obtain rfl := Option.some.inj h
  have hown := Kd.own_of_R (enc := Value.string) ho0
  rcases hown.2 with ⟨rfl, h0⟩ | ⟨g, cap, cur, rfl, hbase, hb, h1, h2, h3, h4⟩
  · have hn : l0 = [] := List.length_eq_zero_iff.1 h0
    subst hn
    refine (Any.slices_Sort_string_none Try.laysSort none 0 w).mono ?_
    rintro e w' hh
    obtain ⟨rfl, hw⟩ := hh
    rw [hw, show sortS [] = [] from by simp [sortS, bytesL]]
    exact ⟨rfl, Kd.R_mono ho0 (fun k hk => .inl hk), hB, Kept.refl _ _⟩
  · rw [Nat.mul_one] at h4
    have hb' : (bytesL l0).length = l0.length := by simp [bytesL]
    have ht : cur.toList.take (bytesL l0).length = (bytesL l0).map encStr := by rw [hb', h4, encs_bytes]
    have hH := holds_of_block hb ht
    have hc := Any.slices_Sort_string Try.laysSort g 0 cap (bytesL l0) w hH (Array.getElem?_eq_some_iff.1 hb).1 (by rw [hb']; exact hl)
    rw [hb'] at hc
    refine hc.mono ?_
    rintro e w' ⟨rfl, n, os, rfl⟩
    have hs := ownsRow_sorted (w := w) (base := w0.heap.size) (n := n) (os := os) (ss := bytesL l0) (ts := (bytesL l0).mergeSort fun x y => decide (x ≤ y)) (by simp) hbase hb (by omega) h2 h3
    have hg := grownBy_sorted (w := w) (g := g) (n := n) (os := os) ((bytesL l0).mergeSort fun x y => decide (x ≤ y)).toArray
    have hr : encs Value.string (sortS l0) = ((bytesL l0).mergeSort fun x y => decide (x ≤ y)).map encStr := by simp [encs, sortS, encStr]
    refine ⟨rfl, Kd.R_of_own (enc := Value.string) ?_ (fun k hk => .inl (ho0.1 k hk)), hB.grown hg hB.size (fun k hk => by cases hk; exact hbase), Kept.of_grown hg (Kept.refl _ _) (fun k hk => by cases hk; exact .inl (ho0.1 _ rfl))⟩
    rw [sortS_len, hr]
    rw [hb'] at hs
    exact hs
end Go.Proofs.Ytfedgkmklcialaa.PM
namespace Go.Proofs
open Go.RowKit Go.Shelf Go.Sort
def Try.laysCompact_ren : Go.Shelf.Ren := { f := fun x => match x with | 194 => 60 | n => n, t := fun x => match x with | 31 => 22 | 9 => 9 | 3 => 3 | 4 => 4 | 0 => 0 | n => n, g := fun n => n }
set_option maxRecDepth 100000 in
theorem Try.laysCompact : Lays.n194 Try.prog Try.laysCompact_ren where
  mixed := by kernel_rfl
  f194 := Try.func60.trans (congrArg some (by kernel_rfl))
  t0 := Try.underlying0
  a0 := Try.isAgg0
  z0 := Try.sizeOf0
  v0 := Try.zeroValue0
  t3 := Try.underlying3
  a3 := Try.isAgg3
  z3 := Try.sizeOf3
  v3 := Try.zeroValue3
  t4 := Try.underlying4
  a4 := Try.isAgg4
  z4 := Try.sizeOf4
  v4 := Try.zeroValue4
  t9 := Try.underlying9
  a9 := Try.isAgg9
  z9 := Try.sizeOf9
  v9 := Try.zeroValue9
  t31 := Try.underlying22
  a31 := Try.isAgg22
  z31 := Try.sizeOf22
  v31 := Try.zeroValue22

end Go.Proofs
namespace Go.Proofs.Ytfedgkmklcialaa.PM
open Go Go.RowKit Go.Shelf Go.Sort Go.Proofs.YtfedgkmklcialaaW.PrintWords

def compactS (l : List ByteArray) : List ByteArray := (Lib.compact (bytesL l)).map fun b => ⟨b.toArray⟩
def slices_Compact_string_string.f (l0 : List ByteArray) : Option (List ByteArray) := some (compactS l0)
theorem slices_Compact_string_string.calls (P0_ : Nat → Prop) (u9000_ : Value) (l0 : List ByteArray) (r : List ByteArray) (w0 w : World) (hB : Below w0.heap.size w0 w) (ho0 : Kd.R Kd.string 9 w w0.heap.size P0_ u9000_ l0) (h : slices_Compact_string_string.f l0 = some r) :
    Calls Try.prog 60 #[u9000_] w fun e w' => ∃ v0_ : Value, e = .returned (v0_) ∧ Kd.R Kd.string 9 w' w0.heap.size (fun k_ => (P0_ k_ ∨ w.heap.size ≤ k_)) v0_ r ∧ Below w0.heap.size w0 w' ∧ Kept w w' (fun k_ => P0_ k_) := by
  obtain rfl := Option.some.inj h
  have hown := Kd.own_of_R (enc := Value.string) ho0
  rcases hown.2 with ⟨rfl, h0⟩ | ⟨g, cap, cur, rfl, hbase, hb, h1, h2, h3, h4⟩
  · have hn : l0 = [] := List.length_eq_zero_iff.1 h0
    subst hn
    refine (Any.slices_Compact_string_empty Try.laysCompact none 0 w).mono ?_
    rintro e w' ⟨rfl, hw⟩
    rw [hw, show compactS [] = [] from by simp [compactS, bytesL, Lib.compact, Lib.compactUpTo]]
    exact ⟨_, rfl, Kd.R_mono ho0 (fun k hk => .inl hk), hB, Kept.refl _ _⟩
  · rw [Nat.mul_one] at h4
    have hb' : (bytesL l0).length = l0.length := by simp [bytesL]
    have ht : cur.toList.take (bytesL l0).length = (bytesL l0).map encStr := by rw [hb', h4, encs_bytes]
    have hH := holds_of_block hb ht
    have hm : maxLen = 9223372036854775807 := by unfold maxLen; rfl
    have hc := Any.slices_Compact_string Try.laysCompact g 0 cap (bytesL l0) w hH (by omega) (by omega)
    rw [hb'] at hc
    refine hc.mono ?_
    rintro e w' ⟨rfl, q, rfl⟩
    have hle : (Lib.compact (bytesL l0)).length ≤ (bytesL l0).length := Lib.compact_length_le _
    have hg := grownBy_sorted (w := w) (g := g) (n := q) (os := #[]) (Lib.compact (bytesL l0) ++ List.replicate (l0.length - (Lib.compact (bytesL l0)).length) []).toArray
    have hh := heap_sorted (w := w) (g := g) (n := q) (os := #[]) (Lib.compact (bytesL l0) ++ List.replicate (l0.length - (Lib.compact (bytesL l0)).length) []).toArray hb
    rw [grow_empty] at hg hh
    have ht2 := take_putCells cur (Lib.compact (bytesL l0) ++ List.replicate (l0.length - (Lib.compact (bytesL l0)).length) []) (by simp; omega)
    have hr : encs Value.string (compactS l0) = (Lib.compact (bytesL l0)).map encStr := by simp [encs, compactS, encStr]
    have hlen : (compactS l0).length = (Lib.compact (bytesL l0)).length := by simp [compactS]
    refine ⟨_, rfl, Kd.R_of_own (enc := Value.string) ⟨by simp [encs], .inr ⟨g, cap, _, by rw [hlen], hbase, hh, by omega, h2, by simp [putCells, h3], ?_⟩⟩ (fun k hk => .inl (ho0.1 k hk)), hB.grown hg hB.size (fun k hk => by cases hk; exact hbase), Kept.of_grown hg (Kept.refl _ _) (fun k hk => by cases hk; exact .inl (ho0.1 _ rfl))⟩
    rw [hr, hlen, Nat.mul_one]
    have := congrArg (List.take (Lib.compact (bytesL l0)).length) ht2
    rw [List.take_take, Nat.min_eq_left (by simp)] at this
    rw [this, List.map_append, List.take_left' (by simp)]
end Go.Proofs.Ytfedgkmklcialaa.PM
-- printed by a program of this session (wip/gp) out of the translation; Lean checks it
namespace Go.Proofs.Ytfedgkmklcialaa.PM
open Go.RowKit Go.Proofs.YtfedgkmklcialaaW.PrintWords Go.Proofs.YtfedgkmklcialaaW.PrintLast Go.Proofs.YtfedgkmklcialaaW.PrintMore Go.Proofs.YtfedgkmklcialaaSq
attribute [local go_sem] max2_int min2_int max_two min_two max_three min_three max_four min_four   -- for this text's walks alone
attribute [local go_sem] Go.Proofs.YtfedgkmklcialaaGp.str_geq Go.Proofs.YtfedgkmklcialaaGp.str_gtr Go.Proofs.YtfedgkmklcialaaGp.str_leq
set_option linter.unusedVariables false
set_option linter.unusedSimpArgs false



def errW : Option Int → Value
 | none => .nilIface
 | some c => .iface 0 (.int .i64 c)
theorem errW_none : errW none = .nilIface := rfl
theorem errW_some (c : Int) : errW (some c) = .iface 0 (.int .i64 c) := rfl

theorem info3 : (Try.prog.info? 3).map (fun i => (i.zero, i.size, i.bytes)) = some (some (.int .i64 0), 1, 8) := by kernel_rfl
theorem info5 : (Try.prog.info? 5).map (fun i => (i.zero, i.size, i.bytes)) = some (some (.int .u8 0), 1, 1) := by kernel_rfl
theorem info9 : (Try.prog.info? 9).map (fun i => (i.zero, i.size, i.bytes)) = some (some (.string ⟨#[]⟩), 1, 16) := by kernel_rfl
-- the values' own types
def rd_L3 (xs : List (List ByteArray)) (i : Int) : (List ByteArray) := xs.getD i.toNat ([] : List ByteArray)
theorem at_L3 {w : World} {A : Option Addr} {n : Nat} {xs : List (List ByteArray)} (h : Kd.C (Kd.slice 9 Kd.string) w A n xs) (i : Int) (h0 : 0 ≤ i) (h1 : i < n) : ∃ ad A0 c0, A = some ad ∧ w.cell? (ad.add i.toNat) = some (.slice A0 (rd_L3 xs i).length c0) ∧ (rd_L3 xs i).length ≤ c0 ∧ Kd.string.C w A0 (rd_L3 xs i).length (rd_L3 xs i) := by
 obtain ⟨ad, c, e, _, hK, hc0⟩ := Kd.C_get h ([] : List ByteArray) i h0 h1
 have hc : ∀ j u, c[j]? = some u → w.cell? (ad.add (i.toNat * 1 + j)) = some u := hc0
 obtain ⟨A0, c0, rfl, l0, g0⟩ := hK
 exact ⟨ad, A0, c0, e, by have hq := hc 0 _ rfl; rwa [Nat.mul_one, Nat.add_zero] at hq, l0, g0⟩

end Go.Proofs.Ytfedgkmklcialaa.PM
namespace Go.Proofs.YtfedgkmklcialaaSq
open Go Go.RowKit Go.Proofs.YtfedgkmklcialaaW.PrintWords Go.Proofs.YtfedgkmklcialaaW.PrintLast

class Pel (W : World) (W0 : outParam World) : Prop where
  out : ∀ {g : Nat} {o : Obj}, W0.heap[g]? = some o → W.heap[g]? = some o
instance (priority := 100) Pel.rfl_ (W : World) : Pel W W := ⟨id⟩
instance Pel.alloc_ (W W0 : World) (o : Obj) [h : Pel W W0] : Pel (W.alloc o) W0 := ⟨fun e => blk_alloc (h.out e) _⟩
instance Pel.drewN_ (W W0 : World) (n : Nat) [h : Pel W W0] : Pel (W.drewN n) W0 := ⟨fun e => blk_drewN (h.out e) _⟩
instance Pel.drew_ (W W0 : World) [h : Pel W W0] : Pel W.drew W0 := ⟨fun e => blk_drew (h.out e)⟩
theorem bp {W W0 : World} {g : Nat} {o : Obj} [h' : Pel W W0] (h : W0.heap[g]? = some o) : W.heap[g]? = some o := h'.out h
theorem ob {α β : Type} {o : Option α} {f : α → Option β} {r : β} (h : o.bind f = some r) : ∃ a, Aside0 (o = some a) ∧ f a = some r :=
  let ⟨a, h1, h2⟩ := Option.bind_eq_some_iff.mp h
  ⟨a, ⟨h1⟩, h2⟩
end Go.Proofs.YtfedgkmklcialaaSq
-- printed by a program of this session (wip/gp) out of the translation; Lean checks it
namespace Go.Proofs.Ytfedgkmklcialaa.PM
open Go.RowKit Go.Proofs.YtfedgkmklcialaaW.PrintWords Go.Proofs.YtfedgkmklcialaaW.PrintLast Go.Proofs.YtfedgkmklcialaaW.PrintMore Go.Proofs.YtfedgkmklcialaaSq
attribute [local go_sem] max2_int min2_int max_two min_two max_three min_three max_four min_four   -- for this text's walks alone
attribute [local go_sem] Go.Proofs.YtfedgkmklcialaaGp.str_geq Go.Proofs.YtfedgkmklcialaaGp.str_gtr Go.Proofs.YtfedgkmklcialaaGp.str_leq
set_option linter.unusedVariables false
set_option linter.unusedSimpArgs false

set_option maxHeartbeats 8000000
set_option maxRecDepth 100000
def spec_l1In.f (a0 : Int) (a1 : Int) (a2 : Int) : Option (Bool) := if a0 ≥ a1 then (some (decide (a0 ≤ a2))) else (some false)
theorem spec_l1In.calls (a0 : Int) (a1 : Int) (a2 : Int) (r : Bool) (w : World) (h : spec_l1In.f a0 a1 a2 = some r) :
  Calls Try.prog 39 #[.int .i64 a0, .int .i64 a1, .int .i64 a2] w fun e w' => e = .returned (.bool r) ∧ Drawn0 w w' := by
 have H : (if a0 ≥ a1 then (some (decide (a0 ≤ a2))) else (some false)) = some r := h; clear h
 by_cases c4 : a0 ≥ a1
 ·rw [if_pos c4] at H
  have c4b0 : decide (a1 ≤ a0) = true := decide_eq_true c4; clear c4; obtain rfl := Option.some.inj H
  go_enter Try.func39, Try.ntmps39
  go_wp2
  go_ret
  exact ⟨by first | rfl | (simp; done) | (simp [*]; done), by repeat (first | exact Drawn0.refl _ | apply Drawn0.step)⟩
 ·rw [if_neg c4] at H
  have c4b0 : decide (a1 ≤ a0) = false := decide_eq_false c4; clear c4; obtain rfl := Option.some.inj H
  go_enter Try.func39, Try.ntmps39
  go_wp2
  go_ret
  exact ⟨by first | rfl | (simp; done) | (simp [*]; done), by repeat (first | exact Drawn0.refl _ | apply Drawn0.step)⟩

def spec_IsKey.l0 : Nat → ByteArray → Int → Option (Bool)
 | 0, _, _ => none
 | k + 1, x0, x3 => if x3 < (x0.size : Int) then (if 0 ≤ x3 then (if (bt x0 x3) < 33 then (some false) else (if (bt x0 x3) > 125 then (some false) else (spec_IsKey.l0 k x0 (wrap64 (x3 + 1))))) else (none)) else ((spec_l1In.f (x0.size : Int) 1 12).bind fun t149 => (some t149))
def spec_IsKey.f (k : Nat) (a0 : ByteArray) : Option (Bool) := spec_IsKey.l0 k a0 0
theorem spec_IsKey.calls (k : Nat) (a0 : ByteArray) (r : Bool) (w : World) (h : spec_IsKey.f k a0 = some r) :
  Calls Try.prog 64 #[.string a0] w fun e w' => e = .returned (.bool r) ∧ Drawn0 w w' := by
 have H : (spec_IsKey.l0 k a0 0) = some r := h; clear h; have H' := am H; clear H
 go_enter Try.func64, Try.ntmps64
 go_wp2
 go_loopg [3] k (fun kq v3 w' => ∃ (x3_1 : Int), v3 = .int .i64 x3_1 ∧ Aside0 (spec_IsKey.l0 kq a0 x3_1 = some r) ∧ Aside0 (kq ≤ k) ∧ Drawn0 w w')
 case atStart => exact ⟨(0), wZ, H', ⟨Nat.le_refl _⟩, by repeat (first | exact Drawn0.refl _ | apply Drawn0.step)⟩
 case round =>
  clear H'; obtain ⟨x3_1, rfl, HA, HK1, ⟨m1, rfl⟩⟩ := hrel; cases gk with
  | zero => exact absurd HA.out (by simp [spec_IsKey.l0])
  | succ k1 =>
   have H := HA.out; clear HA
   simp only [spec_IsKey.l0] at H
   by_cases c2 : x3_1 < (a0.size : Int)
   ·rw [if_pos c2] at H
    have c2b0 : decide (x3_1 < (a0.size : Int)) = true := decide_eq_true c2; clear c2
    by_cases c3 : 0 ≤ x3_1
    ·rw [if_pos c3] at H
     have c3b0 : decide (0 ≤ x3_1) = true := decide_eq_true c3; clear c3
     by_cases c5 : (bt a0 x3_1) < 33
     ·rw [if_pos c5] at H
      have c5b0 : decide ((bt a0 x3_1) < 33) = true := decide_eq_true c5; clear c5; obtain rfl := Option.some.inj H; have p4 : 0 ≤ (x3_1 : Int) := dT; have q4 : x3_1 < (a0.size : Int) := dT; have hx4 := bt_at a0 x3_1; replace p4 := eq_true p4; replace q4 := eq_true q4
      go_wp2
      go_ret
      exact ⟨by first | rfl | (simp; done) | (simp [*]; done), by repeat (first | exact Drawn0.refl _ | apply Drawn0.step)⟩
     ·rw [if_neg c5] at H
      have c5b0 : decide ((bt a0 x3_1) < 33) = false := decide_eq_false c5; clear c5
      by_cases c7 : (bt a0 x3_1) > 125
      ·rw [if_pos c7] at H
       have c7b0 : decide (125 < (bt a0 x3_1)) = true := decide_eq_true c7; clear c7; obtain rfl := Option.some.inj H; have p4 : 0 ≤ (x3_1 : Int) := dT; have q4 : x3_1 < (a0.size : Int) := dT; have hx4 := bt_at a0 x3_1; replace p4 := eq_true p4; replace q4 := eq_true q4; have p6 : 0 ≤ (x3_1 : Int) := dT; have q6 : x3_1 < (a0.size : Int) := dT; have hx6 := bt_at a0 x3_1; replace p6 := eq_true p6; replace q6 := eq_true q6
       go_wp2
       go_ret
       exact ⟨by first | rfl | (simp; done) | (simp [*]; done), by repeat (first | exact Drawn0.refl _ | apply Drawn0.step)⟩
      ·rw [if_neg c7] at H
       have c7b0 : decide (125 < (bt a0 x3_1)) = false := decide_eq_false c7; clear c7; have H' := am H; clear H; have p4 : 0 ≤ (x3_1 : Int) := dT; have q4 : x3_1 < (a0.size : Int) := dT; have hx4 := bt_at a0 x3_1; replace p4 := eq_true p4; replace q4 := eq_true q4; have p6 : 0 ≤ (x3_1 : Int) := dT; have q6 : x3_1 < (a0.size : Int) := dT; have hx6 := bt_at a0 x3_1; replace p6 := eq_true p6; replace q6 := eq_true q6
       go_wp2
       go_roundg k1
       case measure => have := HK1.out; omega
       case rel => exact ⟨(wrap64 (x3_1 + 1)), wZ, H', ⟨by have := HK1.out; omega⟩, by repeat (first | exact Drawn0.refl _ | apply Drawn0.step)⟩
    ·rw [if_neg c3] at H
     exact absurd H (by simp)
   ·rw [if_neg c2] at H
    have c2b0 : decide (x3_1 < (a0.size : Int)) = false := decide_eq_false c2; clear c2; obtain ⟨t149, A8, H⟩ := ob H; (try dsimp -simprocs only at H); obtain rfl := Option.some.inj H
    go_wp2_with (first | ((with_reducible refine gate_callee (f := 39) rfl ?_); refine gL (some 22) Try.func39 #[.int .i64 (a0.size : Int), .int .i64 1, .int .i64 12] ?_; (with_reducible refine (spec_l1In.calls (a0.size : Int) 1 12 t149 _ A8.out).mono ?_); rintro e w' ⟨rfl, ⟨nd, rfl⟩⟩; refine ⟨_, rfl, ?_⟩))
    go_ret
    exact ⟨by first | rfl | (simp; done) | (simp [*]; done), by repeat (first | exact Drawn0.refl _ | apply Drawn0.step)⟩

def spec_biKeys.l0 : Nat → List ByteArray → List ByteArray → Int → Int → Option (Bool)
 | 0, _, _, _, _ => none
 | k + 1, x0, x5, x6, x7 => if x7 < x6 then (if 0 ≤ x7 then (if x7 < (x5.length : Int) then ((spec_IsKey.f k (rdOf ByteArray.empty x5 x7)).bind fun t151 => (if t151 = true then (if x7 > 0 then (if 0 ≤ (wrap64 (x7 - 1)) then (if (wrap64 (x7 - 1)) < (x0.length : Int) then (if ((Op.bytesLess ((rdOf ByteArray.empty x0 (wrap64 (x7 - 1))).toList) ((rdOf ByteArray.empty x5 x7).toList)) = true) then (spec_biKeys.l0 k x0 x5 x6 (wrap64 (x7 + 1))) else (some false)) else (none)) else (none)) else (spec_biKeys.l0 k x0 x5 x6 (wrap64 (x7 + 1)))) else (some false))) else (none)) else (none)) else (some (decide ((x0.length : Int) ≤ 40)))
def spec_biKeys.f (k : Nat) (l0 : List ByteArray) : Option (Bool) := spec_biKeys.l0 k l0 l0 (l0.length : Int) 0
theorem spec_biKeys.calls (k : Nat) (A0 : Option Addr) (c0 : Nat) (l0 : List ByteArray) (r : Bool) (w : World) (hr0 : Kd.C Kd.string w A0 l0.length l0) (hc0 : l0.length ≤ c0) (h : spec_biKeys.f k l0 = some r) :
  Calls Try.prog 38 #[.slice A0 l0.length c0] w fun e w' => e = .returned (.bool r) ∧ Drawn0 w w' := by
 have HR0 := am hr0; have HC0 := am hc0; clear hr0 hc0; have H : (spec_biKeys.l0 k l0 l0 (l0.length : Int) 0) = some r := h; clear h; have H' := am H; clear H
 go_enter Try.func38, Try.ntmps38
 go_wp2
 go_loopg [7] k (fun kq v7 w' => ∃ (x7_1 : Int), v7 = .int .i64 x7_1 ∧ Aside0 (spec_biKeys.l0 kq l0 l0 (l0.length : Int) x7_1 = some r) ∧ Aside0 (kq ≤ k) ∧ Drawn0 w w')
 case atStart => exact ⟨(0), wZ, H', ⟨Nat.le_refl _⟩, by repeat (first | exact Drawn0.refl _ | apply Drawn0.step)⟩
 case round =>
  clear H'; obtain ⟨x7_1, rfl, HA, HK1, ⟨m1, rfl⟩⟩ := hrel; cases gk with
  | zero => exact absurd HA.out (by simp [spec_biKeys.l0])
  | succ k1 =>
   have H := HA.out; clear HA
   simp only [spec_biKeys.l0] at H
   by_cases c2 : x7_1 < (l0.length : Int)
   ·rw [if_pos c2] at H
    have c2b0 : decide (x7_1 < (l0.length : Int)) = true := decide_eq_true c2; clear c2
    by_cases c3 : 0 ≤ x7_1
    ·rw [if_pos c3] at H
     have c3b0 : decide (0 ≤ x7_1) = true := decide_eq_true c3; clear c3
     by_cases c4 : x7_1 < (l0.length : Int)
     ·rw [if_pos c4] at H
      have c4b0 : decide (x7_1 < (l0.length : Int)) = true := decide_eq_true c4; clear c4; obtain ⟨t151, A5, H⟩ := ob H; (try dsimp -simprocs only at H)
      by_cases c6 : t151 = true
      ·subst c6
       rw [if_pos rfl] at H
       by_cases c7 : x7_1 > 0
       ·rw [if_pos c7] at H
        have c7b0 : decide (0 < x7_1) = true := decide_eq_true c7; clear c7; obtain ⟨ji8, hji8⟩ : ∃ j_ : Int, (wrap64 (x7_1 - 1)) = j_ := ⟨_, rfl⟩
        replace H : (if 0 ≤ (ji8) then (if (ji8) < (l0.length : Int) then (if ((Op.bytesLess ((rdOf ByteArray.empty l0 (ji8)).toList) ((rdOf ByteArray.empty l0 x7_1).toList)) = true) then (spec_biKeys.l0 k1 l0 l0 (l0.length : Int) (wrap64 (x7_1 + 1))) else (some false)) else (none)) else (none)) = some r := by first | (rw [hji8] at H; exact H) | (simp only [hji8] at H ⊢; exact H)
        (try rw [hji8] at A5)
        have hji8w : (IntKind.i64.wrap (x7_1 - 1)) = ji8 := (i64_w _).trans hji8
        by_cases c9 : 0 ≤ (ji8)
        ·rw [if_pos c9] at H
         have c9b0 : decide (0 ≤ (ji8)) = true := decide_eq_true c9; clear c9
         by_cases c10 : (ji8) < (l0.length : Int)
         ·rw [if_pos c10] at H
          have c10b0 : decide ((ji8) < (l0.length : Int)) = true := decide_eq_true c10; clear c10
          by_cases c11 : ((Op.bytesLess ((rdOf ByteArray.empty l0 (ji8)).toList) ((rdOf ByteArray.empty l0 x7_1).toList)) = true)
          ·rw [if_pos c11] at H
           have c11b0 : (Op.bytesLess ((rdOf ByteArray.empty l0 (ji8)).toList) ((rdOf ByteArray.empty l0 x7_1).toList)) = true := c11; clear c11; have H' := am H; clear H; obtain ⟨ad150, e150, hx150_0⟩ := Kd.at_string HR0.out x7_1 dT dT; cases e150; have p150 := eT (0 ≤ (x7_1 : Int)); have q150 := eT (x7_1 < (l0.length : Int))
           go_wp2_with (first | ((with_reducible refine gate_callee (f := 64) rfl ?_); refine gL (some 13) Try.func64 #[.string (rdOf ByteArray.empty l0 x7_1)] ?_; (with_reducible refine (spec_IsKey.calls k1 (rdOf ByteArray.empty l0 x7_1) true _ A5.out).mono ?_); rintro e w' ⟨rfl, ⟨nd, rfl⟩⟩; refine ⟨_, rfl, ?_⟩; have p152 : 0 ≤ ((ji8) : Int) := dT; have q152 : (ji8) < (l0.length : Int) := dT; obtain ⟨ad152, e152, hx152_0⟩ := Kd.at_string HR0.out (ji8) p152 q152; obtain rfl : ad150 = ad152 := (by injection e152); replace p152 := eq_true p152; replace q152 := eq_true q152))
           go_roundg k1
           case measure => have := HK1.out; omega
           case rel => exact ⟨(wrap64 (x7_1 + 1)), wZ, H', ⟨by have := HK1.out; omega⟩, by repeat (first | exact Drawn0.refl _ | apply Drawn0.step)⟩
          ·rw [if_neg c11] at H
           have c11b0 : (Op.bytesLess ((rdOf ByteArray.empty l0 (ji8)).toList) ((rdOf ByteArray.empty l0 x7_1).toList)) = false := by simpa using c11
           clear c11; obtain rfl := Option.some.inj H; obtain ⟨ad150, e150, hx150_0⟩ := Kd.at_string HR0.out x7_1 dT dT; cases e150; have p150 := eT (0 ≤ (x7_1 : Int)); have q150 := eT (x7_1 < (l0.length : Int))
           go_wp2_with (first | ((with_reducible refine gate_callee (f := 64) rfl ?_); refine gL (some 13) Try.func64 #[.string (rdOf ByteArray.empty l0 x7_1)] ?_; (with_reducible refine (spec_IsKey.calls k1 (rdOf ByteArray.empty l0 x7_1) true _ A5.out).mono ?_); rintro e w' ⟨rfl, ⟨nd, rfl⟩⟩; refine ⟨_, rfl, ?_⟩; have p152 : 0 ≤ ((ji8) : Int) := dT; have q152 : (ji8) < (l0.length : Int) := dT; obtain ⟨ad152, e152, hx152_0⟩ := Kd.at_string HR0.out (ji8) p152 q152; obtain rfl : ad150 = ad152 := (by injection e152); replace p152 := eq_true p152; replace q152 := eq_true q152))
           go_ret
           exact ⟨by first | rfl | (simp; done) | (simp only [← hji8] <;> (first | rfl | simp)) | (simp [*]; done), by repeat (first | exact Drawn0.refl _ | apply Drawn0.step)⟩
         ·rw [if_neg c10] at H
          exact absurd H (by simp)
        ·rw [if_neg c9] at H
         exact absurd H (by simp)
       ·rw [if_neg c7] at H
        have c7b0 : decide (0 < x7_1) = false := decide_eq_false c7; clear c7; have H' := am H; clear H; obtain ⟨ad150, e150, hx150_0⟩ := Kd.at_string HR0.out x7_1 dT dT; cases e150; have p150 := eT (0 ≤ (x7_1 : Int)); have q150 := eT (x7_1 < (l0.length : Int))
        go_wp2_with (first | ((with_reducible refine gate_callee (f := 64) rfl ?_); refine gL (some 13) Try.func64 #[.string (rdOf ByteArray.empty l0 x7_1)] ?_; (with_reducible refine (spec_IsKey.calls k1 (rdOf ByteArray.empty l0 x7_1) true _ A5.out).mono ?_); rintro e w' ⟨rfl, ⟨nd, rfl⟩⟩; refine ⟨_, rfl, ?_⟩))
        go_roundg k1
        case measure => have := HK1.out; omega
        case rel => exact ⟨(wrap64 (x7_1 + 1)), wZ, H', ⟨by have := HK1.out; omega⟩, by repeat (first | exact Drawn0.refl _ | apply Drawn0.step)⟩
      ·replace c6 := Bool.eq_false_iff.mpr c6
       subst c6
       rw [if_neg (show ¬ (false = true) by decide)] at H; obtain rfl := Option.some.inj H; obtain ⟨ad150, e150, hx150_0⟩ := Kd.at_string HR0.out x7_1 dT dT; cases e150; have p150 := eT (0 ≤ (x7_1 : Int)); have q150 := eT (x7_1 < (l0.length : Int))
       go_wp2_with (first | ((with_reducible refine gate_callee (f := 64) rfl ?_); refine gL (some 13) Try.func64 #[.string (rdOf ByteArray.empty l0 x7_1)] ?_; (with_reducible refine (spec_IsKey.calls k1 (rdOf ByteArray.empty l0 x7_1) false _ A5.out).mono ?_); rintro e w' ⟨rfl, ⟨nd, rfl⟩⟩; refine ⟨_, rfl, ?_⟩))
       go_ret
       exact ⟨by first | rfl | (simp; done) | (simp [*]; done), by repeat (first | exact Drawn0.refl _ | apply Drawn0.step)⟩
     ·rw [if_neg c4] at H
      exact absurd H (by simp)
    ·rw [if_neg c3] at H
     exact absurd H (by simp)
   ·rw [if_neg c2] at H
    have c2b0 : decide (x7_1 < (l0.length : Int)) = false := decide_eq_false c2; clear c2; obtain rfl := Option.some.inj H
    go_wp2
    go_ret
    exact ⟨by first | rfl | (simp; done) | (simp [*]; done), by repeat (first | exact Drawn0.refl _ | apply Drawn0.step)⟩

def spec_trCommon.l0 : Nat → ByteArray → ByteArray → Int → Option (Int)
 | 0, _, _, _ => none
 | k + 1, x0, x1, x5 => if x5 < (x0.size : Int) then (if x5 < (x1.size : Int) then (if 0 ≤ x5 then (if (bt x0 x5) = (bt x1 x5) then (spec_trCommon.l0 k x0 x1 (wrap64 (x5 + 1))) else (some x5)) else (none)) else (some x5)) else (some x5)
def spec_trCommon.f (k : Nat) (a0 : ByteArray) (a1 : ByteArray) : Option (Int) := spec_trCommon.l0 k a0 a1 0
theorem spec_trCommon.calls (k : Nat) (a0 : ByteArray) (a1 : ByteArray) (r : Int) (w : World) (h : spec_trCommon.f k a0 a1 = some r) :
  Calls Try.prog 65 #[.string a0, .string a1] w fun e w' => e = .returned (.int .i64 r) ∧ Drawn0 w w' := by
 have H : (spec_trCommon.l0 k a0 a1 0) = some r := h; clear h; have H' := am H; clear H
 go_enter Try.func65, Try.ntmps65
 go_wp2
 repeat (go_quiet (fail); try go_wp2)
 go_loopg [5] k (fun kq v5 w' => ∃ (x5_1 : Int), v5 = .int .i64 x5_1 ∧ Aside0 (spec_trCommon.l0 kq a0 a1 x5_1 = some r) ∧ Aside0 (kq ≤ k) ∧ Drawn0 w w')
 case atStart => exact ⟨(0), wZ, H', ⟨Nat.le_refl _⟩, by repeat (first | exact Drawn0.refl _ | apply Drawn0.step)⟩
 case round =>
  clear H'
  try clear p2
  obtain ⟨x5_1, rfl, HA, HK1, ⟨m1, rfl⟩⟩ := hrel; cases gk with
  | zero => exact absurd HA.out (by simp [spec_trCommon.l0])
  | succ k1 =>
   have H := HA.out; clear HA
   simp only [spec_trCommon.l0] at H
   by_cases c3 : x5_1 < (a0.size : Int)
   ·rw [if_pos c3] at H
    have c3b0 : decide (x5_1 < (a0.size : Int)) = true := decide_eq_true c3; clear c3
    by_cases c4 : x5_1 < (a1.size : Int)
    ·rw [if_pos c4] at H
     have c4b0 : decide (x5_1 < (a1.size : Int)) = true := decide_eq_true c4; clear c4
     by_cases c5 : 0 ≤ x5_1
     ·rw [if_pos c5] at H
      have c5b0 : decide (0 ≤ x5_1) = true := decide_eq_true c5; clear c5
      by_cases c8 : (bt a0 x5_1) = (bt a1 x5_1)
      ·rw [if_pos c8] at H
       have c8b0 : ((bt a0 x5_1) == (bt a1 x5_1)) = true := beq_iff_eq.mpr c8; have c8b1 : ((bt a0 x5_1) != (bt a1 x5_1)) = false := bne_eq_false_iff_eq.mpr c8; clear c8; have H' := am H; clear H; have p6 : 0 ≤ (x5_1 : Int) := dT; have q6 : x5_1 < (a0.size : Int) := dT; have hx6 := bt_at a0 x5_1; replace p6 := eq_true p6; replace q6 := eq_true q6; have p7 : 0 ≤ (x5_1 : Int) := dT; have q7 : x5_1 < (a1.size : Int) := dT; have hx7 := bt_at a1 x5_1; replace p7 := eq_true p7; replace q7 := eq_true q7
       go_wp2
       repeat (go_quiet (fail); try go_wp2)
       go_roundg k1
       case measure => have := HK1.out; omega
       case rel => exact ⟨(wrap64 (x5_1 + 1)), wZ, H', ⟨by have := HK1.out; omega⟩, by repeat (first | exact Drawn0.refl _ | apply Drawn0.step)⟩
      ·rw [if_neg c8] at H
       have c8b0 : ((bt a0 x5_1) == (bt a1 x5_1)) = false := beq_eq_false_iff_ne.mpr c8; have c8b1 : ((bt a0 x5_1) != (bt a1 x5_1)) = true := bne_iff_ne.mpr c8; obtain rfl := Option.some.inj H; have p6 : 0 ≤ (x5_1 : Int) := dT; have q6 : x5_1 < (a0.size : Int) := dT; have hx6 := bt_at a0 x5_1; replace p6 := eq_true p6; replace q6 := eq_true q6; have p7 : 0 ≤ (x5_1 : Int) := dT; have q7 : x5_1 < (a1.size : Int) := dT; have hx7 := bt_at a1 x5_1; replace p7 := eq_true p7; replace q7 := eq_true q7
       go_wp2
       repeat (go_quiet (fail); try go_wp2)
       go_ret
       exact ⟨by first | rfl | (simp; done) | (simp [*]; done), by repeat (first | exact Drawn0.refl _ | apply Drawn0.step)⟩
     ·rw [if_neg c5] at H
      exact absurd H (by simp)
    ·rw [if_neg c4] at H
     have c4b0 : decide (x5_1 < (a1.size : Int)) = false := decide_eq_false c4; clear c4; obtain rfl := Option.some.inj H
     go_wp2
     repeat (go_quiet (fail); try go_wp2)
     go_ret
     exact ⟨by first | rfl | (simp; done) | (simp [*]; done), by repeat (first | exact Drawn0.refl _ | apply Drawn0.step)⟩
   ·rw [if_neg c3] at H
    have c3b0 : decide (x5_1 < (a0.size : Int)) = false := decide_eq_false c3; clear c3; obtain rfl := Option.some.inj H
    go_wp2
    repeat (go_quiet (fail); try go_wp2)
    go_ret
    exact ⟨by first | rfl | (simp; done) | (simp [*]; done), by repeat (first | exact Drawn0.refl _ | apply Drawn0.step)⟩

def spec_trFront.l0 : Nat → List ByteArray → Int → List ByteArray → Int → Int → Int → List Int → List ByteArray → Option (Int × List Int × List ByteArray)
 | 0, _, _, _, _, _, _, _, _ => none
 | k + 1, x0, x1, x11, x12, x13, x155000, x155001, x155002 => if x13 < x12 then (if 0 ≤ x13 then (if x13 < (x11.length : Int) then (if x1 = 0 then (none) else (if (Int.tmod x13 x1) > 0 then (if 0 ≤ (wrap64 (x13 - 1)) then (if (wrap64 (x13 - 1)) < (x0.length : Int) then ((spec_trCommon.f k (rdOf ByteArray.empty x0 (wrap64 (x13 - 1))) (rdOf ByteArray.empty x11 x13)).bind fun t157 => (if x155001.length < 17592186044416 then (if 0 ≤ t157 then (if t157 ≤ ((rdOf ByteArray.empty x11 x13).size : Int) then (if x155002.length < 8796093022208 then (spec_trFront.l0 k x0 x1 x11 x12 (wrap64 (x13 + 1)) x155000 (x155001 ++ [t157]) (x155002 ++ [(rdOf ByteArray.empty x11 x13).extract (t157 : Int).toNat (rdOf ByteArray.empty x11 x13).size])) else (none)) else (none)) else (none)) else (none))) else (none)) else (none)) else (if x155001.length < 17592186044416 then (if 0 ≤ ((rdOf ByteArray.empty x11 x13).size : Int) then (if x155002.length < 8796093022208 then (spec_trFront.l0 k x0 x1 x11 x12 (wrap64 (x13 + 1)) x155000 (x155001 ++ [0]) (x155002 ++ [rdOf ByteArray.empty x11 x13])) else (none)) else (none)) else (none)))) else (none)) else (none)) else (some (x155000, x155001, x155002))
def spec_trFront.f (k : Nat) (l0 : List ByteArray) (a1 : Int) : Option (Int × List Int × List ByteArray) := spec_trFront.l0 k l0 a1 l0 (l0.length : Int) 0 a1 ([] : List Int) ([] : List ByteArray)
def spec_trFront.T9 : Bool × List (List Nat × List Nat) := (true, [([], []), ([0], [0]), ([], []), ([], []), ([2, 3], [2, 3]), ([4], [4]), ([1, 5], [1, 5]), ([0, 1, 2, 3, 4, 5, 6], []), ([7, 6, 6, 0, 1, 2, 3, 4, 5, 6], [6, 7])])
def spec_trFront.B9 : List Nat := [0, 1, 0, 0, 12, 28, 63, 127, 255]
theorem spec_trFront.tab9 : rtab .any (opsOf Try.f40 9) = spec_trFront.T9 := by kernel_rfl
theorem spec_trFront.bits9 : waitsOk spec_trFront.T9.2 spec_trFront.B9 = true := by kernel_rfl
theorem spec_trFront.calls (k : Nat) (A0 : Option Addr) (c0 : Nat) (l0 : List ByteArray) (a1 : Int) (r1 : Int) (r2 : List Int) (r3 : List ByteArray) (w : World) (hr0 : Kd.C Kd.string w A0 l0.length l0) (hc0 : l0.length ≤ c0) (h : spec_trFront.f k l0 a1 = some (r1, r2, r3)) :
  Calls Try.prog 40 #[.slice A0 l0.length c0, .int .i64 a1] w fun e w' => ∃ v1_ v2_ : Value, e = .returned (.agg #[.int .i64 r1, v1_, v2_]) ∧ Kd.R (Kd.int .i64) 3 w' w.heap.size (fun _ => True) v1_ r2 ∧ Kd.R Kd.string 9 w' w.heap.size (fun _ => True) v2_ r3 ∧ Below w.heap.size w w' := by
 have hu26 := Try.underlying26; have HR0 := am hr0; have HC0 := am hc0; clear hr0 hc0; have HB := am (Below.refl w.heap.size w); have H : (spec_trFront.l0 k l0 a1 l0 (l0.length : Int) 0 a1 ([] : List Int) ([] : List ByteArray)) = some (r1, r2, r3) := h; clear h; have H' := am H; clear H
 go_enter Try.func40, Try.ntmps40
 go_wp2_with (first | ((with_reducible refine gate_dst (N := 4) rfl ?_); refine bE 4 #[.int .i64 0, .slice none 0 0, .slice none 0 0] 26 ?_; intro gb153 hg w3 hbox hb; have n0_ := Bb HB hb; have n1_ := am (hbox); have n2_ := Gl HB hg; have n3_ := Gl HB hg; clear HB; revert n0_ n1_ n2_ n3_; intro HB BK153 GW153 GE153; clear hb hbox hg) | ((with_reducible refine gate_dst (N := 5) rfl ?_); refine bE 5 #[.int .i64 0, .slice none 0 0, .slice none 0 0] 26 ?_; intro gb154 hg w4 hbox hb; have n0_ := Kb BK153 hb; have n1_ := Bc HB hb; have n2_ := am (hbox); have n3_ := Gm HB hg; have n4_ := Gm HB hg; have n5_ := Nl BK153 hg; have n6_ := Ng BK153 hg; clear BK153 HB; revert n0_ n1_ n2_ n3_ n4_ n5_ n6_; intro BK153 HB BK154 GW154 GE154 NB153_154 NB154_153; clear hb hbox hg; have hnb5 := NB154_153.out; have hnc5 := NB153_154.out; obtain ⟨hcz6_0, hcz6_1, hcz6_2, hfz6_0, hfz6_1, hfz6_2⟩ := cf3 (w := w4) BK154))
 (try simp only [aP])
 go_loopg [13] k (fun kq v13 w' => ∃ (x13_1 : Int) (x155001_1 : List Int) (x155002_1 : List ByteArray) (u155001 : Value) (u155002 : Value), v13 = .int .i64 x13_1 ∧ Aside0 (spec_trFront.l0 kq l0 a1 l0 (l0.length : Int) x13_1 a1 x155001_1 x155002_1 = some (r1, r2, r3)) ∧ Aside0 (kq ≤ k) ∧ Aside0 (Kd.R (Kd.int .i64) 3 w' w.heap.size (fun _ => True) u155001 x155001_1) ∧ Aside0 (Kd.R Kd.string 9 w' w.heap.size (fun _ => True) u155002 x155002_1) ∧ Aside0 (w'.heap[gb153]? = some (.cells #[.int .i64 0, (.slice none 0 0), (.slice none 0 0)] 26 (0, 0))) ∧ Aside0 (w'.heap[gb154]? = some (.cells #[.int .i64 a1, u155001, u155002] 26 (0, 0))) ∧ Aside0 (Below w.heap.size w w'))
 case atStart => exact ⟨(0), (([] : List Int)), (([] : List ByteArray)), (.slice none 0 0), (.slice none 0 0), wZ, H', ⟨Nat.le_refl _⟩, ⟨nZ⟩, ⟨nZ⟩, ⟨by refine bp ?_; refine blk_far ?_ NB153_154.out _; refine bp ?_; refine blk_far ?_ NB153_154.out _; refine bp ?_; refine blk_far ?_ NB153_154.out _; refine bp ?_; exact BK153.out⟩, ⟨by refine bp ?_; refine blk_put (cs := #[.int .i64 a1, .slice none 0 0, .slice none 0 0]) ?_ 2 _ rfl; refine bp ?_; refine blk_put (cs := #[.int .i64 a1, .slice none 0 0, .slice none 0 0]) ?_ 1 _ rfl; refine bp ?_; refine blk_put (cs := #[.int .i64 0, .slice none 0 0, .slice none 0 0]) ?_ 0 _ rfl; refine bp ?_; exact BK154.out⟩, ⟨Bq⟩⟩
 case round =>
  clear H'
  try clear p2
  try clear c4
  try clear c5
  obtain ⟨x13_1, x155001_1, x155002_1, u155001, u155002, rfl, HA, HK1, HO_155001, HO_155002, BK153, BK154, HB⟩ := hrel; cases gk with
  | zero => exact absurd HA.out (by simp [spec_trFront.l0])
  | succ k1 =>
   have H := HA.out; clear HA
   simp only [spec_trFront.l0] at H
   by_cases c7 : x13_1 < (l0.length : Int)
   ·rw [if_pos c7] at H
    have c7b0 : decide (x13_1 < (l0.length : Int)) = true := decide_eq_true c7; clear c7
    by_cases c8 : 0 ≤ x13_1
    ·rw [if_pos c8] at H
     have c8b0 : decide (0 ≤ x13_1) = true := decide_eq_true c8; clear c8
     by_cases c9 : x13_1 < (l0.length : Int)
     ·rw [if_pos c9] at H
      have c9b0 : decide (x13_1 < (l0.length : Int)) = true := decide_eq_true c9; clear c9
      by_cases c10 : a1 = 0
      ·rw [if_pos c10] at H
       exact absurd H (by simp)
      ·rw [if_neg c10] at H
       have c10b0 : (a1 == 0) = false := beq_eq_false_iff_ne.mpr c10; have c10b1 : (a1 != 0) = true := bne_iff_ne.mpr c10
       by_cases c11 : (Int.tmod x13_1 a1) > 0
       ·rw [if_pos c11] at H
        have c11b0 : decide (0 < (Int.tmod x13_1 a1)) = true := decide_eq_true c11; clear c11; obtain ⟨ji12, hji12⟩ : ∃ j_ : Int, (wrap64 (x13_1 - 1)) = j_ := ⟨_, rfl⟩
        replace H : (if 0 ≤ (ji12) then (if (ji12) < (l0.length : Int) then ((spec_trCommon.f k1 (rdOf ByteArray.empty l0 (ji12)) (rdOf ByteArray.empty l0 x13_1)).bind fun t157 => (if x155001_1.length < 17592186044416 then (if 0 ≤ t157 then (if t157 ≤ ((rdOf ByteArray.empty l0 x13_1).size : Int) then (if x155002_1.length < 8796093022208 then (spec_trFront.l0 k1 l0 a1 l0 (l0.length : Int) (wrap64 (x13_1 + 1)) a1 (x155001_1 ++ [t157]) (x155002_1 ++ [(rdOf ByteArray.empty l0 x13_1).extract (t157 : Int).toNat (rdOf ByteArray.empty l0 x13_1).size])) else (none)) else (none)) else (none)) else (none))) else (none)) else (none)) = some (r1, r2, r3) := by first | (rw [hji12] at H; exact H) | (simp only [hji12] at H ⊢; exact H)
        have hji12w : (IntKind.i64.wrap (x13_1 - 1)) = ji12 := (i64_w _).trans hji12
        by_cases c13 : 0 ≤ (ji12)
        ·rw [if_pos c13] at H
         have c13b0 : decide (0 ≤ (ji12)) = true := decide_eq_true c13; clear c13
         by_cases c14 : (ji12) < (l0.length : Int)
         ·rw [if_pos c14] at H
          have c14b0 : decide ((ji12) < (l0.length : Int)) = true := decide_eq_true c14; clear c14; obtain ⟨t157, A15, H⟩ := ob H; (try dsimp -simprocs only at H)
          by_cases c16 : x155001_1.length < 17592186044416
          ·rw [if_pos c16] at H
           have LMc16 := am c16; clear c16; obtain ⟨y158, hy158⟩ : ∃ y_ : List Int, y_ = (x155001_1 ++ [t157]) := ⟨_, rfl⟩
           replace H : (if 0 ≤ t157 then (if t157 ≤ ((rdOf ByteArray.empty l0 x13_1).size : Int) then (if x155002_1.length < 8796093022208 then (spec_trFront.l0 k1 l0 a1 l0 (l0.length : Int) (wrap64 (x13_1 + 1)) a1 y158 (x155002_1 ++ [(rdOf ByteArray.empty l0 x13_1).extract (t157 : Int).toNat (rdOf ByteArray.empty l0 x13_1).size])) else (none)) else (none)) else (none)) = some (r1, r2, r3) := by first | (rw [hy158]; with_reducible exact H) | (have H2_ := (Option.bind_some _ _).symm.trans H; rw [hy158]; with_reducible exact H2_) | (have H2_ := (Option.bind_some _ _).symm.trans H; with_reducible exact H2_) | with_reducible exact H | (rw [hy158]; exact H) | exact H
           have Ny158 := am hy158; clear hy158
           by_cases c17 : 0 ≤ t157
           ·rw [if_pos c17] at H
            have c17b0 := eq_true c17; have c17b1 : decide (0 ≤ t157) = true := decide_eq_true c17; clear c17
            by_cases c18 : t157 ≤ ((rdOf ByteArray.empty l0 x13_1).size : Int)
            ·rw [if_pos c18] at H
             have c18b0 := eq_true c18; have c18b1 : decide (t157 ≤ ((rdOf ByteArray.empty l0 x13_1).size : Int)) = true := decide_eq_true c18; clear c18
             by_cases c19 : x155002_1.length < 8796093022208
             ·rw [if_pos c19] at H
              have LMc19 := am c19; clear c19; obtain ⟨y161, hy161⟩ : ∃ y_ : List ByteArray, y_ = (x155002_1 ++ [(rdOf ByteArray.empty l0 x13_1).extract (t157 : Int).toNat (rdOf ByteArray.empty l0 x13_1).size]) := ⟨_, rfl⟩
              replace H : (spec_trFront.l0 k1 l0 a1 l0 (l0.length : Int) (wrap64 (x13_1 + 1)) a1 y158 y161) = some (r1, r2, r3) := by first | (rw [hy161]; with_reducible exact H) | (have H2_ := (Option.bind_some _ _).symm.trans H; rw [hy161]; with_reducible exact H2_) | (have H2_ := (Option.bind_some _ _).symm.trans H; with_reducible exact H2_) | with_reducible exact H | (rw [hy161]; exact H) | exact H
              have Ny161 := am hy161; clear hy161; have H' := am H; clear H; have p155 : 0 ≤ (x13_1 : Int) := dT; have q155 : x13_1 < (l0.length : Int) := dT; obtain ⟨ad155, e155, hx155_0⟩ := Kd.at_string HR0.out x13_1 p155 q155; cases e155; replace hx155_0 := (HB.out.cell (World.block_lt_of_cell? w _ hx155_0)).trans hx155_0; replace p155 := eq_true p155; replace q155 := eq_true q155; have p156 : 0 ≤ ((ji12) : Int) := dT; have q156 : (ji12) < (l0.length : Int) := dT; obtain ⟨ad156, e156, hx156_0⟩ := Kd.at_string HR0.out (ji12) p156 q156; obtain rfl : ad155 = ad156 := (by injection e156); replace hx156_0 := (HB.out.cell (World.block_lt_of_cell? w _ hx156_0)).trans hx156_0; replace p156 := eq_true p156; replace q156 := eq_true q156
              try go_wp2_with (first | ((with_reducible refine gate_callee (f := 65) rfl ?_); refine goesL_ (some 28) rfl rfl Try.func65 (by kernel_rfl) rfl #[.string (rdOf ByteArray.empty l0 (ji12)), .string (rdOf ByteArray.empty l0 x13_1)] rfl (by (try simp only [List.map_toArray, List.map_cons, List.map_nil]); first | done | (simp only [hji12]; rfl) | rfl | (simp only [List.length_drop, List.length_take]; rfl)) ?_; (with_reducible refine (spec_trCommon.calls k1 (rdOf ByteArray.empty l0 (ji12)) (rdOf ByteArray.empty l0 x13_1) t157 _ A15.out).mono ?_); rintro e w' ⟨rfl, ⟨nd, rfl⟩⟩; refine ⟨_, rfl, ?_⟩; (try (rw [drewN_self wr]; generalize hq_ : World.drewN wr _ = wr; have n0_ : Aside0 (Kd.R (Kd.int .i64) 3 wr w.heap.size (fun _ => True) u155001 x155001_1) := ⟨by rw [← hq_]; exact (Rz HO_155001.out)⟩; have n1_ : Aside0 (Kd.R Kd.string 9 wr w.heap.size (fun _ => True) u155002 x155002_1) := ⟨by rw [← hq_]; exact (Rz HO_155002.out)⟩; have n2_ : Aside0 (wr.heap[gb153]? = some (.cells #[.int .i64 0, .slice none 0 0, .slice none 0 0] 26 (0, 0))) := ⟨by rw [← hq_]; exact (Kz BK153.out)⟩; have n3_ : Aside0 (wr.heap[gb154]? = some (.cells #[.int .i64 a1, u155001, u155002] 26 (0, 0))) := ⟨by rw [← hq_]; exact (Kz BK154.out)⟩; have n4_ : Aside0 (Below w.heap.size w wr) := ⟨by rw [← hq_]; exact (Bq)⟩; clear HO_155001 HO_155002 BK153 BK154 HB hq_; revert n0_ n1_ n2_ n3_ n4_; intro HO_155001 HO_155002 BK153 BK154 HB)); have hnb20 := NB154_153.out; have hnc20 := NB153_154.out; obtain ⟨hcz21_0, hcz21_1, hcz21_2, hfz21_0, hfz21_1, hfz21_2⟩ := cf3 (w := wr) BK154) | ((with_reducible refine gate_builtin (b := .append) (xs := #[.tmp 30, .tmp 32]) rfl ?_); at_builtin; refine Kd.R_append (Kd.int .i64) (w0 := w) w.heap.size rfl (.tmp 30) (.tmp 32) 24 3 (.int .i64 0) 8 rfl Try.underlying24 info3 rfl (by decide) (by omega) u155001 x155001_1 t157 [.int .i64 t157] (fun _ => True) (fun _ => False) rfl rfl ?aP (fun _ hk => hk.elim) ?aF ?aO ?aB ?aS ?aL ?_; (case aP => exact rfl); (case aB => exact (Bq)); (case aF => exact (fun _ _ => trivial)); (case aO => exact (Rz HO_155001.out)); (case aS => exact (below_size (w := w) (Bq))); (case aL => have := LMc16.out; omega); intro v159 w22 ho hb hg hat; rw [← Ny158.out] at ho; have n0_ := am (Kd.R_over' (Rz HO_155002.out) (Kd.R_typed (Rz HO_155001.out)) (by decide) hg); have n1_ := am (blk_grown (g := gb153) (o := .cells #[.int .i64 0, .slice none 0 0, .slice none 0 0] 26 (0, 0)) (Kz BK153.out) hg (Kd.R_ne HO_155001.out BK153.out (by decide))); have n2_ := am (blk_grown (g := gb154) (o := .cells #[.int .i64 a1, u155001, u155002] 26 (0, 0)) (Kz BK154.out) hg (Kd.R_ne HO_155001.out BK154.out (by decide))); have n3_ := am (hb); have n4_ := am (ho); clear HO_155002 BK153 BK154 HB HO_155001; revert n0_ n1_ n2_ n3_ n4_; intro HO_155002 BK153 BK154 HB HO160; clear ho hb hg hat; obtain ⟨Ao23, co23, eo23⟩ := Kd.R_slice HO160.out; subst eo23; obtain ⟨hcz24_0, hcz24_1, hcz24_2, hfz24_0, hfz24_1, hfz24_2⟩ := cf3 (w := w22) BK154))
              have n0_ : Aside0 (Kd.R Kd.string 9 (w22.setCell ⟨gb154, 1, none⟩ (.slice Ao23 y158.length co23)) w.heap.size (fun _ => True) u155002 x155002_1) := ⟨Rz (Kd.R_mono (Kd.R_far (p := ⟨gb154, 1, none⟩) (Kd.R_types HO_155002.out BK154.out (by decide)) (fun _ hk => hk.2) (.slice Ao23 y158.length co23)) (fun _ hk => trivial))⟩; have n1_ : Aside0 (Kd.R (Kd.int .i64) 3 (w22.setCell ⟨gb154, 1, none⟩ (.slice Ao23 y158.length co23)) w.heap.size (fun _ => True) (.slice Ao23 y158.length co23) y158) := ⟨Rz (Kd.R_mono (Kd.R_far (p := ⟨gb154, 1, none⟩) (Kd.R_types HO160.out BK154.out (by decide)) (fun _ hk => hk.2) (.slice Ao23 y158.length co23)) (fun _ hk => trivial))⟩; have n2_ : Aside0 ((w22.setCell ⟨gb154, 1, none⟩ (.slice Ao23 y158.length co23)).heap[gb153]? = some (.cells #[.int .i64 0, .slice none 0 0, .slice none 0 0] 26 (0, 0))) := ⟨by refine bp ?_; refine blk_far ?_ NB153_154.out _; refine bp ?_; exact BK153.out⟩; have n3_ : Aside0 ((w22.setCell ⟨gb154, 1, none⟩ (.slice Ao23 y158.length co23)).heap[gb154]? = some (.cells #[.int .i64 a1, .slice Ao23 y158.length co23, u155002] 26 (0, 0))) := ⟨by refine bp ?_; refine blk_put (cs := #[.int .i64 a1, u155001, u155002]) ?_ 1 _ rfl; refine bp ?_; exact BK154.out⟩; have n4_ : Aside0 (Below w.heap.size w (w22.setCell ⟨gb154, 1, none⟩ (.slice Ao23 y158.length co23))) := ⟨Bq⟩
              (try clear HO_155002)
              (try clear HO160)
              (try clear BK153)
              (try clear BK154)
              (try clear HB)
              generalize (w22.setCell ⟨gb154, 1, none⟩ (.slice Ao23 y158.length co23)) = w25 at n0_ n1_ n2_ n3_ n4_ ⊢; revert n0_ n1_ n2_ n3_ n4_; intro HO_155002 HO160 BK153 BK154 HB; have n0_ := am (Kd.R_drew HO_155002.out); have n1_ := am (Kd.R_drew HO160.out); have n2_ := am (blk_drew BK153.out); have n3_ := am (blk_drew BK154.out); have n4_ := am (below_drew1 HB.out); clear HO_155002 HO160 BK153 BK154 HB; revert n0_ n1_ n2_ n3_ n4_; intro HO_155002 HO160 BK153 BK154 HB; refine start_ (n := 9) (S := fun w' => w'.cell? ⟨gb154, 0, none⟩ = some (.int .i64 a1) ∧ w'.cell? ⟨gb154, 1, none⟩ = some (.slice Ao23 y158.length co23) ∧ w'.cell? ⟨gb154, 2, none⟩ = some (u155002)) (ds := [8]) (bA 9 0) (by kernel_rfl) rfl rfl ⟨cz BK154 0, cz BK154 1, cz BK154 2⟩ (fun hHeld => ?_); refine with_tabW spec_trFront.tab9 spec_trFront.bits9 (fun HT_ HW_ => ?_); generalize w25.drew = w26 at HO_155002 HO160 BK153 BK154 HB hHeld ⊢; refine pZ 0 (some 35) (bA 9 1) HT_.out ?_; refine pZ 2 (some 37) (bA 9 5) HT_.out ?_; refine pZ 3 (some 38) (bA 9 13) HT_.out ?_; refine pZ 4 (some 39) (bA 9 29) HT_.out ?_; refine tZ3 1 (some 36) (bA 9 31) HT_.out HW_.out hHeld ?_; refine oZ 5 (some 40) (bA 9 63) HT_.out (fun K hK => ?_); refine value_ (w1 := ?_) (v := ?_) (by rfl) rfl ?_ ?_
              rotate_left 2
              ·go_simp
               constructor
               ·rfl
               ·rfl
              refine hK.out _ _ ⟨(blk_cell (blk_alloc BK154.out _) 0).trans rfl, (blk_cell (blk_alloc BK154.out _) 1).trans rfl, (blk_cell (blk_alloc BK154.out _) 2).trans rfl⟩ (fun hHeld => ?_); clear hK K; refine norm_ (a' := ?_) ?_ ?_; rotate_left; show Act.put _ (some 40) _ = _; simp only [aP, i64_w, i32_w]; rfl; refine oZ 6 (some 41) (bA 9 127) HT_.out (fun K hK => ?_); refine Kd.R_append_step Kd.string (w0 := w) w.heap.size (by rfl) (.tmp 36) (.tmp 40) 22 9 (.string ⟨#[]⟩) 16 rfl Try.underlying22 info9 rfl (by decide) (by omega) u155002 x155002_1 ((rdOf ByteArray.empty l0 x13_1).extract (t157 : Int).toNat (rdOf ByteArray.empty l0 x13_1).size) [.string ((rdOf ByteArray.empty l0 x13_1).extract (t157 : Int).toNat (rdOf ByteArray.empty l0 x13_1).size)] (fun _ => True) (fun _ => False) rfl rfl ?aP (fun _ hk => hk.elim) ?aF ?aO ?aB ?aS ?aL ?_
              (case aP => exact rfl)
              (case aB => exact (Bq))
              (case aF => exact (fun _ _ => trivial))
              (case aO => exact (Rz HO_155002.out))
              (case aS => exact (below_size (w := w) (Bq)))
              (case aL => have := LMc19.out; omega)
              intro v162 w27 ho hb hg hat; rw [← Ny161.out] at ho; have n0_ := am (blk_grown (g := gb153) (o := .cells #[.int .i64 0, .slice none 0 0, .slice none 0 0] 26 (0, 0)) (Kz BK153.out) hg (Kd.R_ne HO_155002.out BK153.out (by decide))); have n1_ := am (blk_grown (g := gb154) (o := .cells #[.int .i64 a1, .slice Ao23 y158.length co23, u155002] 26 (0, 0)) (Kz BK154.out) hg (Kd.R_ne HO_155002.out BK154.out (by decide))); have n2_ := am (Kd.R_over' (Rz HO160.out) (Kd.R_typed (Rz HO_155002.out)) (by decide) hg); have n3_ := am (hb); have n4_ := am (ho); clear BK153 BK154 HO160 HB HO_155002; revert n0_ n1_ n2_ n3_ n4_; intro BK153 BK154 HO160 HB HO163; clear ho hb hg hat; obtain ⟨Ao28, co28, eo28⟩ := Kd.R_slice HO163.out
              (first | subst eo28 | (injection eo28 with f1_ f2_ f3_; have f4_ := f1_.symm; have f5_ := f3_.symm; clear f1_ f2_ f3_; subst f4_; subst f5_))
              refine hK.out _ _ ⟨cz BK154 0, cz BK154 1, cz BK154 2⟩ (fun hHeld => ?_); clear hK K; refine norm_ (a' := ?_) ?_ ?_; rotate_left; show Act.put _ (some 41) _ = _; simp only [aP, i64_w, i32_w]; rfl; refine pZ 7 (some 42) (bA 9 255) HT_.out ?_; refine lZ 8 none (bA 9 511) HT_.out (fun K hK => ?_); have hs29 : w27.cell? ⟨gb154, 2, none⟩ = some (u155002) := cz BK154 2; have hfs29 := blk_frozen BK154.out 2; have hns29_0 := NB153_154.out; have hms29_0 := NB154_153.out; refine skip_ (w1 := ?_) (by rfl) rfl ?_ ?_
              rotate_left
              ·go_simp
               rfl
              refine hK.out _ _ ?_; clear hK K; refine done_ (done_of HT_.out (by kernel_rfl)) ?_
              try go_wp2
              go_roundg k1
              case measure => have := HK1.out; omega
              case rel => exact ⟨(wrap64 (x13_1 + 1)), (y158), (y161), (.slice Ao23 y158.length co23), (.slice Ao28 y161.length co28), wZ, H', ⟨by have := HK1.out; omega⟩, ⟨Rz (Kd.R_mono (Kd.R_far (p := ⟨gb154, 2, none⟩) (Kd.R_types HO160.out BK154.out (by decide)) (fun _ hk => hk.2) (.slice Ao28 y161.length co28)) (fun _ hk => trivial))⟩, ⟨Rz (Kd.R_mono (Kd.R_far (p := ⟨gb154, 2, none⟩) (Kd.R_types HO163.out BK154.out (by decide)) (fun _ hk => hk.2) (.slice Ao28 y161.length co28)) (fun _ hk => trivial))⟩, ⟨by refine bp ?_; refine blk_far ?_ NB153_154.out _; refine bp ?_; exact BK153.out⟩, ⟨by refine bp ?_; refine blk_put (cs := #[.int .i64 a1, .slice Ao23 y158.length co23, u155002]) ?_ 2 _ rfl; refine bp ?_; exact BK154.out⟩, ⟨Bq⟩⟩
             ·rw [if_neg c19] at H
              exact absurd H (by simp)
            ·rw [if_neg c18] at H
             exact absurd H (by simp)
           ·rw [if_neg c17] at H
            exact absurd H (by simp)
          ·rw [if_neg c16] at H
           exact absurd H (by simp)
         ·rw [if_neg c14] at H
          exact absurd H (by simp)
        ·rw [if_neg c13] at H
         exact absurd H (by simp)
       ·rw [if_neg c11] at H
        have c11b0 : decide (0 < (Int.tmod x13_1 a1)) = false := decide_eq_false c11; clear c11
        by_cases c30 : x155001_1.length < 17592186044416
        ·rw [if_pos c30] at H
         have LMc30 := am c30; clear c30; obtain ⟨y164, hy164⟩ : ∃ y_ : List Int, y_ = (x155001_1 ++ [0]) := ⟨_, rfl⟩
         replace H : (if 0 ≤ ((rdOf ByteArray.empty l0 x13_1).size : Int) then (if x155002_1.length < 8796093022208 then (spec_trFront.l0 k1 l0 a1 l0 (l0.length : Int) (wrap64 (x13_1 + 1)) a1 y164 (x155002_1 ++ [rdOf ByteArray.empty l0 x13_1])) else (none)) else (none)) = some (r1, r2, r3) := by first | (rw [hy164]; with_reducible exact H) | (have H2_ := (Option.bind_some _ _).symm.trans H; rw [hy164]; with_reducible exact H2_) | (have H2_ := (Option.bind_some _ _).symm.trans H; with_reducible exact H2_) | with_reducible exact H | (rw [hy164]; exact H) | exact H
         have Ny164 := am hy164; clear hy164
         by_cases c31 : 0 ≤ ((rdOf ByteArray.empty l0 x13_1).size : Int)
         ·rw [if_pos c31] at H
          have c31b0 := eq_true c31; have c31b1 : decide (0 ≤ ((rdOf ByteArray.empty l0 x13_1).size : Int)) = true := decide_eq_true c31; clear c31
          by_cases c32 : x155002_1.length < 8796093022208
          ·rw [if_pos c32] at H
           have LMc32 := am c32; clear c32; obtain ⟨y167, hy167⟩ : ∃ y_ : List ByteArray, y_ = (x155002_1 ++ [rdOf ByteArray.empty l0 x13_1]) := ⟨_, rfl⟩
           replace H : (spec_trFront.l0 k1 l0 a1 l0 (l0.length : Int) (wrap64 (x13_1 + 1)) a1 y164 y167) = some (r1, r2, r3) := by first | (rw [hy167]; with_reducible exact H) | (have H2_ := (Option.bind_some _ _).symm.trans H; rw [hy167]; with_reducible exact H2_) | (have H2_ := (Option.bind_some _ _).symm.trans H; with_reducible exact H2_) | with_reducible exact H | (rw [hy167]; exact H) | exact H
           have Ny167 := am hy167; clear hy167; have H' := am H; clear H; have p155 : 0 ≤ (x13_1 : Int) := dT; have q155 : x13_1 < (l0.length : Int) := dT; obtain ⟨ad155, e155, hx155_0⟩ := Kd.at_string HR0.out x13_1 p155 q155; cases e155; replace hx155_0 := (HB.out.cell (World.block_lt_of_cell? w _ hx155_0)).trans hx155_0; replace p155 := eq_true p155; replace q155 := eq_true q155; have hnb33 := NB154_153.out; have hnc33 := NB153_154.out; obtain ⟨hcz34_0, hcz34_1, hcz34_2, hfz34_0, hfz34_1, hfz34_2⟩ := cf3 (w := wr) BK154
           try go_wp2_with (first | ((with_reducible refine gate_builtin (b := .append) (xs := #[.tmp 30, .tmp 32]) rfl ?_); at_builtin; refine Kd.R_append (Kd.int .i64) (w0 := w) w.heap.size rfl (.tmp 30) (.tmp 32) 24 3 (.int .i64 0) 8 rfl Try.underlying24 info3 rfl (by decide) (by omega) u155001 x155001_1 0 [.int .i64 0] (fun _ => True) (fun _ => False) rfl rfl ?aP (fun _ hk => hk.elim) ?aF ?aO ?aB ?aS ?aL ?_; (case aP => exact rfl); (case aB => exact (Bq)); (case aF => exact (fun _ _ => trivial)); (case aO => exact (Rz HO_155001.out)); (case aS => exact (below_size (w := w) (Bq))); (case aL => have := LMc30.out; omega); intro v165 w35 ho hb hg hat; rw [← Ny164.out] at ho; have n0_ := am (Kd.R_over' (Rz HO_155002.out) (Kd.R_typed (Rz HO_155001.out)) (by decide) hg); have n1_ := am (blk_grown (g := gb153) (o := .cells #[.int .i64 0, .slice none 0 0, .slice none 0 0] 26 (0, 0)) (Kz BK153.out) hg (Kd.R_ne HO_155001.out BK153.out (by decide))); have n2_ := am (blk_grown (g := gb154) (o := .cells #[.int .i64 a1, u155001, u155002] 26 (0, 0)) (Kz BK154.out) hg (Kd.R_ne HO_155001.out BK154.out (by decide))); have n3_ := am (hb); have n4_ := am (ho); clear HO_155002 BK153 BK154 HB HO_155001; revert n0_ n1_ n2_ n3_ n4_; intro HO_155002 BK153 BK154 HB HO166; clear ho hb hg hat; obtain ⟨Ao36, co36, eo36⟩ := Kd.R_slice HO166.out; subst eo36; obtain ⟨hcz37_0, hcz37_1, hcz37_2, hfz37_0, hfz37_1, hfz37_2⟩ := cf3 (w := w35) BK154))
           have n0_ : Aside0 (Kd.R Kd.string 9 (w35.setCell ⟨gb154, 1, none⟩ (.slice Ao36 y164.length co36)) w.heap.size (fun _ => True) u155002 x155002_1) := ⟨Rz (Kd.R_mono (Kd.R_far (p := ⟨gb154, 1, none⟩) (Kd.R_types HO_155002.out BK154.out (by decide)) (fun _ hk => hk.2) (.slice Ao36 y164.length co36)) (fun _ hk => trivial))⟩; have n1_ : Aside0 (Kd.R (Kd.int .i64) 3 (w35.setCell ⟨gb154, 1, none⟩ (.slice Ao36 y164.length co36)) w.heap.size (fun _ => True) (.slice Ao36 y164.length co36) y164) := ⟨Rz (Kd.R_mono (Kd.R_far (p := ⟨gb154, 1, none⟩) (Kd.R_types HO166.out BK154.out (by decide)) (fun _ hk => hk.2) (.slice Ao36 y164.length co36)) (fun _ hk => trivial))⟩; have n2_ : Aside0 ((w35.setCell ⟨gb154, 1, none⟩ (.slice Ao36 y164.length co36)).heap[gb153]? = some (.cells #[.int .i64 0, .slice none 0 0, .slice none 0 0] 26 (0, 0))) := ⟨by refine bp ?_; refine blk_far ?_ NB153_154.out _; refine bp ?_; exact BK153.out⟩; have n3_ : Aside0 ((w35.setCell ⟨gb154, 1, none⟩ (.slice Ao36 y164.length co36)).heap[gb154]? = some (.cells #[.int .i64 a1, .slice Ao36 y164.length co36, u155002] 26 (0, 0))) := ⟨by refine bp ?_; refine blk_put (cs := #[.int .i64 a1, u155001, u155002]) ?_ 1 _ rfl; refine bp ?_; exact BK154.out⟩; have n4_ : Aside0 (Below w.heap.size w (w35.setCell ⟨gb154, 1, none⟩ (.slice Ao36 y164.length co36))) := ⟨Bq⟩
           (try clear HO_155002)
           (try clear HO166)
           (try clear BK153)
           (try clear BK154)
           (try clear HB)
           generalize (w35.setCell ⟨gb154, 1, none⟩ (.slice Ao36 y164.length co36)) = w38 at n0_ n1_ n2_ n3_ n4_ ⊢; revert n0_ n1_ n2_ n3_ n4_; intro HO_155002 HO166 BK153 BK154 HB; have n0_ := am (Kd.R_drew HO_155002.out); have n1_ := am (Kd.R_drew HO166.out); have n2_ := am (blk_drew BK153.out); have n3_ := am (blk_drew BK154.out); have n4_ := am (below_drew1 HB.out); clear HO_155002 HO166 BK153 BK154 HB; revert n0_ n1_ n2_ n3_ n4_; intro HO_155002 HO166 BK153 BK154 HB; refine start_ (n := 9) (S := fun w' => w'.cell? ⟨gb154, 0, none⟩ = some (.int .i64 a1) ∧ w'.cell? ⟨gb154, 1, none⟩ = some (.slice Ao36 y164.length co36) ∧ w'.cell? ⟨gb154, 2, none⟩ = some (u155002)) (ds := [8]) (bA 9 0) (by kernel_rfl) rfl rfl ⟨cz BK154 0, cz BK154 1, cz BK154 2⟩ (fun hHeld => ?_); refine with_tabW spec_trFront.tab9 spec_trFront.bits9 (fun HT_ HW_ => ?_); generalize w38.drew = w39 at HO_155002 HO166 BK153 BK154 HB hHeld ⊢; refine pZ 0 (some 35) (bA 9 1) HT_.out ?_; refine pZ 2 (some 37) (bA 9 5) HT_.out ?_; refine pZ 3 (some 38) (bA 9 13) HT_.out ?_; refine pZ 4 (some 39) (bA 9 29) HT_.out ?_; refine tZ3 1 (some 36) (bA 9 31) HT_.out HW_.out hHeld ?_; refine oZ 5 (some 40) (bA 9 63) HT_.out (fun K hK => ?_); refine value_ (w1 := ?_) (v := ?_) (by rfl) rfl ?_ ?_
           rotate_left 2
           ·go_simp
            constructor
            ·rfl
            ·rfl
           refine hK.out _ _ ⟨(blk_cell (blk_alloc BK154.out _) 0).trans rfl, (blk_cell (blk_alloc BK154.out _) 1).trans rfl, (blk_cell (blk_alloc BK154.out _) 2).trans rfl⟩ (fun hHeld => ?_); clear hK K; refine norm_ (a' := ?_) ?_ ?_; rotate_left; show Act.put _ (some 40) _ = _; simp only [aP, i64_w, i32_w]; rfl; refine oZ 6 (some 41) (bA 9 127) HT_.out (fun K hK => ?_); refine Kd.R_append_step Kd.string (w0 := w) w.heap.size (by rfl) (.tmp 36) (.tmp 40) 22 9 (.string ⟨#[]⟩) 16 rfl Try.underlying22 info9 rfl (by decide) (by omega) u155002 x155002_1 (rdOf ByteArray.empty l0 x13_1) [.string (rdOf ByteArray.empty l0 x13_1)] (fun _ => True) (fun _ => False) rfl rfl ?aP (fun _ hk => hk.elim) ?aF ?aO ?aB ?aS ?aL ?_
           (case aP => exact rfl)
           (case aB => exact (Bq))
           (case aF => exact (fun _ _ => trivial))
           (case aO => exact (Rz HO_155002.out))
           (case aS => exact (below_size (w := w) (Bq)))
           (case aL => have := LMc32.out; omega)
           intro v168 w40 ho hb hg hat; rw [← Ny167.out] at ho; have n0_ := am (blk_grown (g := gb153) (o := .cells #[.int .i64 0, .slice none 0 0, .slice none 0 0] 26 (0, 0)) (Kz BK153.out) hg (Kd.R_ne HO_155002.out BK153.out (by decide))); have n1_ := am (blk_grown (g := gb154) (o := .cells #[.int .i64 a1, .slice Ao36 y164.length co36, u155002] 26 (0, 0)) (Kz BK154.out) hg (Kd.R_ne HO_155002.out BK154.out (by decide))); have n2_ := am (Kd.R_over' (Rz HO166.out) (Kd.R_typed (Rz HO_155002.out)) (by decide) hg); have n3_ := am (hb); have n4_ := am (ho); clear BK153 BK154 HO166 HB HO_155002; revert n0_ n1_ n2_ n3_ n4_; intro BK153 BK154 HO166 HB HO169; clear ho hb hg hat; obtain ⟨Ao41, co41, eo41⟩ := Kd.R_slice HO169.out
           (first | subst eo41 | (injection eo41 with f1_ f2_ f3_; have f4_ := f1_.symm; have f5_ := f3_.symm; clear f1_ f2_ f3_; subst f4_; subst f5_))
           refine hK.out _ _ ⟨cz BK154 0, cz BK154 1, cz BK154 2⟩ (fun hHeld => ?_); clear hK K; refine norm_ (a' := ?_) ?_ ?_; rotate_left; show Act.put _ (some 41) _ = _; simp only [aP, i64_w, i32_w]; rfl; refine pZ 7 (some 42) (bA 9 255) HT_.out ?_; refine lZ 8 none (bA 9 511) HT_.out (fun K hK => ?_); have hs42 : w40.cell? ⟨gb154, 2, none⟩ = some (u155002) := cz BK154 2; have hfs42 := blk_frozen BK154.out 2; have hns42_0 := NB153_154.out; have hms42_0 := NB154_153.out; refine skip_ (w1 := ?_) (by rfl) rfl ?_ ?_
           rotate_left
           ·go_simp
            rfl
           refine hK.out _ _ ?_; clear hK K; refine done_ (done_of HT_.out (by kernel_rfl)) ?_
           try go_wp2
           go_roundg k1
           case measure => have := HK1.out; omega
           case rel => exact ⟨(wrap64 (x13_1 + 1)), (y164), (y167), (.slice Ao36 y164.length co36), (.slice Ao41 y167.length co41), wZ, H', ⟨by have := HK1.out; omega⟩, ⟨Rz (Kd.R_mono (Kd.R_far (p := ⟨gb154, 2, none⟩) (Kd.R_types HO166.out BK154.out (by decide)) (fun _ hk => hk.2) (.slice Ao41 y167.length co41)) (fun _ hk => trivial))⟩, ⟨Rz (Kd.R_mono (Kd.R_far (p := ⟨gb154, 2, none⟩) (Kd.R_types HO169.out BK154.out (by decide)) (fun _ hk => hk.2) (.slice Ao41 y167.length co41)) (fun _ hk => trivial))⟩, ⟨by refine bp ?_; refine blk_far ?_ NB153_154.out _; refine bp ?_; exact BK153.out⟩, ⟨by refine bp ?_; refine blk_put (cs := #[.int .i64 a1, .slice Ao36 y164.length co36, u155002]) ?_ 2 _ rfl; refine bp ?_; exact BK154.out⟩, ⟨Bq⟩⟩
          ·rw [if_neg c32] at H
           exact absurd H (by simp)
         ·rw [if_neg c31] at H
          exact absurd H (by simp)
        ·rw [if_neg c30] at H
         exact absurd H (by simp)
     ·rw [if_neg c9] at H
      exact absurd H (by simp)
    ·rw [if_neg c8] at H
     exact absurd H (by simp)
   ·rw [if_neg c7] at H
    have c7b0 : decide (x13_1 < (l0.length : Int)) = false := decide_eq_false c7; clear c7
    simp only [Option.some.injEq, Prod.mk.injEq] at H
    obtain ⟨rfl, rfl, rfl⟩ := H; have hnb43 := NB154_153.out; have hnc43 := NB153_154.out; obtain ⟨hcz44_0, hcz44_1, hcz44_2, hfz44_0, hfz44_1, hfz44_2⟩ := cf3 (w := wr) BK154; obtain ⟨hcz45_0, hcz45_1, hcz45_2, hfz45_0, hfz45_1, hfz45_2⟩ := cf3 (w := wr) BK153; obtain ⟨Ao46, co46, eo46⟩ := Kd.R_slice HO_155001.out; subst eo46; obtain ⟨Ao47, co47, eo47⟩ := Kd.R_slice HO_155002.out; subst eo47
    go_wp2
    refine bodyPost_ret (results_cell_row rfl _ _ gb153 26 #[.int .i64 a1, .slice Ao46 x155001_1.length co46, .slice Ao47 x155002_1.length co47] (0, 0) _ rfl (by refine bp ?_; refine blk_put (cs := #[.int .i64 a1, .slice Ao46 x155001_1.length co46, .slice none 0 0]) ?_ 2 _ rfl; refine bp ?_; refine blk_put (cs := #[.int .i64 a1, .slice none 0 0, .slice none 0 0]) ?_ 1 _ rfl; refine bp ?_; refine blk_put (cs := #[.int .i64 0, .slice none 0 0, .slice none 0 0]) ?_ 0 _ rfl; exact Kz BK153.out) Try.underlying26 rfl (by kernel_rfl)) rfl ?_; exact ⟨_, _, eZ, Rz (Kd.R_mono (Kd.R_far (p := ⟨gb153, 2, none⟩) (Kd.R_far (p := ⟨gb153, 1, none⟩) (Kd.R_far (p := ⟨gb153, 0, none⟩) (Kd.R_types HO_155001.out BK153.out (by decide)) (fun _ hk => hk.2) (.int .i64 a1)) (fun _ hk => hk.2) (.slice Ao46 x155001_1.length co46)) (fun _ hk => hk.2) (.slice Ao47 x155002_1.length co47)) (fun _ hk => trivial)), Rz (Kd.R_mono (Kd.R_far (p := ⟨gb153, 2, none⟩) (Kd.R_far (p := ⟨gb153, 1, none⟩) (Kd.R_far (p := ⟨gb153, 0, none⟩) (Kd.R_types HO_155002.out BK153.out (by decide)) (fun _ hk => hk.2) (.int .i64 a1)) (fun _ hk => hk.2) (.slice Ao46 x155001_1.length co46)) (fun _ hk => hk.2) (.slice Ao47 x155002_1.length co47)) (fun _ hk => trivial)), Bq⟩

def spec_l1Same.l0 : Nat → List Int → List Int → Int → Int → Option (Bool)
 | 0, _, _, _, _ => none
 | k + 1, x0, x1, x12, x13 => if x13 < x12 then (if 0 ≤ x13 then (if x13 < (x0.length : Int) then (if x13 < (x1.length : Int) then (if (rd x0 x13) = (rd x1 x13) then (spec_l1Same.l0 k x0 x1 x12 (wrap64 (x13 + 1))) else (some false)) else (none)) else (none)) else (none)) else (some true)
def spec_l1Same.f (k : Nat) (l0 : List Int) (l1 : List Int) : Option (Bool) := if (l0.length : Int) = (l1.length : Int) then (spec_l1Same.l0 k l0 l1 (l0.length : Int) 0) else (some false)
theorem spec_l1Same.calls (k : Nat) (A0 : Option Addr) (c0 : Nat) (l0 : List Int) (A1 : Option Addr) (c1 : Nat) (l1 : List Int) (r : Bool) (w : World) (hr0 : Kd.C (Kd.int .i64) w A0 l0.length l0) (hc0 : l0.length ≤ c0) (hr1 : Kd.C (Kd.int .i64) w A1 l1.length l1) (hc1 : l1.length ≤ c1) (h : spec_l1Same.f k l0 l1 = some r) :
  Calls Try.prog 67 #[.slice A0 l0.length c0, .slice A1 l1.length c1] w fun e w' => e = .returned (.bool r) ∧ Drawn0 w w' := by
 have HR0 := am hr0; have HC0 := am hc0; clear hr0 hc0; have HR1 := am hr1; have HC1 := am hc1; clear hr1 hc1; have H : (if (l0.length : Int) = (l1.length : Int) then (spec_l1Same.l0 k l0 l1 (l0.length : Int) 0) else (some false)) = some r := h; clear h
 by_cases c3 : (l0.length : Int) = (l1.length : Int)
 ·rw [if_pos c3] at H
  have c3b0 : ((l0.length : Int) == (l1.length : Int)) = true := beq_iff_eq.mpr c3; have c3b1 : ((l0.length : Int) != (l1.length : Int)) = false := bne_eq_false_iff_eq.mpr c3
  have c3b2 : (l0.length == l1.length) = true := by first | simpa using c3 | (simp at c3 ⊢; omega)
  clear c3; have H' := am H; clear H
  go_enter Try.func67, Try.ntmps67
  go_wp2
  repeat (go_quiet (fail); try go_wp2)
  go_loopg [13] k (fun kq v13 w' => ∃ (x13_1 : Int), v13 = .int .i64 x13_1 ∧ Aside0 (spec_l1Same.l0 kq l0 l1 (l0.length : Int) x13_1 = some r) ∧ Aside0 (kq ≤ k) ∧ Drawn0 w w')
  case atStart => exact ⟨(0), wZ, H', ⟨Nat.le_refl _⟩, by repeat (first | exact Drawn0.refl _ | apply Drawn0.step)⟩
  case round =>
   clear H'
   try clear c1
   try clear p2
   try clear c3
   try clear c3b0
   try clear c3b1
   try clear c3b2
   obtain ⟨x13_1, rfl, HA, HK1, ⟨m1, rfl⟩⟩ := hrel; cases gk with
   | zero => exact absurd HA.out (by simp [spec_l1Same.l0])
   | succ k1 =>
    have H := HA.out; clear HA
    simp only [spec_l1Same.l0] at H
    by_cases c4 : x13_1 < (l0.length : Int)
    ·rw [if_pos c4] at H
     have c4b0 : decide (x13_1 < (l0.length : Int)) = true := decide_eq_true c4; clear c4
     by_cases c5 : 0 ≤ x13_1
     ·rw [if_pos c5] at H
      have c5b0 : decide (0 ≤ x13_1) = true := decide_eq_true c5; clear c5
      by_cases c6 : x13_1 < (l0.length : Int)
      ·rw [if_pos c6] at H
       have c6b0 : decide (x13_1 < (l0.length : Int)) = true := decide_eq_true c6; clear c6
       by_cases c7 : x13_1 < (l1.length : Int)
       ·rw [if_pos c7] at H
        have c7b0 : decide (x13_1 < (l1.length : Int)) = true := decide_eq_true c7; clear c7
        by_cases c8 : (rd l0 x13_1) = (rd l1 x13_1)
        ·rw [if_pos c8] at H
         have c8b0 : ((rd l0 x13_1) == (rd l1 x13_1)) = true := beq_iff_eq.mpr c8; have c8b1 : ((rd l0 x13_1) != (rd l1 x13_1)) = false := bne_eq_false_iff_eq.mpr c8; clear c8; have H' := am H; clear H; obtain ⟨ad170, e170, hx170_0⟩ := Kd.at_int HR0.out x13_1 dT dT; cases e170; have p170 := eT (0 ≤ (x13_1 : Int)); have q170 := eT (x13_1 < (l0.length : Int)); obtain ⟨ad171, e171, hx171_0⟩ := Kd.at_int HR1.out x13_1 dT dT; cases e171; have p171 := eT (0 ≤ (x13_1 : Int)); have q171 := eT (x13_1 < (l1.length : Int))
         go_wp2
         repeat (go_quiet (fail); try go_wp2)
         go_roundg k1
         case measure => have := HK1.out; omega
         case rel => exact ⟨(wrap64 (x13_1 + 1)), wZ, H', ⟨by have := HK1.out; omega⟩, by repeat (first | exact Drawn0.refl _ | apply Drawn0.step)⟩
        ·rw [if_neg c8] at H
         have c8b0 : ((rd l0 x13_1) == (rd l1 x13_1)) = false := beq_eq_false_iff_ne.mpr c8; have c8b1 : ((rd l0 x13_1) != (rd l1 x13_1)) = true := bne_iff_ne.mpr c8; obtain rfl := Option.some.inj H; obtain ⟨ad170, e170, hx170_0⟩ := Kd.at_int HR0.out x13_1 dT dT; cases e170; have p170 := eT (0 ≤ (x13_1 : Int)); have q170 := eT (x13_1 < (l0.length : Int)); obtain ⟨ad171, e171, hx171_0⟩ := Kd.at_int HR1.out x13_1 dT dT; cases e171; have p171 := eT (0 ≤ (x13_1 : Int)); have q171 := eT (x13_1 < (l1.length : Int))
         go_wp2
         repeat (go_quiet (fail); try go_wp2)
         go_ret
         exact ⟨by first | rfl | (simp; done) | (simp [*]; done), by repeat (first | exact Drawn0.refl _ | apply Drawn0.step)⟩
       ·rw [if_neg c7] at H
        exact absurd H (by simp)
      ·rw [if_neg c6] at H
       exact absurd H (by simp)
     ·rw [if_neg c5] at H
      exact absurd H (by simp)
    ·rw [if_neg c4] at H
     have c4b0 : decide (x13_1 < (l0.length : Int)) = false := decide_eq_false c4; clear c4; obtain rfl := Option.some.inj H
     go_wp2
     repeat (go_quiet (fail); try go_wp2)
     go_ret
     exact ⟨by first | rfl | (simp; done) | (simp [*]; done), by repeat (first | exact Drawn0.refl _ | apply Drawn0.step)⟩
 ·rw [if_neg c3] at H
  have c3b0 : ((l0.length : Int) == (l1.length : Int)) = false := beq_eq_false_iff_ne.mpr c3; have c3b1 : ((l0.length : Int) != (l1.length : Int)) = true := bne_iff_ne.mpr c3
  have c3b2 : (l0.length == l1.length) = false := by first | simpa using c3 | (simp at c3 ⊢; omega)
  obtain rfl := Option.some.inj H
  go_enter Try.func67, Try.ntmps67
  go_wp2
  repeat (go_quiet (fail); try go_wp2)
  go_ret
  exact ⟨by first | rfl | (simp; done) | (simp [*]; done), by repeat (first | exact Drawn0.refl _ | apply Drawn0.step)⟩

def spec_l1SameS.l0 : Nat → List ByteArray → List ByteArray → Int → Int → Option (Bool)
 | 0, _, _, _, _ => none
 | k + 1, x0, x1, x12, x13 => if x13 < x12 then (if 0 ≤ x13 then (if x13 < (x0.length : Int) then (if x13 < (x1.length : Int) then (if (rdOf ByteArray.empty x0 x13).toList = (rdOf ByteArray.empty x1 x13).toList then (spec_l1SameS.l0 k x0 x1 x12 (wrap64 (x13 + 1))) else (some false)) else (none)) else (none)) else (none)) else (some true)
def spec_l1SameS.f (k : Nat) (l0 : List ByteArray) (l1 : List ByteArray) : Option (Bool) := if (l0.length : Int) = (l1.length : Int) then (spec_l1SameS.l0 k l0 l1 (l0.length : Int) 0) else (some false)
theorem spec_l1SameS.calls (k : Nat) (A0 : Option Addr) (c0 : Nat) (l0 : List ByteArray) (A1 : Option Addr) (c1 : Nat) (l1 : List ByteArray) (r : Bool) (w : World) (hr0 : Kd.C Kd.string w A0 l0.length l0) (hc0 : l0.length ≤ c0) (hr1 : Kd.C Kd.string w A1 l1.length l1) (hc1 : l1.length ≤ c1) (h : spec_l1SameS.f k l0 l1 = some r) :
  Calls Try.prog 68 #[.slice A0 l0.length c0, .slice A1 l1.length c1] w fun e w' => e = .returned (.bool r) ∧ Drawn0 w w' := by
 have HR0 := am hr0; have HC0 := am hc0; clear hr0 hc0; have HR1 := am hr1; have HC1 := am hc1; clear hr1 hc1; have H : (if (l0.length : Int) = (l1.length : Int) then (spec_l1SameS.l0 k l0 l1 (l0.length : Int) 0) else (some false)) = some r := h; clear h
 by_cases c3 : (l0.length : Int) = (l1.length : Int)
 ·rw [if_pos c3] at H
  have c3b0 : ((l0.length : Int) == (l1.length : Int)) = true := beq_iff_eq.mpr c3; have c3b1 : ((l0.length : Int) != (l1.length : Int)) = false := bne_eq_false_iff_eq.mpr c3
  have c3b2 : (l0.length == l1.length) = true := by first | simpa using c3 | (simp at c3 ⊢; omega)
  clear c3; have H' := am H; clear H
  go_enter Try.func68, Try.ntmps68
  go_wp2
  repeat (go_quiet (fail); try go_wp2)
  go_loopg [13] k (fun kq v13 w' => ∃ (x13_1 : Int), v13 = .int .i64 x13_1 ∧ Aside0 (spec_l1SameS.l0 kq l0 l1 (l0.length : Int) x13_1 = some r) ∧ Aside0 (kq ≤ k) ∧ Drawn0 w w')
  case atStart => exact ⟨(0), wZ, H', ⟨Nat.le_refl _⟩, by repeat (first | exact Drawn0.refl _ | apply Drawn0.step)⟩
  case round =>
   clear H'
   try clear c1
   try clear p2
   try clear c3
   try clear c3b0
   try clear c3b1
   try clear c3b2
   obtain ⟨x13_1, rfl, HA, HK1, ⟨m1, rfl⟩⟩ := hrel; cases gk with
   | zero => exact absurd HA.out (by simp [spec_l1SameS.l0])
   | succ k1 =>
    have H := HA.out; clear HA
    simp only [spec_l1SameS.l0] at H
    by_cases c4 : x13_1 < (l0.length : Int)
    ·rw [if_pos c4] at H
     have c4b0 : decide (x13_1 < (l0.length : Int)) = true := decide_eq_true c4; clear c4
     by_cases c5 : 0 ≤ x13_1
     ·rw [if_pos c5] at H
      have c5b0 : decide (0 ≤ x13_1) = true := decide_eq_true c5; clear c5
      by_cases c6 : x13_1 < (l0.length : Int)
      ·rw [if_pos c6] at H
       have c6b0 : decide (x13_1 < (l0.length : Int)) = true := decide_eq_true c6; clear c6
       by_cases c7 : x13_1 < (l1.length : Int)
       ·rw [if_pos c7] at H
        have c7b0 : decide (x13_1 < (l1.length : Int)) = true := decide_eq_true c7; clear c7
        by_cases c8 : (rdOf ByteArray.empty l0 x13_1).toList = (rdOf ByteArray.empty l1 x13_1).toList
        ·rw [if_pos c8] at H
         have c8b0 : ((rdOf ByteArray.empty l0 x13_1).toList == (rdOf ByteArray.empty l1 x13_1).toList) = true := beq_iff_eq.mpr c8; have c8b1 : ((rdOf ByteArray.empty l0 x13_1).toList != (rdOf ByteArray.empty l1 x13_1).toList) = false := bne_eq_false_iff_eq.mpr c8; clear c8; have H' := am H; clear H; obtain ⟨ad172, e172, hx172_0⟩ := Kd.at_string HR0.out x13_1 dT dT; cases e172; have p172 := eT (0 ≤ (x13_1 : Int)); have q172 := eT (x13_1 < (l0.length : Int)); obtain ⟨ad173, e173, hx173_0⟩ := Kd.at_string HR1.out x13_1 dT dT; cases e173; have p173 := eT (0 ≤ (x13_1 : Int)); have q173 := eT (x13_1 < (l1.length : Int))
         go_wp2
         repeat (go_quiet (fail); try go_wp2)
         go_roundg k1
         case measure => have := HK1.out; omega
         case rel => exact ⟨(wrap64 (x13_1 + 1)), wZ, H', ⟨by have := HK1.out; omega⟩, by repeat (first | exact Drawn0.refl _ | apply Drawn0.step)⟩
        ·rw [if_neg c8] at H
         have c8b0 : ((rdOf ByteArray.empty l0 x13_1).toList == (rdOf ByteArray.empty l1 x13_1).toList) = false := beq_eq_false_iff_ne.mpr c8; have c8b1 : ((rdOf ByteArray.empty l0 x13_1).toList != (rdOf ByteArray.empty l1 x13_1).toList) = true := bne_iff_ne.mpr c8; obtain rfl := Option.some.inj H; obtain ⟨ad172, e172, hx172_0⟩ := Kd.at_string HR0.out x13_1 dT dT; cases e172; have p172 := eT (0 ≤ (x13_1 : Int)); have q172 := eT (x13_1 < (l0.length : Int)); obtain ⟨ad173, e173, hx173_0⟩ := Kd.at_string HR1.out x13_1 dT dT; cases e173; have p173 := eT (0 ≤ (x13_1 : Int)); have q173 := eT (x13_1 < (l1.length : Int))
         go_wp2
         repeat (go_quiet (fail); try go_wp2)
         go_ret
         exact ⟨by first | rfl | (simp; done) | (simp [*]; done), by repeat (first | exact Drawn0.refl _ | apply Drawn0.step)⟩
       ·rw [if_neg c7] at H
        exact absurd H (by simp)
      ·rw [if_neg c6] at H
       exact absurd H (by simp)
     ·rw [if_neg c5] at H
      exact absurd H (by simp)
    ·rw [if_neg c4] at H
     have c4b0 : decide (x13_1 < (l0.length : Int)) = false := decide_eq_false c4; clear c4; obtain rfl := Option.some.inj H
     go_wp2
     repeat (go_quiet (fail); try go_wp2)
     go_ret
     exact ⟨by first | rfl | (simp; done) | (simp [*]; done), by repeat (first | exact Drawn0.refl _ | apply Drawn0.step)⟩
 ·rw [if_neg c3] at H
  have c3b0 : ((l0.length : Int) == (l1.length : Int)) = false := beq_eq_false_iff_ne.mpr c3; have c3b1 : ((l0.length : Int) != (l1.length : Int)) = true := bne_iff_ne.mpr c3
  have c3b2 : (l0.length == l1.length) = false := by first | simpa using c3 | (simp at c3 ⊢; omega)
  obtain rfl := Option.some.inj H
  go_enter Try.func68, Try.ntmps68
  go_wp2
  repeat (go_quiet (fail); try go_wp2)
  go_ret
  exact ⟨by first | rfl | (simp; done) | (simp [*]; done), by repeat (first | exact Drawn0.refl _ | apply Drawn0.step)⟩

mutual
def spec_trFronted.j0 : Nat → Bool → Int → List Int → List ByteArray → Option (List ByteArray × Bool)
 | 0, _, _, _, _ => none
 | k + 1, x27, x175000, x175001, x175002 => if x27 = true then (some (([] : List ByteArray), false)) else (spec_trFronted.l0 k ([] : List ByteArray) (⟨#[]⟩ : ByteArray) x175001 (x175001.length : Int) 0 x175000 x175001 x175002)
def spec_trFronted.l0 : Nat → List ByteArray → ByteArray → List Int → Int → Int → Int → List Int → List ByteArray → Option (List ByteArray × Bool)
 | 0, _, _, _, _, _, _, _, _ => none
 | k + 1, x4, x5, x29, x30, x31, x175000, x175001, x175002 => if x31 < x30 then (if 0 ≤ x31 then (if x31 < (x29.length : Int) then ((spec_l1In.f (rd x29 x31) 0 (x5.size : Int)).bind fun t177 => (if t177 = true then (if x31 < (x175002.length : Int) then (if ((rdOf ByteArray.empty x175002 x31).size : Int) > 12 then (some (([] : List ByteArray), false)) else (if 0 ≤ (rd x29 x31) then (if (rd x29 x31) ≤ (x5.size : Int) then (if (x5.extract 0 ((rd x29 x31) : Int).toNat).size + (rdOf ByteArray.empty x175002 x31).size ≤ 9223372036854775807 then (if x4.length < 8796093022208 then (spec_trFronted.l0 k (x4 ++ [(x5.extract 0 ((rd x29 x31) : Int).toNat) ++ (rdOf ByteArray.empty x175002 x31)]) ((x5.extract 0 ((rd x29 x31) : Int).toNat) ++ (rdOf ByteArray.empty x175002 x31)) x29 x30 (wrap64 (x31 + 1)) x175000 x175001 x175002) else (none)) else (none)) else (none)) else (none))) else (none)) else (some (([] : List ByteArray), false)))) else (none)) else (none)) else ((spec_biKeys.f k x4).bind fun t183 => (if t183 = true then ((spec_trFront.f k x4 x175000).bind fun bt184 => ((spec_l1Same.f k x175001 bt184.2.1).bind fun t192 => (if t192 = true then ((spec_l1SameS.f k x175002 bt184.2.2).bind fun t193 => (some (x4, t193))) else (some (x4, false))))) else (some (([] : List ByteArray), false))))
end
def spec_trFronted.f (k : Nat) (a0_0 : Int) (l0_1 : List Int) (l0_2 : List ByteArray) : Option (List ByteArray × Bool) := (spec_l1In.f a0_0 1 16).bind fun t175 => (if t175 = true then (if (l0_1.length : Int) = (l0_2.length : Int) then (spec_trFronted.j0 k (decide ((l0_1.length : Int) > 40)) a0_0 l0_1 l0_2) else (spec_trFronted.j0 k true a0_0 l0_1 l0_2)) else (spec_trFronted.j0 k true a0_0 l0_1 l0_2))
theorem spec_trFronted.calls (k : Nat) (a0_0 : Int) (A0_1 : Option Addr) (c0_1 : Nat) (l0_1 : List Int) (A0_2 : Option Addr) (c0_2 : Nat) (l0_2 : List ByteArray) (r1 : List ByteArray) (r2 : Bool) (w : World) (hr0_1 : Kd.C (Kd.int .i64) w A0_1 l0_1.length l0_1) (hc0_1 : l0_1.length ≤ c0_1) (hr0_2 : Kd.C Kd.string w A0_2 l0_2.length l0_2) (hc0_2 : l0_2.length ≤ c0_2) (h : spec_trFronted.f k a0_0 l0_1 l0_2 = some (r1, r2)) :
  Calls Try.prog 50 #[.agg #[.int .i64 a0_0, .slice A0_1 l0_1.length c0_1, .slice A0_2 l0_2.length c0_2]] w fun e w' => ∃ v0_ : Value, e = .returned (.tuple #[v0_, .bool r2]) ∧ Kd.R Kd.string 9 w' w.heap.size (fun _ => True) v0_ r1 ∧ Below w.heap.size w w' := by
 have hu26 := Try.underlying26; have HR0_1 := am hr0_1; have HC0_1 := am hc0_1; clear hr0_1 hc0_1; have HR0_2 := am hr0_2; have HC0_2 := am hc0_2; clear hr0_2 hc0_2; have HB := am (Below.refl w.heap.size w); have H : ((spec_l1In.f a0_0 1 16).bind fun t175 => (if t175 = true then (if (l0_1.length : Int) = (l0_2.length : Int) then (spec_trFronted.j0 k (decide ((l0_1.length : Int) > 40)) a0_0 l0_1 l0_2) else (spec_trFronted.j0 k true a0_0 l0_1 l0_2)) else (spec_trFronted.j0 k true a0_0 l0_1 l0_2))) = some (r1, r2) := h; clear h; have HC2 := am H; clear H
 go_enter Try.func50, Try.ntmps50
 go_upto_region 1 with (first | ((with_reducible refine gate_dst (N := 1) rfl ?_); (try (refine gate_guard (by rfl) ?_; dsimp only)); refine bE 1 #[.int .i64 a0_0, .slice A0_1 l0_1.length c0_1, .slice A0_2 l0_2.length c0_2] 26 ?_; intro gb174 hg w3 hbox hb; have n0_ := Bb HB hb; have n1_ := am (hbox); have n2_ := Gl HB hg; have n3_ := Gl HB hg; clear HB; revert n0_ n1_ n2_ n3_; intro HB BK174 GW174 GE174; clear hb hbox hg))
 repeat (go_quiet (first | ((with_reducible refine gate_dst (N := 1) rfl ?_); (try (refine gate_guard (by rfl) ?_; dsimp only)); refine bE 1 #[.int .i64 a0_0, .slice A0_1 l0_1.length c0_1, .slice A0_2 l0_2.length c0_2] 26 ?_; intro gb174 hg w3 hbox hb; have n0_ := Bb HB hb; have n1_ := am (hbox); have n2_ := Gl HB hg; have n3_ := Gl HB hg; clear HB; revert n0_ n1_ n2_ n3_; intro HB BK174 GW174 GE174; clear hb hbox hg)); go_upto_region 1 with (first | ((with_reducible refine gate_dst (N := 1) rfl ?_); (try (refine gate_guard (by rfl) ?_; dsimp only)); refine bE 1 #[.int .i64 a0_0, .slice A0_1 l0_1.length c0_1, .slice A0_2 l0_2.length c0_2] 26 ?_; intro gb174 hg w3 hbox hb; have n0_ := Bb HB hb; have n1_ := am (hbox); have n2_ := Gl HB hg; have n3_ := Gl HB hg; clear HB; revert n0_ n1_ n2_ n3_; intro HB BK174 GW174 GE174; clear hb hbox hg)))
 (try simp only [aP])
 go_cut [27] (fun v27 wc => ∃ (kq : Nat) (x27_1 : Bool), v27 = .bool x27_1 ∧ Aside0 (spec_trFronted.j0 kq x27_1 a0_0 l0_1 l0_2 = some (r1, r2)) ∧ Aside0 (kq ≤ k) ∧ Aside0 (wc.heap[gb174]? = some (.cells #[.int .i64 a0_0, (.slice A0_1 l0_1.length c0_1), (.slice A0_2 l0_2.length c0_2)] 26 (0, 0))) ∧ Aside0 (Below w.heap.size w wc))
 case first =>
  have H := HC2.out; clear HC2; obtain ⟨t175, A4, H⟩ := ob H; (try dsimp -simprocs only at H)
  by_cases c5 : t175 = true
  ·subst c5
   rw [if_pos rfl] at H
   by_cases c6 : (l0_1.length : Int) = (l0_2.length : Int)
   ·rw [if_pos c6] at H
    have c6b0 : ((l0_1.length : Int) == (l0_2.length : Int)) = true := beq_iff_eq.mpr c6; have c6b1 : ((l0_1.length : Int) != (l0_2.length : Int)) = false := bne_eq_false_iff_eq.mpr c6
    have c6b2 : (l0_1.length == l0_2.length) = true := by first | simpa using c6 | (simp at c6 ⊢; omega)
    clear c6
    (first | rw [c6b0] | (simp only [i64_w, i32_w]; rw [c6b0]) | skip)
    have H' := am H; clear H; obtain ⟨hcz7_0, hcz7_1, hcz7_2, hfz7_0, hfz7_1, hfz7_2⟩ := cf3 (w := w3) BK174
    go_wp2_with (first | (go_at_call 39; (with_reducible refine (spec_l1In.calls a0_0 1 16 true _ A4.out).mono ?_); rintro e w' ⟨rfl, ⟨nd, rfl⟩⟩; (try exact yZ)))
    repeat (go_quiet (first | (go_at_call 39; (with_reducible refine (spec_l1In.calls a0_0 1 16 true _ A4.out).mono ?_); rintro e w' ⟨rfl, ⟨nd, rfl⟩⟩; (try exact yZ))); try go_wp2_with (first | (go_at_call 39; (with_reducible refine (spec_l1In.calls a0_0 1 16 true _ A4.out).mono ?_); rintro e w' ⟨rfl, ⟨nd, rfl⟩⟩; (try exact yZ))))
    go_meet
    case rel => exact ⟨_, (decide ((l0_1.length : Int) > 40)), wZ, H', ⟨by first | omega | exact Nat.le_refl _⟩, ⟨Kz BK174.out⟩, ⟨Bq⟩⟩
   ·rw [if_neg c6] at H
    have c6b0 : ((l0_1.length : Int) == (l0_2.length : Int)) = false := beq_eq_false_iff_ne.mpr c6; have c6b1 : ((l0_1.length : Int) != (l0_2.length : Int)) = true := bne_iff_ne.mpr c6
    have c6b2 : (l0_1.length == l0_2.length) = false := by first | simpa using c6 | (simp at c6 ⊢; omega)
    (first | rw [c6b0] | (simp only [i64_w, i32_w]; rw [c6b0]) | skip)
    have H' := am H; clear H; obtain ⟨hcz8_0, hcz8_1, hcz8_2, hfz8_0, hfz8_1, hfz8_2⟩ := cf3 (w := w3) BK174
    go_wp2_with (first | (go_at_call 39; (with_reducible refine (spec_l1In.calls a0_0 1 16 true _ A4.out).mono ?_); rintro e w' ⟨rfl, ⟨nd, rfl⟩⟩; (try exact yZ)))
    repeat (go_quiet (first | (go_at_call 39; (with_reducible refine (spec_l1In.calls a0_0 1 16 true _ A4.out).mono ?_); rintro e w' ⟨rfl, ⟨nd, rfl⟩⟩; (try exact yZ))); try go_wp2_with (first | (go_at_call 39; (with_reducible refine (spec_l1In.calls a0_0 1 16 true _ A4.out).mono ?_); rintro e w' ⟨rfl, ⟨nd, rfl⟩⟩; (try exact yZ))))
    go_meet
    case rel => exact ⟨_, (true), wZ, H', ⟨by first | omega | exact Nat.le_refl _⟩, ⟨Kz BK174.out⟩, ⟨Bq⟩⟩
  ·replace c5 := Bool.eq_false_iff.mpr c5
   subst c5
   rw [if_neg (show ¬ (false = true) by decide)] at H; have H' := am H; clear H; obtain ⟨hcz9_0, hcz9_1, hcz9_2, hfz9_0, hfz9_1, hfz9_2⟩ := cf3 (w := w3) BK174
   go_wp2_with (first | (go_at_call 39; (with_reducible refine (spec_l1In.calls a0_0 1 16 false _ A4.out).mono ?_); rintro e w' ⟨rfl, ⟨nd, rfl⟩⟩; (try exact yZ)))
   repeat (go_quiet (first | (go_at_call 39; (with_reducible refine (spec_l1In.calls a0_0 1 16 false _ A4.out).mono ?_); rintro e w' ⟨rfl, ⟨nd, rfl⟩⟩; (try exact yZ))); try go_wp2_with (first | (go_at_call 39; (with_reducible refine (spec_l1In.calls a0_0 1 16 false _ A4.out).mono ?_); rintro e w' ⟨rfl, ⟨nd, rfl⟩⟩; (try exact yZ))))
   go_meet
   case rel => exact ⟨_, (true), wZ, H', ⟨by first | omega | exact Nat.le_refl _⟩, ⟨Kz BK174.out⟩, ⟨Bq⟩⟩
 case rest =>
  clear HC2
  try clear p2
  try clear c5
  try clear c6
  try clear c6b0
  try clear c6b1
  try clear c6b2
  obtain ⟨kq, x27_1, rfl, HA, HJ1, BK174, HB⟩ := hcut; cases kq with
  | zero => exact absurd HA.out (by simp [spec_trFronted.j0])
  | succ kj1 =>
   have H := HA.out; clear HA
   simp only [spec_trFronted.j0] at H
   by_cases c10 : x27_1 = true
   ·subst c10
    rw [if_pos rfl] at H
    simp only [Option.some.injEq, Prod.mk.injEq] at H
    obtain ⟨rfl, rfl⟩ := H
    go_wp2
    repeat (go_quiet (fail); try go_wp2)
    go_ret2
    exact ⟨_, eZ, nZ, Bq⟩
   ·replace c10 := Bool.eq_false_iff.mpr c10
    subst c10
    rw [if_neg (show ¬ (false = true) by decide)] at H; have H' := am H; clear H; obtain ⟨hcz11_0, hcz11_1, hcz11_2, hfz11_0, hfz11_1, hfz11_2⟩ := cf3 (w := wc) BK174
    go_wp2
    repeat (go_quiet (fail); try go_wp2)
    go_loopg [4, 5, 31] kj1 (fun kq v4 v5 v31 w' => ∃ (x4_2 : List ByteArray) (x5_2 : ByteArray) (x31_2 : Int), v5 = .string x5_2 ∧ v31 = .int .i64 x31_2 ∧ Aside0 (spec_trFronted.l0 kq x4_2 x5_2 l0_1 (l0_1.length : Int) x31_2 a0_0 l0_1 l0_2 = some (r1, r2)) ∧ Aside0 (kq ≤ kj1) ∧ Aside0 (Kd.R Kd.string 9 w' w.heap.size (fun _ => True) v4 x4_2) ∧ Aside0 (w'.heap[gb174]? = some (.cells #[.int .i64 a0_0, (.slice A0_1 l0_1.length c0_1), (.slice A0_2 l0_2.length c0_2)] 26 (0, 0))) ∧ Aside0 (Below w.heap.size w w'))
    case atStart => exact ⟨(([] : List ByteArray)), ((⟨#[]⟩ : ByteArray)), (0), wZ, wZ, H', ⟨Nat.le_refl _⟩, ⟨nZ⟩, ⟨Kz BK174.out⟩, ⟨Bq⟩⟩
    case round =>
     clear H'
     try clear c1
     try clear p2
     try clear c5
     try clear c6
     try clear c6b0
     try clear c6b1
     try clear c6b2
     try clear c10
     try clear p2
     obtain ⟨x4_2, x5_2, x31_2, rfl, rfl, HA, HK2, HO_4, BK174, HB⟩ := hrel; cases gk with
     | zero => exact absurd HA.out (by simp [spec_trFronted.l0])
     | succ k2 =>
      have H := HA.out; clear HA
      simp only [spec_trFronted.l0] at H
      by_cases c12 : x31_2 < (l0_1.length : Int)
      ·rw [if_pos c12] at H
       have c12b0 : decide (x31_2 < (l0_1.length : Int)) = true := decide_eq_true c12; clear c12
       by_cases c13 : 0 ≤ x31_2
       ·rw [if_pos c13] at H
        have c13b0 : decide (0 ≤ x31_2) = true := decide_eq_true c13; clear c13
        by_cases c14 : x31_2 < (l0_1.length : Int)
        ·rw [if_pos c14] at H
         have c14b0 : decide (x31_2 < (l0_1.length : Int)) = true := decide_eq_true c14; clear c14; obtain ⟨t177, A15, H⟩ := ob H; (try dsimp -simprocs only at H)
         by_cases c16 : t177 = true
         ·subst c16
          rw [if_pos rfl] at H
          by_cases c17 : x31_2 < (l0_2.length : Int)
          ·rw [if_pos c17] at H
           have c17b0 : decide (x31_2 < (l0_2.length : Int)) = true := decide_eq_true c17; clear c17
           by_cases c18 : ((rdOf ByteArray.empty l0_2 x31_2).size : Int) > 12
           ·rw [if_pos c18] at H
            have c18b0 : decide (12 < ((rdOf ByteArray.empty l0_2 x31_2).size : Int)) = true := decide_eq_true c18; have c18b1 : decide (12 < (rdOf ByteArray.empty l0_2 x31_2).size) = true := decide_eq_true (by omega); clear c18
            simp only [Option.some.injEq, Prod.mk.injEq] at H
            obtain ⟨rfl, rfl⟩ := H; have p176 : 0 ≤ (x31_2 : Int) := dT; have q176 : x31_2 < (l0_1.length : Int) := dT; obtain ⟨ad176, e176, hx176_0⟩ := Kd.at_int HR0_1.out x31_2 p176 q176; cases e176; replace hx176_0 := (HB.out.cell (World.block_lt_of_cell? w _ hx176_0)).trans hx176_0; replace p176 := eq_true p176; replace q176 := eq_true q176
            go_wp2_with (first | (go_at_call 39; (with_reducible refine (spec_l1In.calls (rd l0_1 x31_2) 0 (x5_2.size : Int) true _ A15.out).mono ?_); rintro e w' ⟨rfl, ⟨nd, rfl⟩⟩; (try exact yZ); obtain ⟨hcz19_0, hcz19_1, hcz19_2, hfz19_0, hfz19_1, hfz19_2⟩ := cf3 (w := wr) BK174; have p178 : 0 ≤ (x31_2 : Int) := dT; have q178 : x31_2 < (l0_2.length : Int) := dT; obtain ⟨ad178, e178, hx178_0⟩ := Kd.at_string HR0_2.out x31_2 p178 q178; cases e178; replace hx178_0 := (HB.out.cell (World.block_lt_of_cell? w _ hx178_0)).trans hx178_0; replace p178 := eq_true p178; replace q178 := eq_true q178))
            repeat (go_quiet (first | (go_at_call 39; (with_reducible refine (spec_l1In.calls (rd l0_1 x31_2) 0 (x5_2.size : Int) true _ A15.out).mono ?_); rintro e w' ⟨rfl, ⟨nd, rfl⟩⟩; (try exact yZ); obtain ⟨hcz19_0, hcz19_1, hcz19_2, hfz19_0, hfz19_1, hfz19_2⟩ := cf3 (w := wr) BK174; have p178 : 0 ≤ (x31_2 : Int) := dT; have q178 : x31_2 < (l0_2.length : Int) := dT; obtain ⟨ad178, e178, hx178_0⟩ := Kd.at_string HR0_2.out x31_2 p178 q178; cases e178; replace hx178_0 := (HB.out.cell (World.block_lt_of_cell? w _ hx178_0)).trans hx178_0; replace p178 := eq_true p178; replace q178 := eq_true q178)); try go_wp2_with (first | (go_at_call 39; (with_reducible refine (spec_l1In.calls (rd l0_1 x31_2) 0 (x5_2.size : Int) true _ A15.out).mono ?_); rintro e w' ⟨rfl, ⟨nd, rfl⟩⟩; (try exact yZ); obtain ⟨hcz19_0, hcz19_1, hcz19_2, hfz19_0, hfz19_1, hfz19_2⟩ := cf3 (w := wr) BK174; have p178 : 0 ≤ (x31_2 : Int) := dT; have q178 : x31_2 < (l0_2.length : Int) := dT; obtain ⟨ad178, e178, hx178_0⟩ := Kd.at_string HR0_2.out x31_2 p178 q178; cases e178; replace hx178_0 := (HB.out.cell (World.block_lt_of_cell? w _ hx178_0)).trans hx178_0; replace p178 := eq_true p178; replace q178 := eq_true q178)))
            go_ret2
            exact ⟨_, eZ, nZ, Bq⟩
           ·rw [if_neg c18] at H
            have c18b0 : decide (12 < ((rdOf ByteArray.empty l0_2 x31_2).size : Int)) = false := decide_eq_false c18; have c18b1 : decide (12 < (rdOf ByteArray.empty l0_2 x31_2).size) = false := decide_eq_false (by omega); clear c18
            by_cases c20 : 0 ≤ (rd l0_1 x31_2)
            ·rw [if_pos c20] at H
             have c20b0 := eq_true c20; have c20b1 : decide (0 ≤ (rd l0_1 x31_2)) = true := decide_eq_true c20; clear c20
             by_cases c21 : (rd l0_1 x31_2) ≤ (x5_2.size : Int)
             ·rw [if_pos c21] at H
              have c21b0 := eq_true c21; have c21b1 : decide ((rd l0_1 x31_2) ≤ (x5_2.size : Int)) = true := decide_eq_true c21; clear c21
              by_cases c22 : (x5_2.extract 0 ((rd l0_1 x31_2) : Int).toNat).size + (rdOf ByteArray.empty l0_2 x31_2).size ≤ 9223372036854775807
              ·rw [if_pos c22] at H
               have c22b0 := eq_true c22; have c22b1 : decide ((x5_2.extract 0 ((rd l0_1 x31_2) : Int).toNat).size + (rdOf ByteArray.empty l0_2 x31_2).size ≤ 9223372036854775807) = true := decide_eq_true c22
               try have c22b2 : (9223372036854775807 < (x5_2.extract 0 ((rd l0_1 x31_2) : Int).toNat).size + (rdOf ByteArray.empty l0_2 x31_2).size) = False := eq_false (Nat.not_lt.2 c22)
               (try (have c22b3 := c22b2; simp only [ByteArray.size_extract, Int.toNat_natCast] at c22b3))
               (try (have c22b4 := c22b2; rw [ByteArray.size_extract, Nat.min_eq_left (Int.toNat_le.2 dT), Nat.sub_zero] at c22b4))
               by_cases c23 : x4_2.length < 8796093022208
               ·rw [if_pos c23] at H
                have LMc23 := am c23; clear c23; obtain ⟨y180, hy180⟩ : ∃ y_ : List ByteArray, y_ = (x4_2 ++ [(x5_2.extract 0 ((rd l0_1 x31_2) : Int).toNat) ++ (rdOf ByteArray.empty l0_2 x31_2)]) := ⟨_, rfl⟩
                replace H : (spec_trFronted.l0 k2 y180 ((x5_2.extract 0 ((rd l0_1 x31_2) : Int).toNat) ++ (rdOf ByteArray.empty l0_2 x31_2)) l0_1 (l0_1.length : Int) (wrap64 (x31_2 + 1)) a0_0 l0_1 l0_2) = some (r1, r2) := by first | (rw [hy180]; with_reducible exact H) | (have H2_ := (Option.bind_some _ _).symm.trans H; rw [hy180]; with_reducible exact H2_) | (have H2_ := (Option.bind_some _ _).symm.trans H; with_reducible exact H2_) | with_reducible exact H | (rw [hy180]; exact H) | exact H
                have Ny180 := am hy180; clear hy180; have H' := am H; clear H; have p176 : 0 ≤ (x31_2 : Int) := dT; have q176 : x31_2 < (l0_1.length : Int) := dT; obtain ⟨ad176, e176, hx176_0⟩ := Kd.at_int HR0_1.out x31_2 p176 q176; cases e176; replace hx176_0 := (HB.out.cell (World.block_lt_of_cell? w _ hx176_0)).trans hx176_0; replace p176 := eq_true p176; replace q176 := eq_true q176
                go_wp2_with (first | (go_at_call 39; (with_reducible refine (spec_l1In.calls (rd l0_1 x31_2) 0 (x5_2.size : Int) true _ A15.out).mono ?_); rintro e w' ⟨rfl, ⟨nd, rfl⟩⟩; (try exact yZ); obtain ⟨hcz24_0, hcz24_1, hcz24_2, hfz24_0, hfz24_1, hfz24_2⟩ := cf3 (w := wr) BK174; have p178 : 0 ≤ (x31_2 : Int) := dT; have q178 : x31_2 < (l0_2.length : Int) := dT; obtain ⟨ad178, e178, hx178_0⟩ := Kd.at_string HR0_2.out x31_2 p178 q178; cases e178; replace hx178_0 := (HB.out.cell (World.block_lt_of_cell? w _ hx178_0)).trans hx178_0; replace p178 := eq_true p178; replace q178 := eq_true q178; have p179 : 0 ≤ (x31_2 : Int) := dT; have q179 : x31_2 < (l0_2.length : Int) := dT; obtain ⟨ad179, e179, hx179_0⟩ := Kd.at_string HR0_2.out x31_2 p179 q179; obtain rfl : ad178 = ad179 := (by injection e179); replace hx179_0 := (HB.out.cell (World.block_lt_of_cell? w _ hx179_0)).trans hx179_0; replace p179 := eq_true p179; replace q179 := eq_true q179) | ((with_reducible refine gate_builtin (b := .append) (xs := #[.tmp 59, .tmp 61]) rfl ?_); (try (refine gate_guard (by rfl) ?_; dsimp only)); at_builtin; refine Kd.R_append Kd.string (w0 := w) w.heap.size rfl (.tmp 59) (.tmp 61) 22 9 (.string ⟨#[]⟩) 16 rfl Try.underlying22 info9 rfl (by decide) (by omega) u4 x4_2 ((x5_2.extract 0 ((rd l0_1 x31_2) : Int).toNat) ++ (rdOf ByteArray.empty l0_2 x31_2)) [.string ((x5_2.extract 0 ((rd l0_1 x31_2) : Int).toNat) ++ (rdOf ByteArray.empty l0_2 x31_2))] (fun _ => True) (fun _ => False) rfl rfl ?aP (fun _ hk => hk.elim) ?aF ?aO ?aB ?aS ?aL ?_; (case aP => exact rfl); (case aB => exact (Bq)); (case aF => exact (fun _ _ => trivial)); (case aO => exact (Rz HO_4.out)); (case aS => exact (below_size (w := w) (Bq))); (case aL => have := LMc23.out; omega); intro v181 w25 ho hb hg hat; rw [← Ny180.out] at ho; have n0_ := am (blk_grown (g := gb174) (o := .cells #[.int .i64 a0_0, .slice (some ad176) l0_1.length c0_1, .slice (some ad178) l0_2.length c0_2] 26 (0, 0)) (Kz BK174.out) hg (Kd.R_ne HO_4.out BK174.out (by decide))); have n1_ := am (hb); have n2_ := am (ho); clear BK174 HB HO_4; revert n0_ n1_ n2_; intro BK174 HB HO182; clear ho hb hg hat))
                repeat (go_quiet (first | (go_at_call 39; (with_reducible refine (spec_l1In.calls (rd l0_1 x31_2) 0 (x5_2.size : Int) true _ A15.out).mono ?_); rintro e w' ⟨rfl, ⟨nd, rfl⟩⟩; (try exact yZ); obtain ⟨hcz24_0, hcz24_1, hcz24_2, hfz24_0, hfz24_1, hfz24_2⟩ := cf3 (w := wr) BK174; have p178 : 0 ≤ (x31_2 : Int) := dT; have q178 : x31_2 < (l0_2.length : Int) := dT; obtain ⟨ad178, e178, hx178_0⟩ := Kd.at_string HR0_2.out x31_2 p178 q178; cases e178; replace hx178_0 := (HB.out.cell (World.block_lt_of_cell? w _ hx178_0)).trans hx178_0; replace p178 := eq_true p178; replace q178 := eq_true q178; have p179 : 0 ≤ (x31_2 : Int) := dT; have q179 : x31_2 < (l0_2.length : Int) := dT; obtain ⟨ad179, e179, hx179_0⟩ := Kd.at_string HR0_2.out x31_2 p179 q179; obtain rfl : ad178 = ad179 := (by injection e179); replace hx179_0 := (HB.out.cell (World.block_lt_of_cell? w _ hx179_0)).trans hx179_0; replace p179 := eq_true p179; replace q179 := eq_true q179) | ((with_reducible refine gate_builtin (b := .append) (xs := #[.tmp 59, .tmp 61]) rfl ?_); (try (refine gate_guard (by rfl) ?_; dsimp only)); at_builtin; refine Kd.R_append Kd.string (w0 := w) w.heap.size rfl (.tmp 59) (.tmp 61) 22 9 (.string ⟨#[]⟩) 16 rfl Try.underlying22 info9 rfl (by decide) (by omega) u4 x4_2 ((x5_2.extract 0 ((rd l0_1 x31_2) : Int).toNat) ++ (rdOf ByteArray.empty l0_2 x31_2)) [.string ((x5_2.extract 0 ((rd l0_1 x31_2) : Int).toNat) ++ (rdOf ByteArray.empty l0_2 x31_2))] (fun _ => True) (fun _ => False) rfl rfl ?aP (fun _ hk => hk.elim) ?aF ?aO ?aB ?aS ?aL ?_; (case aP => exact rfl); (case aB => exact (Bq)); (case aF => exact (fun _ _ => trivial)); (case aO => exact (Rz HO_4.out)); (case aS => exact (below_size (w := w) (Bq))); (case aL => have := LMc23.out; omega); intro v181 w25 ho hb hg hat; rw [← Ny180.out] at ho; have n0_ := am (blk_grown (g := gb174) (o := .cells #[.int .i64 a0_0, .slice (some ad176) l0_1.length c0_1, .slice (some ad178) l0_2.length c0_2] 26 (0, 0)) (Kz BK174.out) hg (Kd.R_ne HO_4.out BK174.out (by decide))); have n1_ := am (hb); have n2_ := am (ho); clear BK174 HB HO_4; revert n0_ n1_ n2_; intro BK174 HB HO182; clear ho hb hg hat)); try go_wp2_with (first | (go_at_call 39; (with_reducible refine (spec_l1In.calls (rd l0_1 x31_2) 0 (x5_2.size : Int) true _ A15.out).mono ?_); rintro e w' ⟨rfl, ⟨nd, rfl⟩⟩; (try exact yZ); obtain ⟨hcz24_0, hcz24_1, hcz24_2, hfz24_0, hfz24_1, hfz24_2⟩ := cf3 (w := wr) BK174; have p178 : 0 ≤ (x31_2 : Int) := dT; have q178 : x31_2 < (l0_2.length : Int) := dT; obtain ⟨ad178, e178, hx178_0⟩ := Kd.at_string HR0_2.out x31_2 p178 q178; cases e178; replace hx178_0 := (HB.out.cell (World.block_lt_of_cell? w _ hx178_0)).trans hx178_0; replace p178 := eq_true p178; replace q178 := eq_true q178; have p179 : 0 ≤ (x31_2 : Int) := dT; have q179 : x31_2 < (l0_2.length : Int) := dT; obtain ⟨ad179, e179, hx179_0⟩ := Kd.at_string HR0_2.out x31_2 p179 q179; obtain rfl : ad178 = ad179 := (by injection e179); replace hx179_0 := (HB.out.cell (World.block_lt_of_cell? w _ hx179_0)).trans hx179_0; replace p179 := eq_true p179; replace q179 := eq_true q179) | ((with_reducible refine gate_builtin (b := .append) (xs := #[.tmp 59, .tmp 61]) rfl ?_); (try (refine gate_guard (by rfl) ?_; dsimp only)); at_builtin; refine Kd.R_append Kd.string (w0 := w) w.heap.size rfl (.tmp 59) (.tmp 61) 22 9 (.string ⟨#[]⟩) 16 rfl Try.underlying22 info9 rfl (by decide) (by omega) u4 x4_2 ((x5_2.extract 0 ((rd l0_1 x31_2) : Int).toNat) ++ (rdOf ByteArray.empty l0_2 x31_2)) [.string ((x5_2.extract 0 ((rd l0_1 x31_2) : Int).toNat) ++ (rdOf ByteArray.empty l0_2 x31_2))] (fun _ => True) (fun _ => False) rfl rfl ?aP (fun _ hk => hk.elim) ?aF ?aO ?aB ?aS ?aL ?_; (case aP => exact rfl); (case aB => exact (Bq)); (case aF => exact (fun _ _ => trivial)); (case aO => exact (Rz HO_4.out)); (case aS => exact (below_size (w := w) (Bq))); (case aL => have := LMc23.out; omega); intro v181 w25 ho hb hg hat; rw [← Ny180.out] at ho; have n0_ := am (blk_grown (g := gb174) (o := .cells #[.int .i64 a0_0, .slice (some ad176) l0_1.length c0_1, .slice (some ad178) l0_2.length c0_2] 26 (0, 0)) (Kz BK174.out) hg (Kd.R_ne HO_4.out BK174.out (by decide))); have n1_ := am (hb); have n2_ := am (ho); clear BK174 HB HO_4; revert n0_ n1_ n2_; intro BK174 HB HO182; clear ho hb hg hat)))
                go_roundg k2
                case measure => have := HJ1.out; have := HK2.out; omega
                case rel => exact ⟨(y180), ((x5_2.extract 0 ((rd l0_1 x31_2) : Int).toNat) ++ (rdOf ByteArray.empty l0_2 x31_2)), (wrap64 (x31_2 + 1)), wZ, wZ, H', ⟨by have := HJ1.out; have := HK2.out; omega⟩, ⟨Rz HO182.out⟩, ⟨Kz BK174.out⟩, ⟨Bq⟩⟩
               ·rw [if_neg c23] at H
                exact absurd H (by simp)
              ·rw [if_neg c22] at H
               exact absurd H (by simp)
             ·rw [if_neg c21] at H
              exact absurd H (by simp)
            ·rw [if_neg c20] at H
             exact absurd H (by simp)
          ·rw [if_neg c17] at H
           exact absurd H (by simp)
         ·replace c16 := Bool.eq_false_iff.mpr c16
          subst c16
          rw [if_neg (show ¬ (false = true) by decide)] at H
          simp only [Option.some.injEq, Prod.mk.injEq] at H
          obtain ⟨rfl, rfl⟩ := H; have p176 : 0 ≤ (x31_2 : Int) := dT; have q176 : x31_2 < (l0_1.length : Int) := dT; obtain ⟨ad176, e176, hx176_0⟩ := Kd.at_int HR0_1.out x31_2 p176 q176; cases e176; replace hx176_0 := (HB.out.cell (World.block_lt_of_cell? w _ hx176_0)).trans hx176_0; replace p176 := eq_true p176; replace q176 := eq_true q176
          go_wp2_with (first | (go_at_call 39; (with_reducible refine (spec_l1In.calls (rd l0_1 x31_2) 0 (x5_2.size : Int) false _ A15.out).mono ?_); rintro e w' ⟨rfl, ⟨nd, rfl⟩⟩; (try exact yZ)))
          repeat (go_quiet (first | (go_at_call 39; (with_reducible refine (spec_l1In.calls (rd l0_1 x31_2) 0 (x5_2.size : Int) false _ A15.out).mono ?_); rintro e w' ⟨rfl, ⟨nd, rfl⟩⟩; (try exact yZ))); try go_wp2_with (first | (go_at_call 39; (with_reducible refine (spec_l1In.calls (rd l0_1 x31_2) 0 (x5_2.size : Int) false _ A15.out).mono ?_); rintro e w' ⟨rfl, ⟨nd, rfl⟩⟩; (try exact yZ))))
          go_ret2
          exact ⟨_, eZ, nZ, Bq⟩
        ·rw [if_neg c14] at H
         exact absurd H (by simp)
       ·rw [if_neg c13] at H
        exact absurd H (by simp)
      ·rw [if_neg c12] at H
       have c12b0 : decide (x31_2 < (l0_1.length : Int)) = false := decide_eq_false c12; clear c12; obtain ⟨t183, A26, H⟩ := ob H; (try dsimp -simprocs only at H)
       by_cases c27 : t183 = true
       ·subst c27
        rw [if_pos rfl] at H; obtain ⟨⟨t184, t185, t188⟩, A28, H⟩ := ob H; (try dsimp -simprocs only at H); obtain ⟨t192, A29, H⟩ := ob H; (try dsimp -simprocs only at H)
        by_cases c30 : t192 = true
        ·subst c30
         rw [if_pos rfl] at H; obtain ⟨t193, A31, H⟩ := ob H; (try dsimp -simprocs only at H)
         simp only [Option.some.injEq, Prod.mk.injEq] at H
         obtain ⟨rfl, rfl⟩ := H; obtain ⟨Ao32, co32, eo32⟩ := Kd.R_slice HO_4.out; subst eo32
         go_wp2_with (first | (go_at_call 38; (with_reducible refine (spec_biKeys.calls k2 _ _ x4_2 true _ ?side1 ?side2 A26.out).mono ?_); (case side1 => exact Cz ((Kd.R_reads' HO_4.out).2.2)); (case side2 => exact (Kd.R_reads' HO_4.out).2.1); rintro e w' ⟨rfl, ⟨nd, rfl⟩⟩; (try exact yZ); obtain ⟨hcz33_0, hcz33_1, hcz33_2, hfz33_0, hfz33_1, hfz33_2⟩ := cf3 (w := wr) BK174) | (go_at_call 40; (with_reducible refine (spec_trFront.calls k2 _ _ x4_2 a0_0 t184 t185 t188 _ ?side1 ?side2 A28.out).mono ?_); (case side1 => exact Cz ((Kd.R_reads' HO_4.out).2.2)); (case side2 => exact (Kd.R_reads' HO_4.out).2.1); rintro e w34 ⟨v186, v189, rfl, ho0, ho1, hb⟩; have n0_ := Re HO_4 (Kd.R_base ho1) hb; have n1_ := Rm ho0 HB; have n2_ := Rm (Kd.R_new' ho1 (Kd.R_lt (Rz HO_4.out))) HB; have n3_ := Kb BK174 hb; have n4_ := Bc HB hb; clear HO_4 BK174 HB; revert n0_ n1_ n2_ n3_ n4_; intro HO_4 HO187 HO190 BK174 HB; (try clear hb); (try clear hb2); (try clear hk); (try clear hi); (try clear ho0); (try clear ho1)) | ((with_reducible refine gate_dst (N := 8) rfl ?_); (try (refine gate_guard (by rfl) ?_; dsimp only)); refine bE 8 #[.int .i64 0, .slice none 0 0, .slice none 0 0] 26 ?_; intro gb191 hg w35 hbox hb; have n0_ := Rb HO_4 hb; have n1_ := Rb HO187 hb; have n2_ := Rb HO190 hb; have n3_ := Kb BK174 hb; have n4_ := Bc HB hb; have n5_ := am (hbox); have n6_ := Gm HB hg; have n7_ := Gm HB hg; have n8_ := Nl BK174 hg; have n9_ := Ng BK174 hg; clear HO_4 HO187 HO190 BK174 HB; revert n0_ n1_ n2_ n3_ n4_ n5_ n6_ n7_ n8_ n9_; intro HO_4 HO187 HO190 BK174 HB BK191 GW191 GE191 NB174_191 NB191_174; clear hb hbox hg; have hnb36 := NB191_174.out; have hnc36 := NB174_191.out; obtain ⟨hcz37_0, hcz37_1, hcz37_2, hfz37_0, hfz37_1, hfz37_2⟩ := cf3 (w := w35) BK191; obtain ⟨Ao38, co38, eo38⟩ := Kd.R_slice HO187.out; subst eo38; obtain ⟨Ao39, co39, eo39⟩ := Kd.R_slice HO190.out; subst eo39; obtain ⟨hcz40_0, hcz40_1, hcz40_2, hfz40_0, hfz40_1, hfz40_2⟩ := cf3 (w := w35) BK174) | (go_at_call 67; (with_reducible refine (spec_l1Same.calls k2 _ _ l0_1 _ _ t185 true _ ?side1 ?side2 ?side3 ?side4 A29.out).mono ?_); (case side1 => exact Kd.C_below HR0_1.out (Bq)); (case side2 => exact HC0_1.out); (case side3 => refine (Kd.R_reads' (e := 3) (base := w.heap.size) (ok := fun k_ => True) (n := t185.length) (c := co38) ?_).2.2; exact (Rz (Kd.R_mono (Kd.R_far (p := ⟨gb191, 2, none⟩) (Kd.R_far (p := ⟨gb191, 1, none⟩) (Kd.R_far (p := ⟨gb191, 0, none⟩) (Kd.R_types HO187.out BK191.out (by decide)) (fun _ hk => hk.2) (.int .i64 t184)) (fun _ hk => hk.2) (.slice Ao38 t185.length co38)) (fun _ hk => hk.2) (.slice Ao39 t188.length co39)) (fun _ h_ => h_.1)))); (case side4 => exact (Kd.R_reads' HO187.out).2.1); rintro e w' ⟨rfl, ⟨nd, rfl⟩⟩; (try exact yZ)) | (go_at_call 68; (with_reducible refine (spec_l1SameS.calls k2 _ _ l0_2 _ _ t188 t193 _ ?side1 ?side2 ?side3 ?side4 A31.out).mono ?_); (case side1 => exact Kd.C_below HR0_2.out (Bq)); (case side2 => exact HC0_2.out); (case side3 => refine (Kd.R_reads' (e := 9) (base := w.heap.size) (ok := fun k_ => (True ∧ some k_ ≠ (.slice Ao32 x4_2.length co32 : Value).ownBlock)) (n := t188.length) (c := co39) ?_).2.2; exact (Rz (Kd.R_mono (Kd.R_far (p := ⟨gb191, 2, none⟩) (Kd.R_far (p := ⟨gb191, 1, none⟩) (Kd.R_far (p := ⟨gb191, 0, none⟩) (Kd.R_types HO190.out BK191.out (by decide)) (fun _ hk => hk.2) (.int .i64 t184)) (fun _ hk => hk.2) (.slice Ao38 t185.length co38)) (fun _ hk => hk.2) (.slice Ao39 t188.length co39)) (fun _ h_ => h_.1)))); (case side4 => exact (Kd.R_reads' HO190.out).2.1); rintro e w' ⟨rfl, ⟨nd, rfl⟩⟩; (try exact yZ)))
         repeat (go_quiet (first | (go_at_call 38; (with_reducible refine (spec_biKeys.calls k2 _ _ x4_2 true _ ?side1 ?side2 A26.out).mono ?_); (case side1 => exact Cz ((Kd.R_reads' HO_4.out).2.2)); (case side2 => exact (Kd.R_reads' HO_4.out).2.1); rintro e w' ⟨rfl, ⟨nd, rfl⟩⟩; (try exact yZ); obtain ⟨hcz33_0, hcz33_1, hcz33_2, hfz33_0, hfz33_1, hfz33_2⟩ := cf3 (w := wr) BK174) | (go_at_call 40; (with_reducible refine (spec_trFront.calls k2 _ _ x4_2 a0_0 t184 t185 t188 _ ?side1 ?side2 A28.out).mono ?_); (case side1 => exact Cz ((Kd.R_reads' HO_4.out).2.2)); (case side2 => exact (Kd.R_reads' HO_4.out).2.1); rintro e w34 ⟨v186, v189, rfl, ho0, ho1, hb⟩; have n0_ := Re HO_4 (Kd.R_base ho1) hb; have n1_ := Rm ho0 HB; have n2_ := Rm (Kd.R_new' ho1 (Kd.R_lt (Rz HO_4.out))) HB; have n3_ := Kb BK174 hb; have n4_ := Bc HB hb; clear HO_4 BK174 HB; revert n0_ n1_ n2_ n3_ n4_; intro HO_4 HO187 HO190 BK174 HB; (try clear hb); (try clear hb2); (try clear hk); (try clear hi); (try clear ho0); (try clear ho1)) | ((with_reducible refine gate_dst (N := 8) rfl ?_); (try (refine gate_guard (by rfl) ?_; dsimp only)); refine bE 8 #[.int .i64 0, .slice none 0 0, .slice none 0 0] 26 ?_; intro gb191 hg w35 hbox hb; have n0_ := Rb HO_4 hb; have n1_ := Rb HO187 hb; have n2_ := Rb HO190 hb; have n3_ := Kb BK174 hb; have n4_ := Bc HB hb; have n5_ := am (hbox); have n6_ := Gm HB hg; have n7_ := Gm HB hg; have n8_ := Nl BK174 hg; have n9_ := Ng BK174 hg; clear HO_4 HO187 HO190 BK174 HB; revert n0_ n1_ n2_ n3_ n4_ n5_ n6_ n7_ n8_ n9_; intro HO_4 HO187 HO190 BK174 HB BK191 GW191 GE191 NB174_191 NB191_174; clear hb hbox hg; have hnb36 := NB191_174.out; have hnc36 := NB174_191.out; obtain ⟨hcz37_0, hcz37_1, hcz37_2, hfz37_0, hfz37_1, hfz37_2⟩ := cf3 (w := w35) BK191; obtain ⟨Ao38, co38, eo38⟩ := Kd.R_slice HO187.out; subst eo38; obtain ⟨Ao39, co39, eo39⟩ := Kd.R_slice HO190.out; subst eo39; obtain ⟨hcz40_0, hcz40_1, hcz40_2, hfz40_0, hfz40_1, hfz40_2⟩ := cf3 (w := w35) BK174) | (go_at_call 67; (with_reducible refine (spec_l1Same.calls k2 _ _ l0_1 _ _ t185 true _ ?side1 ?side2 ?side3 ?side4 A29.out).mono ?_); (case side1 => exact Kd.C_below HR0_1.out (Bq)); (case side2 => exact HC0_1.out); (case side3 => refine (Kd.R_reads' (e := 3) (base := w.heap.size) (ok := fun k_ => True) (n := t185.length) (c := co38) ?_).2.2; exact (Rz (Kd.R_mono (Kd.R_far (p := ⟨gb191, 2, none⟩) (Kd.R_far (p := ⟨gb191, 1, none⟩) (Kd.R_far (p := ⟨gb191, 0, none⟩) (Kd.R_types HO187.out BK191.out (by decide)) (fun _ hk => hk.2) (.int .i64 t184)) (fun _ hk => hk.2) (.slice Ao38 t185.length co38)) (fun _ hk => hk.2) (.slice Ao39 t188.length co39)) (fun _ h_ => h_.1)))); (case side4 => exact (Kd.R_reads' HO187.out).2.1); rintro e w' ⟨rfl, ⟨nd, rfl⟩⟩; (try exact yZ)) | (go_at_call 68; (with_reducible refine (spec_l1SameS.calls k2 _ _ l0_2 _ _ t188 t193 _ ?side1 ?side2 ?side3 ?side4 A31.out).mono ?_); (case side1 => exact Kd.C_below HR0_2.out (Bq)); (case side2 => exact HC0_2.out); (case side3 => refine (Kd.R_reads' (e := 9) (base := w.heap.size) (ok := fun k_ => (True ∧ some k_ ≠ (.slice Ao32 x4_2.length co32 : Value).ownBlock)) (n := t188.length) (c := co39) ?_).2.2; exact (Rz (Kd.R_mono (Kd.R_far (p := ⟨gb191, 2, none⟩) (Kd.R_far (p := ⟨gb191, 1, none⟩) (Kd.R_far (p := ⟨gb191, 0, none⟩) (Kd.R_types HO190.out BK191.out (by decide)) (fun _ hk => hk.2) (.int .i64 t184)) (fun _ hk => hk.2) (.slice Ao38 t185.length co38)) (fun _ hk => hk.2) (.slice Ao39 t188.length co39)) (fun _ h_ => h_.1)))); (case side4 => exact (Kd.R_reads' HO190.out).2.1); rintro e w' ⟨rfl, ⟨nd, rfl⟩⟩; (try exact yZ))); try go_wp2_with (first | (go_at_call 38; (with_reducible refine (spec_biKeys.calls k2 _ _ x4_2 true _ ?side1 ?side2 A26.out).mono ?_); (case side1 => exact Cz ((Kd.R_reads' HO_4.out).2.2)); (case side2 => exact (Kd.R_reads' HO_4.out).2.1); rintro e w' ⟨rfl, ⟨nd, rfl⟩⟩; (try exact yZ); obtain ⟨hcz33_0, hcz33_1, hcz33_2, hfz33_0, hfz33_1, hfz33_2⟩ := cf3 (w := wr) BK174) | (go_at_call 40; (with_reducible refine (spec_trFront.calls k2 _ _ x4_2 a0_0 t184 t185 t188 _ ?side1 ?side2 A28.out).mono ?_); (case side1 => exact Cz ((Kd.R_reads' HO_4.out).2.2)); (case side2 => exact (Kd.R_reads' HO_4.out).2.1); rintro e w34 ⟨v186, v189, rfl, ho0, ho1, hb⟩; have n0_ := Re HO_4 (Kd.R_base ho1) hb; have n1_ := Rm ho0 HB; have n2_ := Rm (Kd.R_new' ho1 (Kd.R_lt (Rz HO_4.out))) HB; have n3_ := Kb BK174 hb; have n4_ := Bc HB hb; clear HO_4 BK174 HB; revert n0_ n1_ n2_ n3_ n4_; intro HO_4 HO187 HO190 BK174 HB; (try clear hb); (try clear hb2); (try clear hk); (try clear hi); (try clear ho0); (try clear ho1)) | ((with_reducible refine gate_dst (N := 8) rfl ?_); (try (refine gate_guard (by rfl) ?_; dsimp only)); refine bE 8 #[.int .i64 0, .slice none 0 0, .slice none 0 0] 26 ?_; intro gb191 hg w35 hbox hb; have n0_ := Rb HO_4 hb; have n1_ := Rb HO187 hb; have n2_ := Rb HO190 hb; have n3_ := Kb BK174 hb; have n4_ := Bc HB hb; have n5_ := am (hbox); have n6_ := Gm HB hg; have n7_ := Gm HB hg; have n8_ := Nl BK174 hg; have n9_ := Ng BK174 hg; clear HO_4 HO187 HO190 BK174 HB; revert n0_ n1_ n2_ n3_ n4_ n5_ n6_ n7_ n8_ n9_; intro HO_4 HO187 HO190 BK174 HB BK191 GW191 GE191 NB174_191 NB191_174; clear hb hbox hg; have hnb36 := NB191_174.out; have hnc36 := NB174_191.out; obtain ⟨hcz37_0, hcz37_1, hcz37_2, hfz37_0, hfz37_1, hfz37_2⟩ := cf3 (w := w35) BK191; obtain ⟨Ao38, co38, eo38⟩ := Kd.R_slice HO187.out; subst eo38; obtain ⟨Ao39, co39, eo39⟩ := Kd.R_slice HO190.out; subst eo39; obtain ⟨hcz40_0, hcz40_1, hcz40_2, hfz40_0, hfz40_1, hfz40_2⟩ := cf3 (w := w35) BK174) | (go_at_call 67; (with_reducible refine (spec_l1Same.calls k2 _ _ l0_1 _ _ t185 true _ ?side1 ?side2 ?side3 ?side4 A29.out).mono ?_); (case side1 => exact Kd.C_below HR0_1.out (Bq)); (case side2 => exact HC0_1.out); (case side3 => refine (Kd.R_reads' (e := 3) (base := w.heap.size) (ok := fun k_ => True) (n := t185.length) (c := co38) ?_).2.2; exact (Rz (Kd.R_mono (Kd.R_far (p := ⟨gb191, 2, none⟩) (Kd.R_far (p := ⟨gb191, 1, none⟩) (Kd.R_far (p := ⟨gb191, 0, none⟩) (Kd.R_types HO187.out BK191.out (by decide)) (fun _ hk => hk.2) (.int .i64 t184)) (fun _ hk => hk.2) (.slice Ao38 t185.length co38)) (fun _ hk => hk.2) (.slice Ao39 t188.length co39)) (fun _ h_ => h_.1)))); (case side4 => exact (Kd.R_reads' HO187.out).2.1); rintro e w' ⟨rfl, ⟨nd, rfl⟩⟩; (try exact yZ)) | (go_at_call 68; (with_reducible refine (spec_l1SameS.calls k2 _ _ l0_2 _ _ t188 t193 _ ?side1 ?side2 ?side3 ?side4 A31.out).mono ?_); (case side1 => exact Kd.C_below HR0_2.out (Bq)); (case side2 => exact HC0_2.out); (case side3 => refine (Kd.R_reads' (e := 9) (base := w.heap.size) (ok := fun k_ => (True ∧ some k_ ≠ (.slice Ao32 x4_2.length co32 : Value).ownBlock)) (n := t188.length) (c := co39) ?_).2.2; exact (Rz (Kd.R_mono (Kd.R_far (p := ⟨gb191, 2, none⟩) (Kd.R_far (p := ⟨gb191, 1, none⟩) (Kd.R_far (p := ⟨gb191, 0, none⟩) (Kd.R_types HO190.out BK191.out (by decide)) (fun _ hk => hk.2) (.int .i64 t184)) (fun _ hk => hk.2) (.slice Ao38 t185.length co38)) (fun _ hk => hk.2) (.slice Ao39 t188.length co39)) (fun _ h_ => h_.1)))); (case side4 => exact (Kd.R_reads' HO190.out).2.1); rintro e w' ⟨rfl, ⟨nd, rfl⟩⟩; (try exact yZ))))
         go_ret2
         exact ⟨_, eZ, Rz (Kd.R_mono (Kd.R_far (p := ⟨gb191, 2, none⟩) (Kd.R_far (p := ⟨gb191, 1, none⟩) (Kd.R_far (p := ⟨gb191, 0, none⟩) (Kd.R_types HO_4.out BK191.out (by decide)) (fun _ hk => hk.2) (.int .i64 t184)) (fun _ hk => hk.2) (.slice Ao38 t185.length co38)) (fun _ hk => hk.2) (.slice Ao39 t188.length co39)) (fun _ hk => trivial)), Bq⟩
        ·replace c30 := Bool.eq_false_iff.mpr c30
         subst c30
         rw [if_neg (show ¬ (false = true) by decide)] at H
         simp only [Option.some.injEq, Prod.mk.injEq] at H
         obtain ⟨rfl, rfl⟩ := H; obtain ⟨Ao41, co41, eo41⟩ := Kd.R_slice HO_4.out; subst eo41
         go_wp2_with (first | (go_at_call 38; (with_reducible refine (spec_biKeys.calls k2 _ _ x4_2 true _ ?side1 ?side2 A26.out).mono ?_); (case side1 => exact Cz ((Kd.R_reads' HO_4.out).2.2)); (case side2 => exact (Kd.R_reads' HO_4.out).2.1); rintro e w' ⟨rfl, ⟨nd, rfl⟩⟩; (try exact yZ); obtain ⟨hcz42_0, hcz42_1, hcz42_2, hfz42_0, hfz42_1, hfz42_2⟩ := cf3 (w := wr) BK174) | (go_at_call 40; (with_reducible refine (spec_trFront.calls k2 _ _ x4_2 a0_0 t184 t185 t188 _ ?side1 ?side2 A28.out).mono ?_); (case side1 => exact Cz ((Kd.R_reads' HO_4.out).2.2)); (case side2 => exact (Kd.R_reads' HO_4.out).2.1); rintro e w43 ⟨v186, v189, rfl, ho0, ho1, hb⟩; have n0_ := Re HO_4 (Kd.R_base ho1) hb; have n1_ := Rm ho0 HB; have n2_ := Rm (Kd.R_new' ho1 (Kd.R_lt (Rz HO_4.out))) HB; have n3_ := Kb BK174 hb; have n4_ := Bc HB hb; clear HO_4 BK174 HB; revert n0_ n1_ n2_ n3_ n4_; intro HO_4 HO187 HO190 BK174 HB; (try clear hb); (try clear hb2); (try clear hk); (try clear hi); (try clear ho0); (try clear ho1)) | ((with_reducible refine gate_dst (N := 8) rfl ?_); (try (refine gate_guard (by rfl) ?_; dsimp only)); refine bE 8 #[.int .i64 0, .slice none 0 0, .slice none 0 0] 26 ?_; intro gb191 hg w44 hbox hb; have n0_ := Rb HO_4 hb; have n1_ := Rb HO187 hb; have n2_ := Rb HO190 hb; have n3_ := Kb BK174 hb; have n4_ := Bc HB hb; have n5_ := am (hbox); have n6_ := Gm HB hg; have n7_ := Gm HB hg; have n8_ := Nl BK174 hg; have n9_ := Ng BK174 hg; clear HO_4 HO187 HO190 BK174 HB; revert n0_ n1_ n2_ n3_ n4_ n5_ n6_ n7_ n8_ n9_; intro HO_4 HO187 HO190 BK174 HB BK191 GW191 GE191 NB174_191 NB191_174; clear hb hbox hg; have hnb45 := NB191_174.out; have hnc45 := NB174_191.out; obtain ⟨hcz46_0, hcz46_1, hcz46_2, hfz46_0, hfz46_1, hfz46_2⟩ := cf3 (w := w44) BK191; obtain ⟨Ao47, co47, eo47⟩ := Kd.R_slice HO187.out; subst eo47; obtain ⟨Ao48, co48, eo48⟩ := Kd.R_slice HO190.out; subst eo48; obtain ⟨hcz49_0, hcz49_1, hcz49_2, hfz49_0, hfz49_1, hfz49_2⟩ := cf3 (w := w44) BK174) | (go_at_call 67; (with_reducible refine (spec_l1Same.calls k2 _ _ l0_1 _ _ t185 false _ ?side1 ?side2 ?side3 ?side4 A29.out).mono ?_); (case side1 => exact Kd.C_below HR0_1.out (Bq)); (case side2 => exact HC0_1.out); (case side3 => refine (Kd.R_reads' (e := 3) (base := w.heap.size) (ok := fun k_ => True) (n := t185.length) (c := co47) ?_).2.2; exact (Rz (Kd.R_mono (Kd.R_far (p := ⟨gb191, 2, none⟩) (Kd.R_far (p := ⟨gb191, 1, none⟩) (Kd.R_far (p := ⟨gb191, 0, none⟩) (Kd.R_types HO187.out BK191.out (by decide)) (fun _ hk => hk.2) (.int .i64 t184)) (fun _ hk => hk.2) (.slice Ao47 t185.length co47)) (fun _ hk => hk.2) (.slice Ao48 t188.length co48)) (fun _ h_ => h_.1)))); (case side4 => exact (Kd.R_reads' HO187.out).2.1); rintro e w' ⟨rfl, ⟨nd, rfl⟩⟩; (try exact yZ)))
         repeat (go_quiet (first | (go_at_call 38; (with_reducible refine (spec_biKeys.calls k2 _ _ x4_2 true _ ?side1 ?side2 A26.out).mono ?_); (case side1 => exact Cz ((Kd.R_reads' HO_4.out).2.2)); (case side2 => exact (Kd.R_reads' HO_4.out).2.1); rintro e w' ⟨rfl, ⟨nd, rfl⟩⟩; (try exact yZ); obtain ⟨hcz42_0, hcz42_1, hcz42_2, hfz42_0, hfz42_1, hfz42_2⟩ := cf3 (w := wr) BK174) | (go_at_call 40; (with_reducible refine (spec_trFront.calls k2 _ _ x4_2 a0_0 t184 t185 t188 _ ?side1 ?side2 A28.out).mono ?_); (case side1 => exact Cz ((Kd.R_reads' HO_4.out).2.2)); (case side2 => exact (Kd.R_reads' HO_4.out).2.1); rintro e w43 ⟨v186, v189, rfl, ho0, ho1, hb⟩; have n0_ := Re HO_4 (Kd.R_base ho1) hb; have n1_ := Rm ho0 HB; have n2_ := Rm (Kd.R_new' ho1 (Kd.R_lt (Rz HO_4.out))) HB; have n3_ := Kb BK174 hb; have n4_ := Bc HB hb; clear HO_4 BK174 HB; revert n0_ n1_ n2_ n3_ n4_; intro HO_4 HO187 HO190 BK174 HB; (try clear hb); (try clear hb2); (try clear hk); (try clear hi); (try clear ho0); (try clear ho1)) | ((with_reducible refine gate_dst (N := 8) rfl ?_); (try (refine gate_guard (by rfl) ?_; dsimp only)); refine bE 8 #[.int .i64 0, .slice none 0 0, .slice none 0 0] 26 ?_; intro gb191 hg w44 hbox hb; have n0_ := Rb HO_4 hb; have n1_ := Rb HO187 hb; have n2_ := Rb HO190 hb; have n3_ := Kb BK174 hb; have n4_ := Bc HB hb; have n5_ := am (hbox); have n6_ := Gm HB hg; have n7_ := Gm HB hg; have n8_ := Nl BK174 hg; have n9_ := Ng BK174 hg; clear HO_4 HO187 HO190 BK174 HB; revert n0_ n1_ n2_ n3_ n4_ n5_ n6_ n7_ n8_ n9_; intro HO_4 HO187 HO190 BK174 HB BK191 GW191 GE191 NB174_191 NB191_174; clear hb hbox hg; have hnb45 := NB191_174.out; have hnc45 := NB174_191.out; obtain ⟨hcz46_0, hcz46_1, hcz46_2, hfz46_0, hfz46_1, hfz46_2⟩ := cf3 (w := w44) BK191; obtain ⟨Ao47, co47, eo47⟩ := Kd.R_slice HO187.out; subst eo47; obtain ⟨Ao48, co48, eo48⟩ := Kd.R_slice HO190.out; subst eo48; obtain ⟨hcz49_0, hcz49_1, hcz49_2, hfz49_0, hfz49_1, hfz49_2⟩ := cf3 (w := w44) BK174) | (go_at_call 67; (with_reducible refine (spec_l1Same.calls k2 _ _ l0_1 _ _ t185 false _ ?side1 ?side2 ?side3 ?side4 A29.out).mono ?_); (case side1 => exact Kd.C_below HR0_1.out (Bq)); (case side2 => exact HC0_1.out); (case side3 => refine (Kd.R_reads' (e := 3) (base := w.heap.size) (ok := fun k_ => True) (n := t185.length) (c := co47) ?_).2.2; exact (Rz (Kd.R_mono (Kd.R_far (p := ⟨gb191, 2, none⟩) (Kd.R_far (p := ⟨gb191, 1, none⟩) (Kd.R_far (p := ⟨gb191, 0, none⟩) (Kd.R_types HO187.out BK191.out (by decide)) (fun _ hk => hk.2) (.int .i64 t184)) (fun _ hk => hk.2) (.slice Ao47 t185.length co47)) (fun _ hk => hk.2) (.slice Ao48 t188.length co48)) (fun _ h_ => h_.1)))); (case side4 => exact (Kd.R_reads' HO187.out).2.1); rintro e w' ⟨rfl, ⟨nd, rfl⟩⟩; (try exact yZ))); try go_wp2_with (first | (go_at_call 38; (with_reducible refine (spec_biKeys.calls k2 _ _ x4_2 true _ ?side1 ?side2 A26.out).mono ?_); (case side1 => exact Cz ((Kd.R_reads' HO_4.out).2.2)); (case side2 => exact (Kd.R_reads' HO_4.out).2.1); rintro e w' ⟨rfl, ⟨nd, rfl⟩⟩; (try exact yZ); obtain ⟨hcz42_0, hcz42_1, hcz42_2, hfz42_0, hfz42_1, hfz42_2⟩ := cf3 (w := wr) BK174) | (go_at_call 40; (with_reducible refine (spec_trFront.calls k2 _ _ x4_2 a0_0 t184 t185 t188 _ ?side1 ?side2 A28.out).mono ?_); (case side1 => exact Cz ((Kd.R_reads' HO_4.out).2.2)); (case side2 => exact (Kd.R_reads' HO_4.out).2.1); rintro e w43 ⟨v186, v189, rfl, ho0, ho1, hb⟩; have n0_ := Re HO_4 (Kd.R_base ho1) hb; have n1_ := Rm ho0 HB; have n2_ := Rm (Kd.R_new' ho1 (Kd.R_lt (Rz HO_4.out))) HB; have n3_ := Kb BK174 hb; have n4_ := Bc HB hb; clear HO_4 BK174 HB; revert n0_ n1_ n2_ n3_ n4_; intro HO_4 HO187 HO190 BK174 HB; (try clear hb); (try clear hb2); (try clear hk); (try clear hi); (try clear ho0); (try clear ho1)) | ((with_reducible refine gate_dst (N := 8) rfl ?_); (try (refine gate_guard (by rfl) ?_; dsimp only)); refine bE 8 #[.int .i64 0, .slice none 0 0, .slice none 0 0] 26 ?_; intro gb191 hg w44 hbox hb; have n0_ := Rb HO_4 hb; have n1_ := Rb HO187 hb; have n2_ := Rb HO190 hb; have n3_ := Kb BK174 hb; have n4_ := Bc HB hb; have n5_ := am (hbox); have n6_ := Gm HB hg; have n7_ := Gm HB hg; have n8_ := Nl BK174 hg; have n9_ := Ng BK174 hg; clear HO_4 HO187 HO190 BK174 HB; revert n0_ n1_ n2_ n3_ n4_ n5_ n6_ n7_ n8_ n9_; intro HO_4 HO187 HO190 BK174 HB BK191 GW191 GE191 NB174_191 NB191_174; clear hb hbox hg; have hnb45 := NB191_174.out; have hnc45 := NB174_191.out; obtain ⟨hcz46_0, hcz46_1, hcz46_2, hfz46_0, hfz46_1, hfz46_2⟩ := cf3 (w := w44) BK191; obtain ⟨Ao47, co47, eo47⟩ := Kd.R_slice HO187.out; subst eo47; obtain ⟨Ao48, co48, eo48⟩ := Kd.R_slice HO190.out; subst eo48; obtain ⟨hcz49_0, hcz49_1, hcz49_2, hfz49_0, hfz49_1, hfz49_2⟩ := cf3 (w := w44) BK174) | (go_at_call 67; (with_reducible refine (spec_l1Same.calls k2 _ _ l0_1 _ _ t185 false _ ?side1 ?side2 ?side3 ?side4 A29.out).mono ?_); (case side1 => exact Kd.C_below HR0_1.out (Bq)); (case side2 => exact HC0_1.out); (case side3 => refine (Kd.R_reads' (e := 3) (base := w.heap.size) (ok := fun k_ => True) (n := t185.length) (c := co47) ?_).2.2; exact (Rz (Kd.R_mono (Kd.R_far (p := ⟨gb191, 2, none⟩) (Kd.R_far (p := ⟨gb191, 1, none⟩) (Kd.R_far (p := ⟨gb191, 0, none⟩) (Kd.R_types HO187.out BK191.out (by decide)) (fun _ hk => hk.2) (.int .i64 t184)) (fun _ hk => hk.2) (.slice Ao47 t185.length co47)) (fun _ hk => hk.2) (.slice Ao48 t188.length co48)) (fun _ h_ => h_.1)))); (case side4 => exact (Kd.R_reads' HO187.out).2.1); rintro e w' ⟨rfl, ⟨nd, rfl⟩⟩; (try exact yZ))))
         go_ret2
         exact ⟨_, eZ, Rz (Kd.R_mono (Kd.R_far (p := ⟨gb191, 2, none⟩) (Kd.R_far (p := ⟨gb191, 1, none⟩) (Kd.R_far (p := ⟨gb191, 0, none⟩) (Kd.R_types HO_4.out BK191.out (by decide)) (fun _ hk => hk.2) (.int .i64 t184)) (fun _ hk => hk.2) (.slice Ao47 t185.length co47)) (fun _ hk => hk.2) (.slice Ao48 t188.length co48)) (fun _ hk => trivial)), Bq⟩
       ·replace c27 := Bool.eq_false_iff.mpr c27
        subst c27
        rw [if_neg (show ¬ (false = true) by decide)] at H
        simp only [Option.some.injEq, Prod.mk.injEq] at H
        obtain ⟨rfl, rfl⟩ := H; obtain ⟨Ao50, co50, eo50⟩ := Kd.R_slice HO_4.out; subst eo50
        go_wp2_with (first | (go_at_call 38; (with_reducible refine (spec_biKeys.calls k2 _ _ x4_2 false _ ?side1 ?side2 A26.out).mono ?_); (case side1 => exact Cz ((Kd.R_reads' HO_4.out).2.2)); (case side2 => exact (Kd.R_reads' HO_4.out).2.1); rintro e w' ⟨rfl, ⟨nd, rfl⟩⟩; (try exact yZ)))
        repeat (go_quiet (first | (go_at_call 38; (with_reducible refine (spec_biKeys.calls k2 _ _ x4_2 false _ ?side1 ?side2 A26.out).mono ?_); (case side1 => exact Cz ((Kd.R_reads' HO_4.out).2.2)); (case side2 => exact (Kd.R_reads' HO_4.out).2.1); rintro e w' ⟨rfl, ⟨nd, rfl⟩⟩; (try exact yZ))); try go_wp2_with (first | (go_at_call 38; (with_reducible refine (spec_biKeys.calls k2 _ _ x4_2 false _ ?side1 ?side2 A26.out).mono ?_); (case side1 => exact Cz ((Kd.R_reads' HO_4.out).2.2)); (case side2 => exact (Kd.R_reads' HO_4.out).2.1); rintro e w' ⟨rfl, ⟨nd, rfl⟩⟩; (try exact yZ))))
        go_ret2
        exact ⟨_, eZ, nZ, Bq⟩

def spec_l1PutS.l0 : Nat → List ByteArray → ByteArray → Int → Option (List ByteArray)
 | 0, _, _, _ => none
 | k + 1, x0, x1, x5 => if x5 < (x0.length : Int) then (if 0 ≤ x5 then (if (Op.bytesLess ((rdOf ByteArray.empty x0 x5).toList) x1.toList) = true then (spec_l1PutS.l0 k x0 x1 (wrap64 (x5 + 1))) else (if (rdOf ByteArray.empty x0 x5).toList = x1.toList then (some x0) else ((some (([] : List ByteArray) : List ByteArray)).bind fun y196 => (if x5 ≤ (x0.length : Int) then ((some (x0.take (x5 : Int).toNat : List ByteArray)).bind fun y199 => (if y196.length + y199.length < 8796093022208 then ((some (y196 ++ y199 : List ByteArray)).bind fun y203 => (if y203.length < 8796093022208 then ((some (y203 ++ [x1] : List ByteArray)).bind fun y206 => ((some (x0.drop (x5 : Int).toNat : List ByteArray)).bind fun y209 => (if y206.length + y209.length < 8796093022208 then (some (y206 ++ y209)) else (none)))) else (none))) else (none))) else (none))))) else (none)) else ((some (([] : List ByteArray) : List ByteArray)).bind fun y216 => (if 0 ≤ x5 then (if x5 ≤ (x0.length : Int) then ((some (x0.take (x5 : Int).toNat : List ByteArray)).bind fun y219 => (if y216.length + y219.length < 8796093022208 then ((some (y216 ++ y219 : List ByteArray)).bind fun y223 => (if y223.length < 8796093022208 then ((some (y223 ++ [x1] : List ByteArray)).bind fun y226 => ((some (x0.drop (x5 : Int).toNat : List ByteArray)).bind fun y229 => (if y226.length + y229.length < 8796093022208 then (some (y226 ++ y229)) else (none)))) else (none))) else (none))) else (none)) else (none)))
def spec_l1PutS.f (k : Nat) (l0 : List ByteArray) (a1 : ByteArray) : Option (List ByteArray) := spec_l1PutS.l0 k l0 a1 0
theorem spec_l1PutS.calls (k : Nat) (P0_ : Nat → Prop) (u9000_ : Value) (l0 : List ByteArray) (a1 : ByteArray) (r : List ByteArray) (w0 w : World) (hB : Below w0.heap.size w0 w) (ho0 : Kd.R Kd.string 9 w w0.heap.size P0_ u9000_ l0) (h : spec_l1PutS.f k l0 a1 = some r) :
  Calls Try.prog 57 #[u9000_, .string a1] w fun e w' => ∃ v0_ : Value, e = .returned (v0_) ∧ Kd.R Kd.string 9 w' w0.heap.size (fun k_ => (P0_ k_ ∨ w.heap.size ≤ k_)) v0_ r ∧ Below w0.heap.size w0 w' ∧ Kept w w' (fun k_ => P0_ k_) := by
 have HO0 := am (show Kd.R Kd.string 9 w w0.heap.size (fun k_ => (P0_ k_ ∨ w.heap.size ≤ k_)) u9000_ l0 from Kd.R_mono ho0 (fun k_ hk => (.inl hk))); have HK := am (Kept.refl w (fun k_ => P0_ k_)); have HW0 := am hB.size; have HB := am hB; clear hB; have H : (spec_l1PutS.l0 k l0 a1 0) = some r := h; clear h; have H' := am H; clear H
 go_enter Try.func57, Try.ntmps57
 go_wp2
 go_loopg [5] k (fun kq v5 w' => ∃ (x5_1 : Int), v5 = .int .i64 x5_1 ∧ Aside0 (spec_l1PutS.l0 kq l0 a1 x5_1 = some r) ∧ Aside0 (kq ≤ k) ∧ Aside0 (Kd.R Kd.string 9 w' w0.heap.size (fun k_ => (P0_ k_ ∨ w.heap.size ≤ k_)) u9000_ l0) ∧ Aside0 (Kept w w' (fun k_ => P0_ k_)) ∧ Aside0 (Below w0.heap.size w0 w'))
 case atStart => exact ⟨(0), wZ, H', ⟨Nat.le_refl _⟩, ⟨Rz HO0.out⟩, ⟨by repeat (first | (with_reducible first | exact HK.out | apply Kept.alloc | apply Kept.drewN | apply Kept.drew) | exact HK.out)⟩, ⟨Bz HB.out⟩⟩
 case round =>
  clear H'
  try clear p2
  obtain ⟨x5_1, rfl, HA, HK1, HO_0, HK, HB⟩ := hrel; cases gk with
  | zero => exact absurd HA.out (by simp [spec_l1PutS.l0])
  | succ k1 =>
   have H := HA.out; clear HA
   simp only [spec_l1PutS.l0] at H
   by_cases c3 : x5_1 < (l0.length : Int)
   ·rw [if_pos c3] at H
    have c3b0 : decide (x5_1 < (l0.length : Int)) = true := decide_eq_true c3; clear c3
    by_cases c4 : 0 ≤ x5_1
    ·rw [if_pos c4] at H
     have c4b0 : decide (0 ≤ x5_1) = true := decide_eq_true c4; clear c4
     by_cases c5 : (Op.bytesLess ((rdOf ByteArray.empty l0 x5_1).toList) a1.toList) = true
     ·rw [if_pos c5] at H
      have c5b0 : (Op.bytesLess ((rdOf ByteArray.empty l0 x5_1).toList) a1.toList) = true := c5; clear c5; have H' := am H; clear H; obtain ⟨Ao6, co6, eo6⟩ := Kd.R_slice HO_0.out; subst eo6; obtain ⟨ad194, e194, hx194_0⟩ := Kd.at_string (Kd.R_reads' HO_0.out).2.2 x5_1 dT dT; cases e194; have p194 := eT (0 ≤ (x5_1 : Int)); have q194 := eT (x5_1 < (l0.length : Int))
      go_wp2
      go_roundg k1
      case measure => have := HK1.out; omega
      case rel => exact ⟨(wrap64 (x5_1 + 1)), wZ, H', ⟨by have := HK1.out; omega⟩, ⟨Rz HO_0.out⟩, ⟨by repeat (first | (with_reducible first | exact HK.out | apply Kept.alloc | apply Kept.drewN | apply Kept.drew) | exact HK.out)⟩, ⟨Bz HB.out⟩⟩
     ·rw [if_neg c5] at H
      have c5b0 : (Op.bytesLess ((rdOf ByteArray.empty l0 x5_1).toList) a1.toList) = false := by simpa using c5
      clear c5
      by_cases c7 : (rdOf ByteArray.empty l0 x5_1).toList = a1.toList
      ·rw [if_pos c7] at H
       have c7b0 : ((rdOf ByteArray.empty l0 x5_1).toList == a1.toList) = true := beq_iff_eq.mpr c7; have c7b1 : ((rdOf ByteArray.empty l0 x5_1).toList != a1.toList) = false := bne_eq_false_iff_eq.mpr c7; clear c7; obtain rfl := Option.some.inj H; obtain ⟨Ao8, co8, eo8⟩ := Kd.R_slice HO_0.out; subst eo8; obtain ⟨ad194, e194, hx194_0⟩ := Kd.at_string (Kd.R_reads' HO_0.out).2.2 x5_1 dT dT; cases e194; have p194 := eT (0 ≤ (x5_1 : Int)); have q194 := eT (x5_1 < (l0.length : Int)); have p195 : 0 ≤ (x5_1 : Int) := dT; have q195 : x5_1 < (l0.length : Int) := dT; obtain ⟨ad195, e195, hx195_0⟩ := Kd.at_string (Kd.R_reads' HO_0.out).2.2 x5_1 p195 q195; obtain rfl : ad194 = ad195 := (by injection e195); replace p195 := eq_true p195; replace q195 := eq_true q195
       go_wp2
       go_ret
       exact ⟨_, eZ, Rz HO_0.out, Bz HB.out, by repeat (first | (with_reducible first | exact HK.out | apply Kept.alloc | apply Kept.drewN | apply Kept.drew) | exact HK.out)⟩
      ·rw [if_neg c7] at H
       have c7b0 : ((rdOf ByteArray.empty l0 x5_1).toList == a1.toList) = false := beq_eq_false_iff_ne.mpr c7; have c7b1 : ((rdOf ByteArray.empty l0 x5_1).toList != a1.toList) = true := bne_iff_ne.mpr c7; obtain ⟨y196, hy196⟩ : ∃ y_ : List ByteArray, y_ = (([] : List ByteArray)) := ⟨_, rfl⟩
       replace H : (if x5_1 ≤ (l0.length : Int) then ((some (l0.take (x5_1 : Int).toNat : List ByteArray)).bind fun y199 => (if y196.length + y199.length < 8796093022208 then ((some (y196 ++ y199 : List ByteArray)).bind fun y203 => (if y203.length < 8796093022208 then ((some (y203 ++ [a1] : List ByteArray)).bind fun y206 => ((some (l0.drop (x5_1 : Int).toNat : List ByteArray)).bind fun y209 => (if y206.length + y209.length < 8796093022208 then (some (y206 ++ y209)) else (none)))) else (none))) else (none))) else (none)) = some r := by first | (rw [hy196]; with_reducible exact H) | (have H2_ := (Option.bind_some _ _).symm.trans H; rw [hy196]; with_reducible exact H2_) | (have H2_ := (Option.bind_some _ _).symm.trans H; with_reducible exact H2_) | with_reducible exact H | (rw [hy196]; exact H) | exact H
       have Ny196 := am hy196; clear hy196; have c9b0 := eq_true (dT : 0 ≤ x5_1)
       by_cases c10 : x5_1 ≤ (l0.length : Int)
       ·rw [if_pos c10] at H
        have c10b0 := eq_true c10; have c10b1 : decide (x5_1 ≤ (l0.length : Int)) = true := decide_eq_true c10; clear c10; obtain ⟨y199, hy199⟩ : ∃ y_ : List ByteArray, y_ = (l0.take (x5_1 : Int).toNat) := ⟨_, rfl⟩
        replace H : (if y196.length + y199.length < 8796093022208 then ((some (y196 ++ y199 : List ByteArray)).bind fun y203 => (if y203.length < 8796093022208 then ((some (y203 ++ [a1] : List ByteArray)).bind fun y206 => ((some (l0.drop (x5_1 : Int).toNat : List ByteArray)).bind fun y209 => (if y206.length + y209.length < 8796093022208 then (some (y206 ++ y209)) else (none)))) else (none))) else (none)) = some r := by first | (rw [hy199]; with_reducible exact H) | (have H2_ := (Option.bind_some _ _).symm.trans H; rw [hy199]; with_reducible exact H2_) | (have H2_ := (Option.bind_some _ _).symm.trans H; with_reducible exact H2_) | with_reducible exact H | (rw [hy199]; exact H) | exact H
        have Ny199 := am hy199; clear hy199
        by_cases c11 : y196.length + y199.length < 8796093022208
        ·rw [if_pos c11] at H
         have LMc11 := am c11; clear c11; obtain ⟨y203, hy203⟩ : ∃ y_ : List ByteArray, y_ = (y196 ++ y199) := ⟨_, rfl⟩
         replace H : (if y203.length < 8796093022208 then ((some (y203 ++ [a1] : List ByteArray)).bind fun y206 => ((some (l0.drop (x5_1 : Int).toNat : List ByteArray)).bind fun y209 => (if y206.length + y209.length < 8796093022208 then (some (y206 ++ y209)) else (none)))) else (none)) = some r := by first | (rw [hy203]; with_reducible exact H) | (have H2_ := (Option.bind_some _ _).symm.trans H; rw [hy203]; with_reducible exact H2_) | (have H2_ := (Option.bind_some _ _).symm.trans H; with_reducible exact H2_) | with_reducible exact H | (rw [hy203]; exact H) | exact H
         have Ny203 := am hy203; clear hy203
         by_cases c12 : y203.length < 8796093022208
         ·rw [if_pos c12] at H
          have LMc12 := am c12; clear c12; obtain ⟨y206, hy206⟩ : ∃ y_ : List ByteArray, y_ = (y203 ++ [a1]) := ⟨_, rfl⟩
          replace H : ((some (l0.drop (x5_1 : Int).toNat : List ByteArray)).bind fun y209 => (if y206.length + y209.length < 8796093022208 then (some (y206 ++ y209)) else (none))) = some r := by first | (rw [hy206]; with_reducible exact H) | (have H2_ := (Option.bind_some _ _).symm.trans H; rw [hy206]; with_reducible exact H2_) | (have H2_ := (Option.bind_some _ _).symm.trans H; with_reducible exact H2_) | with_reducible exact H | (rw [hy206]; exact H) | exact H
          have Ny206 := am hy206; clear hy206; have c13b0 := eq_true (dT : 0 ≤ x5_1); have c14b0 := eq_true (dT : x5_1 ≤ (l0.length : Int)); obtain ⟨y209, hy209⟩ : ∃ y_ : List ByteArray, y_ = (l0.drop (x5_1 : Int).toNat) := ⟨_, rfl⟩
          replace H : (if y206.length + y209.length < 8796093022208 then (some (y206 ++ y209)) else (none)) = some r := by first | (rw [hy209]; with_reducible exact H) | (have H2_ := (Option.bind_some _ _).symm.trans H; rw [hy209]; with_reducible exact H2_) | (have H2_ := (Option.bind_some _ _).symm.trans H; with_reducible exact H2_) | with_reducible exact H | (rw [hy209]; exact H) | exact H
          have Ny209 := am hy209; clear hy209
          by_cases c15 : y206.length + y209.length < 8796093022208
          ·rw [if_pos c15] at H
           have LMc15 := am c15; clear c15; obtain ⟨y213, hy213⟩ : ∃ y_ : List ByteArray, y_ = (y206 ++ y209) := ⟨_, rfl⟩
           replace H : (some y213) = some r := by first | (rw [hy213]; with_reducible exact H) | (have H2_ := (Option.bind_some _ _).symm.trans H; rw [hy213]; with_reducible exact H2_) | (have H2_ := (Option.bind_some _ _).symm.trans H; with_reducible exact H2_) | with_reducible exact H | (rw [hy213]; exact H) | exact H
           have Ny213 := am hy213; clear hy213; obtain rfl := Option.some.inj H; obtain ⟨Ao16, co16, eo16⟩ := Kd.R_slice HO_0.out; subst eo16; obtain ⟨ad194, e194, hx194_0⟩ := Kd.at_string (Kd.R_reads' HO_0.out).2.2 x5_1 dT dT; cases e194; have p194 := eT (0 ≤ (x5_1 : Int)); have q194 := eT (x5_1 < (l0.length : Int)); have p195 : 0 ≤ (x5_1 : Int) := dT; have q195 : x5_1 < (l0.length : Int) := dT; obtain ⟨ad195, e195, hx195_0⟩ := Kd.at_string (Kd.R_reads' HO_0.out).2.2 x5_1 p195 q195; obtain rfl : ad194 = ad195 := (by injection e195); replace p195 := eq_true p195; replace q195 := eq_true q195
           go_wp2_with (first | ((with_reducible refine gate_dst (N := 34) rfl ?_); refine Kd.R_lit Kd.string _ 9 ?hg (N := 34) ?hd (xs := ([] : List ByteArray)) (inner := []) (ok := fun _ => True) (okp := fun _ => True) ?hr ?hp (fun _ hk => hk) trivial (Below.refl _ _) (Nat.le_refl _) (by simp) ?_; (case hd => rfl); (case hg => rfl); (case hr => first | (go_simp; done) | (go_simp; rfl)); (case hp => exact (Reps.none _ _)); intro v197 w17 ho18 hb hg_ hnew_; clear hg_ hnew_; (first | rw [← Ny196.out] at ho18 | (simp only [Int.reduceToNat] at ho18; rw [← Ny196.out] at ho18)); have n0_ := Re HO_0 (Kd.R_base ho18) hb; have n1_ := am (Kd.R_lower (Kd.R_new' (Kd.R_newM (M := fun k_ => (P0_ k_ ∨ w.heap.size ≤ k_)) ho18 (by first | exact HK.out.1 | exact (show Kept w _ (fun k_ => P0_ k_) from by repeat (first | (with_reducible first | exact HK.out | apply Kept.alloc | apply Kept.drewN | apply Kept.drew) | exact HK.out)).1) (fun k_ h_ => .inr h_)) (Kd.R_lt (Rz HO_0.out))) (below_size (Bz HB.out))); have n2_ := am (Kept.below (S := (fun k_ => P0_ k_)) (by repeat (first | (with_reducible first | exact HK.out | apply Kept.alloc | apply Kept.drewN | apply Kept.drew) | exact HK.out)) hb); have n3_ := Bb HB hb; clear HO_0 HK HB; revert n0_ n1_ n2_ n3_; intro HO_0 HO198 HK HB; clear hb ho18; have q19 : (x5_1 : Int) ≤ ((l0.length : Int) : Int) := dT; obtain ⟨i019, hi019, _, hsz19, _⟩ := info_parts info9; have hroom19 : l0.length ≤ co16 := (Kd.R_reads' HO_0.out).2.1; have hC19 : Kd.C Kd.string _ (some ad194) l0.length l0 := (Kd.R_reads' HO_0.out).2.2; have hcut19 := cut_to (P := Try.prog) 22 9 .i64 Try.underlying22 hi019 (some ad194) l0.length co16 x5_1 (dT) q19 hroom19; have hr19 := Kd.C_take (m := (x5_1 : Int).toNat) hC19 (by omega); have hy19 : y199.length = (x5_1 : Int).toNat := (by rw [Ny199.out, List.length_take]; omega); rw [← Ny199.out] at hr19; rw [← hy19] at hcut19; have HR202 := am hr19; have HC202 := am (show y199.length ≤ co16 from by omega); clear hr19 hC19 hroom19 hi019 hsz19; have KY19 := am hy19; clear hy19; have KL19 := am (show (x5_1 : Int).toNat ≤ l0.length from by omega); replace q19 := eq_true q19) | ((with_reducible refine gate_builtin (b := .append) (xs := #[.tmp 34, .tmp 37]) rfl ?_); at_builtin; refine Kd.R_append_rows Kd.string (w0 := w0) w0.heap.size rfl (.tmp 34) (.tmp 37) 22 9 (.string ⟨#[]⟩) 16 rfl Try.underlying22 info9 rfl (by decide) (by omega) v197 y196 y199 _ _ _ (fun k_ => (P0_ k_ ∨ w.heap.size ≤ k_) ∧ some k_ ≠ (.slice (some ad194) l0.length co16 : Value).ownBlock) (fun _ => False) rfl rfl ?aO ?aR (fun _ _ h => h) (fun _ h => h.elim) ?aF ?aB ?aS ?aL ?_; (case aR => repeat (first | exact (by repeat (first | (with_reducible exact HR202.out) | (with_reducible refine Kd.C_alloc ?_ _) | (with_reducible refine Kd.C_drewN ?_ _) | (with_reducible refine Kd.C_drew ?_) | exact HR202.out)) | (with_reducible refine Kd.C_alloc ?_ _) | (with_reducible refine Kd.C_drewN ?_ _) | (with_reducible refine Kd.C_drew ?_))); (case aB => exact (Bz HB.out)); (case aF => exact (fun k_ hk => ⟨(.inr (Nat.le_trans (by first | exact HK.out.1 | exact (show Kept w _ (fun k_ => P0_ k_) from by repeat (first | (with_reducible first | exact HK.out | apply Kept.alloc | apply Kept.drewN | apply Kept.drew) | exact HK.out)).1) hk)), Kd.fresh' (Kd.R_lt (Rz HO_0.out)) k_ hk⟩)); (case aO => exact (Rz (Kd.R_mono HO198.out (fun _ hk => ⟨hk.1.1, hk.2⟩)))); (case aS => exact (below_size (Bz HB.out))); (case aL => have := LMc11.out; omega); intro v204 w20 ho hb hg hat; rw [← Ny203.out] at ho; have n0_ := am (Kd.R_after (ok := (fun k_ => (P0_ k_ ∨ w.heap.size ≤ k_))) (Rz HO_0.out) hg hat); have n1_ := am (hb); have n2_ := am (Kept.of_grown (S := (fun k_ => P0_ k_)) hg (by repeat (first | (with_reducible first | exact HK.out | apply Kept.alloc | apply Kept.drewN | apply Kept.drew) | exact HK.out)) (fun k_ e_ => (HO198.out.1 k_ e_).1.1)); have n3_ := am ((show Kd.C Kd.string w20 (some ad194) y199.length y199 from by rw [Ny199.out]; exact Kd.C_take (m := (x5_1 : Int).toNat) ((Kd.R_reads' (Kd.R_after (ok := (fun k_ => (P0_ k_ ∨ w.heap.size ≤ k_))) (Rz HO_0.out) hg hat)).2.2) KL19.out)); have n4_ := am (ho); clear HO_0 HB HK HR202 HO198; revert n0_ n1_ n2_ n3_ n4_; intro HO_0 HB HK HR202 HO205; clear ho hb hg hat) | ((with_reducible refine gate_builtin (b := .append) (xs := #[.tmp 39, .tmp 41]) rfl ?_); at_builtin; refine Kd.R_append Kd.string (w0 := w0) w0.heap.size rfl (.tmp 39) (.tmp 41) 22 9 (.string ⟨#[]⟩) 16 rfl Try.underlying22 info9 rfl (by decide) (by omega) v204 y203 a1 [.string a1] (fun k_ => (P0_ k_ ∨ w.heap.size ≤ k_) ∧ some k_ ≠ (.slice (some ad194) l0.length co16 : Value).ownBlock) (fun _ => False) rfl rfl ?aP (fun _ hk => hk.elim) ?aF ?aO ?aB ?aS ?aL ?_; (case aP => exact rfl); (case aB => exact (Bz HB.out)); (case aF => exact (fun k_ hk => ⟨(.inr (Nat.le_trans (by first | exact HK.out.1 | exact (show Kept w _ (fun k_ => P0_ k_) from by repeat (first | (with_reducible first | exact HK.out | apply Kept.alloc | apply Kept.drewN | apply Kept.drew) | exact HK.out)).1) hk)), Kd.fresh' (Kd.R_lt (Rz HO_0.out)) k_ hk⟩)); (case aO => exact (Rz HO205.out)); (case aS => exact (below_size (Bz HB.out))); (case aL => have := LMc12.out; omega); intro v207 w21 ho hb hg hat; rw [← Ny206.out] at ho; have n0_ := am (Kd.R_after (ok := (fun k_ => (P0_ k_ ∨ w.heap.size ≤ k_))) (Rz HO_0.out) hg hat); have n1_ := am (hb); have n2_ := am (Kept.of_grown (S := (fun k_ => P0_ k_)) hg (by repeat (first | (with_reducible first | exact HK.out | apply Kept.alloc | apply Kept.drewN | apply Kept.drew) | exact HK.out)) (fun k_ e_ => (HO205.out.1 k_ e_).1)); have n3_ := am ((show Kd.C Kd.string w21 (some ad194) y199.length y199 from by rw [Ny199.out]; exact Kd.C_take (m := (x5_1 : Int).toNat) ((Kd.R_reads' (Kd.R_after (ok := (fun k_ => (P0_ k_ ∨ w.heap.size ≤ k_))) (Rz HO_0.out) hg hat)).2.2) KL19.out)); have n4_ := am (ho); clear HO_0 HB HK HR202 HO205; revert n0_ n1_ n2_ n3_ n4_; intro HO_0 HB HK HR202 HO208; clear ho hb hg hat; have q22 : (x5_1 : Int) ≤ ((l0.length : Int) : Int) := dT; obtain ⟨i022, hi022, _, hsz22, _⟩ := info_parts info9; have hroom22 : l0.length ≤ co16 := (Kd.R_reads' HO_0.out).2.1; have hC22 : Kd.C Kd.string _ (some ad194) l0.length l0 := (Kd.R_reads' HO_0.out).2.2; have q022 : (0 : Int) ≤ (x5_1 : Int) := dT; have hcut22 := cut_from (P := Try.prog) 22 9 .i64 Try.underlying22 hi022 1 hsz22 (some ad194) l0.length co16 x5_1 q022 q22; have hr22 := Kd.C_drop (m := (x5_1 : Int).toNat) (c := co16) hC22 (by omega) hroom22; obtain ⟨A22, hA22⟩ : ∃ A1, A1 = (if co16 = (x5_1 : Int).toNat then (some ad194) else ((some ad194) : Option Addr).map (·.add ((x5_1 : Int).toNat * 1))) := ⟨_, rfl⟩; obtain ⟨c22, hc22⟩ : ∃ c1, c1 = co16 - (x5_1 : Int).toNat := ⟨_, rfl⟩; have hy22 : y209.length = l0.length - (x5_1 : Int).toNat := (by rw [Ny209.out, List.length_drop] <;> omega); rw [show (l0).drop (x5_1 : Int).toNat = y209 from Ny209.out.symm] at hr22; replace hr22 : Kd.C Kd.string _ A22 y209.length y209 := (by rw [hA22]; exact hr22); rw [← hy22, ← hA22, ← hc22] at hcut22; have HR212 := am hr22; have HC212 := am (show y209.length ≤ c22 from by rw [hy22, hc22]; exact Nat.sub_le_sub_right hroom22 _); clear hr22 hC22 hroom22 hi022 hsz22 hc22; have KY22 := am hy22; have KA22 := am hA22; clear hy22 hA22; have KL22 := am (show (x5_1 : Int).toNat ≤ l0.length from by omega); replace q22 := eq_true q22) | ((with_reducible refine gate_builtin (b := .append) (xs := #[.tmp 43, .tmp 46]) rfl ?_); at_builtin; refine Kd.R_append_rows Kd.string (w0 := w0) w0.heap.size rfl (.tmp 43) (.tmp 46) 22 9 (.string ⟨#[]⟩) 16 rfl Try.underlying22 info9 rfl (by decide) (by omega) v207 y206 y209 _ _ _ (fun k_ => (P0_ k_ ∨ w.heap.size ≤ k_) ∧ some k_ ≠ (.slice (some ad194) l0.length co16 : Value).ownBlock) (fun _ => False) rfl rfl ?aO ?aR (fun _ _ h => h) (fun _ h => h.elim) ?aF ?aB ?aS ?aL ?_; (case aR => repeat (first | exact (by repeat (first | (with_reducible exact HR212.out) | (with_reducible refine Kd.C_alloc ?_ _) | (with_reducible refine Kd.C_drewN ?_ _) | (with_reducible refine Kd.C_drew ?_) | exact HR212.out)) | (with_reducible refine Kd.C_alloc ?_ _) | (with_reducible refine Kd.C_drewN ?_ _) | (with_reducible refine Kd.C_drew ?_))); (case aB => exact (Bz HB.out)); (case aF => exact (fun k_ hk => ⟨(.inr (Nat.le_trans (by first | exact HK.out.1 | exact (show Kept w _ (fun k_ => P0_ k_) from by repeat (first | (with_reducible first | exact HK.out | apply Kept.alloc | apply Kept.drewN | apply Kept.drew) | exact HK.out)).1) hk)), Kd.fresh' (Kd.R_lt (Rz HO_0.out)) k_ hk⟩)); (case aO => exact (Rz HO208.out)); (case aS => exact (below_size (Bz HB.out))); (case aL => have := LMc15.out; omega); intro v214 w23 ho hb hg hat; rw [← Ny213.out] at ho; have n0_ := am (Kd.R_after (ok := (fun k_ => (P0_ k_ ∨ w.heap.size ≤ k_))) (Rz HO_0.out) hg hat); have n1_ := am (hb); have n2_ := am (Kept.of_grown (S := (fun k_ => P0_ k_)) hg (by repeat (first | (with_reducible first | exact HK.out | apply Kept.alloc | apply Kept.drewN | apply Kept.drew) | exact HK.out)) (fun k_ e_ => (HO208.out.1 k_ e_).1)); have n3_ := am ((show Kd.C Kd.string w23 (some ad194) y199.length y199 from by rw [Ny199.out]; exact Kd.C_take (m := (x5_1 : Int).toNat) ((Kd.R_reads' (Kd.R_after (ok := (fun k_ => (P0_ k_ ∨ w.heap.size ≤ k_))) (Rz HO_0.out) hg hat)).2.2) KL19.out)); have n4_ := am ((show Kd.C Kd.string w23 A22 y209.length y209 from by rw [Ny209.out, KA22.out]; exact Kd.C_drop (m := (x5_1 : Int).toNat) (c := co16) ((Kd.R_reads' (Kd.R_after (ok := (fun k_ => (P0_ k_ ∨ w.heap.size ≤ k_))) (Rz HO_0.out) hg hat)).2.2) KL22.out ((Kd.R_reads' (Kd.R_after (ok := (fun k_ => (P0_ k_ ∨ w.heap.size ≤ k_))) (Rz HO_0.out) hg hat)).2.1))); have n5_ := am (ho); clear HO_0 HB HK HR202 HR212 HO208; revert n0_ n1_ n2_ n3_ n4_ n5_; intro HO_0 HB HK HR202 HR212 HO215; clear ho hb hg hat))
           go_ret
           exact ⟨_, eZ, Rz (Kd.R_mono HO215.out (fun _ hk => hk.1)), Bz HB.out, by repeat (first | (with_reducible first | exact HK.out | apply Kept.alloc | apply Kept.drewN | apply Kept.drew) | exact HK.out)⟩
          ·rw [if_neg c15] at H
           exact absurd H (by simp)
         ·rw [if_neg c12] at H
          exact absurd H (by simp)
        ·rw [if_neg c11] at H
         exact absurd H (by simp)
       ·rw [if_neg c10] at H
        exact absurd H (by simp)
    ·rw [if_neg c4] at H
     exact absurd H (by simp)
   ·rw [if_neg c3] at H
    have c3b0 : decide (x5_1 < (l0.length : Int)) = false := decide_eq_false c3; clear c3; obtain ⟨y216, hy216⟩ : ∃ y_ : List ByteArray, y_ = (([] : List ByteArray)) := ⟨_, rfl⟩
    replace H : (if 0 ≤ x5_1 then (if x5_1 ≤ (l0.length : Int) then ((some (l0.take (x5_1 : Int).toNat : List ByteArray)).bind fun y219 => (if y216.length + y219.length < 8796093022208 then ((some (y216 ++ y219 : List ByteArray)).bind fun y223 => (if y223.length < 8796093022208 then ((some (y223 ++ [a1] : List ByteArray)).bind fun y226 => ((some (l0.drop (x5_1 : Int).toNat : List ByteArray)).bind fun y229 => (if y226.length + y229.length < 8796093022208 then (some (y226 ++ y229)) else (none)))) else (none))) else (none))) else (none)) else (none)) = some r := by first | (rw [hy216]; with_reducible exact H) | (have H2_ := (Option.bind_some _ _).symm.trans H; rw [hy216]; with_reducible exact H2_) | (have H2_ := (Option.bind_some _ _).symm.trans H; with_reducible exact H2_) | with_reducible exact H | (rw [hy216]; exact H) | exact H
    have Ny216 := am hy216; clear hy216
    by_cases c24 : 0 ≤ x5_1
    ·rw [if_pos c24] at H
     have c24b0 := eq_true c24; have c24b1 : decide (0 ≤ x5_1) = true := decide_eq_true c24; clear c24
     by_cases c25 : x5_1 ≤ (l0.length : Int)
     ·rw [if_pos c25] at H
      have c25b0 := eq_true c25; have c25b1 : decide (x5_1 ≤ (l0.length : Int)) = true := decide_eq_true c25; clear c25; obtain ⟨y219, hy219⟩ : ∃ y_ : List ByteArray, y_ = (l0.take (x5_1 : Int).toNat) := ⟨_, rfl⟩
      replace H : (if y216.length + y219.length < 8796093022208 then ((some (y216 ++ y219 : List ByteArray)).bind fun y223 => (if y223.length < 8796093022208 then ((some (y223 ++ [a1] : List ByteArray)).bind fun y226 => ((some (l0.drop (x5_1 : Int).toNat : List ByteArray)).bind fun y229 => (if y226.length + y229.length < 8796093022208 then (some (y226 ++ y229)) else (none)))) else (none))) else (none)) = some r := by first | (rw [hy219]; with_reducible exact H) | (have H2_ := (Option.bind_some _ _).symm.trans H; rw [hy219]; with_reducible exact H2_) | (have H2_ := (Option.bind_some _ _).symm.trans H; with_reducible exact H2_) | with_reducible exact H | (rw [hy219]; exact H) | exact H
      have Ny219 := am hy219; clear hy219
      by_cases c26 : y216.length + y219.length < 8796093022208
      ·rw [if_pos c26] at H
       have LMc26 := am c26; clear c26; obtain ⟨y223, hy223⟩ : ∃ y_ : List ByteArray, y_ = (y216 ++ y219) := ⟨_, rfl⟩
       replace H : (if y223.length < 8796093022208 then ((some (y223 ++ [a1] : List ByteArray)).bind fun y226 => ((some (l0.drop (x5_1 : Int).toNat : List ByteArray)).bind fun y229 => (if y226.length + y229.length < 8796093022208 then (some (y226 ++ y229)) else (none)))) else (none)) = some r := by first | (rw [hy223]; with_reducible exact H) | (have H2_ := (Option.bind_some _ _).symm.trans H; rw [hy223]; with_reducible exact H2_) | (have H2_ := (Option.bind_some _ _).symm.trans H; with_reducible exact H2_) | with_reducible exact H | (rw [hy223]; exact H) | exact H
       have Ny223 := am hy223; clear hy223
       by_cases c27 : y223.length < 8796093022208
       ·rw [if_pos c27] at H
        have LMc27 := am c27; clear c27; obtain ⟨y226, hy226⟩ : ∃ y_ : List ByteArray, y_ = (y223 ++ [a1]) := ⟨_, rfl⟩
        replace H : ((some (l0.drop (x5_1 : Int).toNat : List ByteArray)).bind fun y229 => (if y226.length + y229.length < 8796093022208 then (some (y226 ++ y229)) else (none))) = some r := by first | (rw [hy226]; with_reducible exact H) | (have H2_ := (Option.bind_some _ _).symm.trans H; rw [hy226]; with_reducible exact H2_) | (have H2_ := (Option.bind_some _ _).symm.trans H; with_reducible exact H2_) | with_reducible exact H | (rw [hy226]; exact H) | exact H
        have Ny226 := am hy226; clear hy226; have c28b0 := eq_true (dT : 0 ≤ x5_1); have c29b0 := eq_true (dT : x5_1 ≤ (l0.length : Int)); obtain ⟨y229, hy229⟩ : ∃ y_ : List ByteArray, y_ = (l0.drop (x5_1 : Int).toNat) := ⟨_, rfl⟩
        replace H : (if y226.length + y229.length < 8796093022208 then (some (y226 ++ y229)) else (none)) = some r := by first | (rw [hy229]; with_reducible exact H) | (have H2_ := (Option.bind_some _ _).symm.trans H; rw [hy229]; with_reducible exact H2_) | (have H2_ := (Option.bind_some _ _).symm.trans H; with_reducible exact H2_) | with_reducible exact H | (rw [hy229]; exact H) | exact H
        have Ny229 := am hy229; clear hy229
        by_cases c30 : y226.length + y229.length < 8796093022208
        ·rw [if_pos c30] at H
         have LMc30 := am c30; clear c30; obtain ⟨y233, hy233⟩ : ∃ y_ : List ByteArray, y_ = (y226 ++ y229) := ⟨_, rfl⟩
         replace H : (some y233) = some r := by first | (rw [hy233]; with_reducible exact H) | (have H2_ := (Option.bind_some _ _).symm.trans H; rw [hy233]; with_reducible exact H2_) | (have H2_ := (Option.bind_some _ _).symm.trans H; with_reducible exact H2_) | with_reducible exact H | (rw [hy233]; exact H) | exact H
         have Ny233 := am hy233; clear hy233; obtain rfl := Option.some.inj H; obtain ⟨Ao31, co31, eo31⟩ := Kd.R_slice HO_0.out; subst eo31
         go_wp2_with (first | ((with_reducible refine gate_dst (N := 34) rfl ?_); refine Kd.R_lit Kd.string _ 9 ?hg (N := 34) ?hd (xs := ([] : List ByteArray)) (inner := []) (ok := fun _ => True) (okp := fun _ => True) ?hr ?hp (fun _ hk => hk) trivial (Below.refl _ _) (Nat.le_refl _) (by simp) ?_; (case hd => rfl); (case hg => rfl); (case hr => first | (go_simp; done) | (go_simp; rfl)); (case hp => exact (Reps.none _ _)); intro v217 w32 ho33 hb hg_ hnew_; clear hg_ hnew_; (first | rw [← Ny216.out] at ho33 | (simp only [Int.reduceToNat] at ho33; rw [← Ny216.out] at ho33)); have n0_ := Re HO_0 (Kd.R_base ho33) hb; have n1_ := am (Kd.R_lower (Kd.R_new' (Kd.R_newM (M := fun k_ => (P0_ k_ ∨ w.heap.size ≤ k_)) ho33 (by first | exact HK.out.1 | exact (show Kept w _ (fun k_ => P0_ k_) from by repeat (first | (with_reducible first | exact HK.out | apply Kept.alloc | apply Kept.drewN | apply Kept.drew) | exact HK.out)).1) (fun k_ h_ => .inr h_)) (Kd.R_lt (Rz HO_0.out))) (below_size (Bz HB.out))); have n2_ := am (Kept.below (S := (fun k_ => P0_ k_)) (by repeat (first | (with_reducible first | exact HK.out | apply Kept.alloc | apply Kept.drewN | apply Kept.drew) | exact HK.out)) hb); have n3_ := Bb HB hb; clear HO_0 HK HB; revert n0_ n1_ n2_ n3_; intro HO_0 HO218 HK HB; clear hb ho33; have q34 : (x5_1 : Int) ≤ ((l0.length : Int) : Int) := dT; obtain ⟨i034, hi034, _, hsz34, _⟩ := info_parts info9; have hroom34 : l0.length ≤ co31 := (Kd.R_reads' HO_0.out).2.1; have hC34 : Kd.C Kd.string _ Ao31 l0.length l0 := (Kd.R_reads' HO_0.out).2.2; have hcut34 := cut_to (P := Try.prog) 22 9 .i64 Try.underlying22 hi034 Ao31 l0.length co31 x5_1 (dT) q34 hroom34; have hr34 := Kd.C_take (m := (x5_1 : Int).toNat) hC34 (by omega); have hy34 : y219.length = (x5_1 : Int).toNat := (by rw [Ny219.out, List.length_take]; omega); rw [← Ny219.out] at hr34; rw [← hy34] at hcut34; have HR222 := am hr34; have HC222 := am (show y219.length ≤ co31 from by omega); clear hr34 hC34 hroom34 hi034 hsz34; have KY34 := am hy34; clear hy34; have KL34 := am (show (x5_1 : Int).toNat ≤ l0.length from by omega); replace q34 := eq_true q34) | ((with_reducible refine gate_builtin (b := .append) (xs := #[.tmp 34, .tmp 37]) rfl ?_); at_builtin; refine Kd.R_append_rows Kd.string (w0 := w0) w0.heap.size rfl (.tmp 34) (.tmp 37) 22 9 (.string ⟨#[]⟩) 16 rfl Try.underlying22 info9 rfl (by decide) (by omega) v217 y216 y219 _ _ _ (fun k_ => (P0_ k_ ∨ w.heap.size ≤ k_) ∧ some k_ ≠ (.slice Ao31 l0.length co31 : Value).ownBlock) (fun _ => False) rfl rfl ?aO ?aR (fun _ _ h => h) (fun _ h => h.elim) ?aF ?aB ?aS ?aL ?_; (case aR => repeat (first | exact (by repeat (first | (with_reducible exact HR222.out) | (with_reducible refine Kd.C_alloc ?_ _) | (with_reducible refine Kd.C_drewN ?_ _) | (with_reducible refine Kd.C_drew ?_) | exact HR222.out)) | (with_reducible refine Kd.C_alloc ?_ _) | (with_reducible refine Kd.C_drewN ?_ _) | (with_reducible refine Kd.C_drew ?_))); (case aB => exact (Bz HB.out)); (case aF => exact (fun k_ hk => ⟨(.inr (Nat.le_trans (by first | exact HK.out.1 | exact (show Kept w _ (fun k_ => P0_ k_) from by repeat (first | (with_reducible first | exact HK.out | apply Kept.alloc | apply Kept.drewN | apply Kept.drew) | exact HK.out)).1) hk)), Kd.fresh' (Kd.R_lt (Rz HO_0.out)) k_ hk⟩)); (case aO => exact (Rz (Kd.R_mono HO218.out (fun _ hk => ⟨hk.1.1, hk.2⟩)))); (case aS => exact (below_size (Bz HB.out))); (case aL => have := LMc26.out; omega); intro v224 w35 ho hb hg hat; rw [← Ny223.out] at ho; have n0_ := am (Kd.R_after (ok := (fun k_ => (P0_ k_ ∨ w.heap.size ≤ k_))) (Rz HO_0.out) hg hat); have n1_ := am (hb); have n2_ := am (Kept.of_grown (S := (fun k_ => P0_ k_)) hg (by repeat (first | (with_reducible first | exact HK.out | apply Kept.alloc | apply Kept.drewN | apply Kept.drew) | exact HK.out)) (fun k_ e_ => (HO218.out.1 k_ e_).1.1)); have n3_ := am ((show Kd.C Kd.string w35 Ao31 y219.length y219 from by rw [Ny219.out]; exact Kd.C_take (m := (x5_1 : Int).toNat) ((Kd.R_reads' (Kd.R_after (ok := (fun k_ => (P0_ k_ ∨ w.heap.size ≤ k_))) (Rz HO_0.out) hg hat)).2.2) KL34.out)); have n4_ := am (ho); clear HO_0 HB HK HR222 HO218; revert n0_ n1_ n2_ n3_ n4_; intro HO_0 HB HK HR222 HO225; clear ho hb hg hat) | ((with_reducible refine gate_builtin (b := .append) (xs := #[.tmp 39, .tmp 41]) rfl ?_); at_builtin; refine Kd.R_append Kd.string (w0 := w0) w0.heap.size rfl (.tmp 39) (.tmp 41) 22 9 (.string ⟨#[]⟩) 16 rfl Try.underlying22 info9 rfl (by decide) (by omega) v224 y223 a1 [.string a1] (fun k_ => (P0_ k_ ∨ w.heap.size ≤ k_) ∧ some k_ ≠ (.slice Ao31 l0.length co31 : Value).ownBlock) (fun _ => False) rfl rfl ?aP (fun _ hk => hk.elim) ?aF ?aO ?aB ?aS ?aL ?_; (case aP => exact rfl); (case aB => exact (Bz HB.out)); (case aF => exact (fun k_ hk => ⟨(.inr (Nat.le_trans (by first | exact HK.out.1 | exact (show Kept w _ (fun k_ => P0_ k_) from by repeat (first | (with_reducible first | exact HK.out | apply Kept.alloc | apply Kept.drewN | apply Kept.drew) | exact HK.out)).1) hk)), Kd.fresh' (Kd.R_lt (Rz HO_0.out)) k_ hk⟩)); (case aO => exact (Rz HO225.out)); (case aS => exact (below_size (Bz HB.out))); (case aL => have := LMc27.out; omega); intro v227 w36 ho hb hg hat; rw [← Ny226.out] at ho; have n0_ := am (Kd.R_after (ok := (fun k_ => (P0_ k_ ∨ w.heap.size ≤ k_))) (Rz HO_0.out) hg hat); have n1_ := am (hb); have n2_ := am (Kept.of_grown (S := (fun k_ => P0_ k_)) hg (by repeat (first | (with_reducible first | exact HK.out | apply Kept.alloc | apply Kept.drewN | apply Kept.drew) | exact HK.out)) (fun k_ e_ => (HO225.out.1 k_ e_).1)); have n3_ := am ((show Kd.C Kd.string w36 Ao31 y219.length y219 from by rw [Ny219.out]; exact Kd.C_take (m := (x5_1 : Int).toNat) ((Kd.R_reads' (Kd.R_after (ok := (fun k_ => (P0_ k_ ∨ w.heap.size ≤ k_))) (Rz HO_0.out) hg hat)).2.2) KL34.out)); have n4_ := am (ho); clear HO_0 HB HK HR222 HO225; revert n0_ n1_ n2_ n3_ n4_; intro HO_0 HB HK HR222 HO228; clear ho hb hg hat; have q37 : (x5_1 : Int) ≤ ((l0.length : Int) : Int) := dT; obtain ⟨i037, hi037, _, hsz37, _⟩ := info_parts info9; have hroom37 : l0.length ≤ co31 := (Kd.R_reads' HO_0.out).2.1; have hC37 : Kd.C Kd.string _ Ao31 l0.length l0 := (Kd.R_reads' HO_0.out).2.2; have q037 : (0 : Int) ≤ (x5_1 : Int) := dT; have hcut37 := cut_from (P := Try.prog) 22 9 .i64 Try.underlying22 hi037 1 hsz37 Ao31 l0.length co31 x5_1 q037 q37; have hr37 := Kd.C_drop (m := (x5_1 : Int).toNat) (c := co31) hC37 (by omega) hroom37; obtain ⟨A37, hA37⟩ : ∃ A1, A1 = (if co31 = (x5_1 : Int).toNat then Ao31 else (Ao31 : Option Addr).map (·.add ((x5_1 : Int).toNat * 1))) := ⟨_, rfl⟩; obtain ⟨c37, hc37⟩ : ∃ c1, c1 = co31 - (x5_1 : Int).toNat := ⟨_, rfl⟩; have hy37 : y229.length = l0.length - (x5_1 : Int).toNat := (by rw [Ny229.out, List.length_drop] <;> omega); rw [show (l0).drop (x5_1 : Int).toNat = y229 from Ny229.out.symm] at hr37; replace hr37 : Kd.C Kd.string _ A37 y229.length y229 := (by rw [hA37]; exact hr37); rw [← hy37, ← hA37, ← hc37] at hcut37; have HR232 := am hr37; have HC232 := am (show y229.length ≤ c37 from by rw [hy37, hc37]; exact Nat.sub_le_sub_right hroom37 _); clear hr37 hC37 hroom37 hi037 hsz37 hc37; have KY37 := am hy37; have KA37 := am hA37; clear hy37 hA37; have KL37 := am (show (x5_1 : Int).toNat ≤ l0.length from by omega); replace q37 := eq_true q37) | ((with_reducible refine gate_builtin (b := .append) (xs := #[.tmp 43, .tmp 46]) rfl ?_); at_builtin; refine Kd.R_append_rows Kd.string (w0 := w0) w0.heap.size rfl (.tmp 43) (.tmp 46) 22 9 (.string ⟨#[]⟩) 16 rfl Try.underlying22 info9 rfl (by decide) (by omega) v227 y226 y229 _ _ _ (fun k_ => (P0_ k_ ∨ w.heap.size ≤ k_) ∧ some k_ ≠ (.slice Ao31 l0.length co31 : Value).ownBlock) (fun _ => False) rfl rfl ?aO ?aR (fun _ _ h => h) (fun _ h => h.elim) ?aF ?aB ?aS ?aL ?_; (case aR => repeat (first | exact (by repeat (first | (with_reducible exact HR232.out) | (with_reducible refine Kd.C_alloc ?_ _) | (with_reducible refine Kd.C_drewN ?_ _) | (with_reducible refine Kd.C_drew ?_) | exact HR232.out)) | (with_reducible refine Kd.C_alloc ?_ _) | (with_reducible refine Kd.C_drewN ?_ _) | (with_reducible refine Kd.C_drew ?_))); (case aB => exact (Bz HB.out)); (case aF => exact (fun k_ hk => ⟨(.inr (Nat.le_trans (by first | exact HK.out.1 | exact (show Kept w _ (fun k_ => P0_ k_) from by repeat (first | (with_reducible first | exact HK.out | apply Kept.alloc | apply Kept.drewN | apply Kept.drew) | exact HK.out)).1) hk)), Kd.fresh' (Kd.R_lt (Rz HO_0.out)) k_ hk⟩)); (case aO => exact (Rz HO228.out)); (case aS => exact (below_size (Bz HB.out))); (case aL => have := LMc30.out; omega); intro v234 w38 ho hb hg hat; rw [← Ny233.out] at ho; have n0_ := am (Kd.R_after (ok := (fun k_ => (P0_ k_ ∨ w.heap.size ≤ k_))) (Rz HO_0.out) hg hat); have n1_ := am (hb); have n2_ := am (Kept.of_grown (S := (fun k_ => P0_ k_)) hg (by repeat (first | (with_reducible first | exact HK.out | apply Kept.alloc | apply Kept.drewN | apply Kept.drew) | exact HK.out)) (fun k_ e_ => (HO228.out.1 k_ e_).1)); have n3_ := am ((show Kd.C Kd.string w38 Ao31 y219.length y219 from by rw [Ny219.out]; exact Kd.C_take (m := (x5_1 : Int).toNat) ((Kd.R_reads' (Kd.R_after (ok := (fun k_ => (P0_ k_ ∨ w.heap.size ≤ k_))) (Rz HO_0.out) hg hat)).2.2) KL34.out)); have n4_ := am ((show Kd.C Kd.string w38 A37 y229.length y229 from by rw [Ny229.out, KA37.out]; exact Kd.C_drop (m := (x5_1 : Int).toNat) (c := co31) ((Kd.R_reads' (Kd.R_after (ok := (fun k_ => (P0_ k_ ∨ w.heap.size ≤ k_))) (Rz HO_0.out) hg hat)).2.2) KL37.out ((Kd.R_reads' (Kd.R_after (ok := (fun k_ => (P0_ k_ ∨ w.heap.size ≤ k_))) (Rz HO_0.out) hg hat)).2.1))); have n5_ := am (ho); clear HO_0 HB HK HR222 HR232 HO228; revert n0_ n1_ n2_ n3_ n4_ n5_; intro HO_0 HB HK HR222 HR232 HO235; clear ho hb hg hat))
         go_ret
         exact ⟨_, eZ, Rz (Kd.R_mono HO235.out (fun _ hk => hk.1)), Bz HB.out, by repeat (first | (with_reducible first | exact HK.out | apply Kept.alloc | apply Kept.drewN | apply Kept.drew) | exact HK.out)⟩
        ·rw [if_neg c30] at H
         exact absurd H (by simp)
       ·rw [if_neg c27] at H
        exact absurd H (by simp)
      ·rw [if_neg c26] at H
       exact absurd H (by simp)
     ·rw [if_neg c25] at H
      exact absurd H (by simp)
    ·rw [if_neg c24] at H
     exact absurd H (by simp)

mutual
def spec_MergeFronts.j0 : Nat → List ByteArray → List ByteArray → Bool → Int → List Int → List ByteArray → Option (Int × List Int × List ByteArray × Bool)
 | 0, _, _, _, _, _, _ => none
 | k + 1, x6, x8, x27, x237000, x237001, x237002 => if x27 = true then (some (0, ([] : List Int), ([] : List ByteArray), false)) else (spec_MergeFronts.l0 k x6 x8 (x8.length : Int) 0 x237000 x237001 x237002)
def spec_MergeFronts.l0 : Nat → List ByteArray → List ByteArray → Int → Int → Int → List Int → List ByteArray → Option (Int × List Int × List ByteArray × Bool)
 | 0, _, _, _, _, _, _, _ => none
 | k + 1, x6, x29, x30, x31, x237000, x237001, x237002 => if x31 < x30 then (if 0 ≤ x31 then (if x31 < (x29.length : Int) then ((spec_l1PutS.f k x6 (rdOf ByteArray.empty x29 x31)).bind fun t248 => (spec_MergeFronts.l0 k t248 x29 x30 (wrap64 (x31 + 1)) x237000 x237001 x237002)) else (none)) else (none)) else ((spec_biKeys.f k x6).bind fun t251 => (if t251 = true then ((spec_trFront.f k x6 x237000).bind fun bt252 => (some (bt252.1, bt252.2.1, bt252.2.2, true))) else (some (0, ([] : List Int), ([] : List ByteArray), false))))
end
def spec_MergeFronts.f (k : Nat) (a0_0 : Int) (l0_1 : List Int) (l0_2 : List ByteArray) (a1_0 : Int) (l1_1 : List Int) (l1_2 : List ByteArray) : Option (Int × List Int × List ByteArray × Bool) := (spec_trFronted.f k a0_0 l0_1 l0_2).bind fun bt239 => ((spec_trFronted.f k a1_0 l1_1 l1_2).bind fun bt243 => (if bt239.2 = true then (spec_MergeFronts.j0 k bt239.1 bt243.1 (!bt243.2) a0_0 l0_1 l0_2) else (spec_MergeFronts.j0 k bt239.1 bt243.1 true a0_0 l0_1 l0_2)))
theorem spec_MergeFronts.calls (k : Nat) (a0_0 : Int) (A0_1 : Option Addr) (c0_1 : Nat) (l0_1 : List Int) (A0_2 : Option Addr) (c0_2 : Nat) (l0_2 : List ByteArray) (a1_0 : Int) (A1_1 : Option Addr) (c1_1 : Nat) (l1_1 : List Int) (A1_2 : Option Addr) (c1_2 : Nat) (l1_2 : List ByteArray) (r1 : Int) (r2 : List Int) (r3 : List ByteArray) (r4 : Bool) (w : World) (hr0_1 : Kd.C (Kd.int .i64) w A0_1 l0_1.length l0_1) (hc0_1 : l0_1.length ≤ c0_1) (hr0_2 : Kd.C Kd.string w A0_2 l0_2.length l0_2) (hc0_2 : l0_2.length ≤ c0_2) (hr1_1 : Kd.C (Kd.int .i64) w A1_1 l1_1.length l1_1) (hc1_1 : l1_1.length ≤ c1_1) (hr1_2 : Kd.C Kd.string w A1_2 l1_2.length l1_2) (hc1_2 : l1_2.length ≤ c1_2) (h : spec_MergeFronts.f k a0_0 l0_1 l0_2 a1_0 l1_1 l1_2 = some (r1, r2, r3, r4)) :
  Calls Try.prog 32 #[.agg #[.int .i64 a0_0, .slice A0_1 l0_1.length c0_1, .slice A0_2 l0_2.length c0_2], .agg #[.int .i64 a1_0, .slice A1_1 l1_1.length c1_1, .slice A1_2 l1_2.length c1_2]] w fun e w' => ∃ v1_ v2_ : Value, e = .returned (.tuple #[.agg #[.int .i64 r1, v1_, v2_], .bool r4]) ∧ Kd.R (Kd.int .i64) 3 w' w.heap.size (fun _ => True) v1_ r2 ∧ Kd.R Kd.string 9 w' w.heap.size (fun _ => True) v2_ r3 ∧ Below w.heap.size w w' := by
 have hu26 := Try.underlying26; have HR0_1 := am hr0_1; have HC0_1 := am hc0_1; clear hr0_1 hc0_1; have HR0_2 := am hr0_2; have HC0_2 := am hc0_2; clear hr0_2 hc0_2; have HR1_1 := am hr1_1; have HC1_1 := am hc1_1; clear hr1_1 hc1_1; have HR1_2 := am hr1_2; have HC1_2 := am hc1_2; clear hr1_2 hc1_2; have HB := am (Below.refl w.heap.size w); have H : ((spec_trFronted.f k a0_0 l0_1 l0_2).bind fun bt239 => ((spec_trFronted.f k a1_0 l1_1 l1_2).bind fun bt243 => (if bt239.2 = true then (spec_MergeFronts.j0 k bt239.1 bt243.1 (!bt243.2) a0_0 l0_1 l0_2) else (spec_MergeFronts.j0 k bt239.1 bt243.1 true a0_0 l0_1 l0_2)))) = some (r1, r2, r3, r4) := h; clear h; obtain ⟨⟨t239, t242⟩, A3, H⟩ := ob H; (try dsimp -simprocs only at H); obtain ⟨⟨t243, t246⟩, A4, H⟩ := ob H; (try dsimp -simprocs only at H); have HC5 := am H; clear H
 go_enter Try.func32, Try.ntmps32
 go_upto_region 3 with (first | ((with_reducible refine gate_dst (N := 2) rfl ?_); refine bE 2 #[.int .i64 a0_0, .slice A0_1 l0_1.length c0_1, .slice A0_2 l0_2.length c0_2] 26 ?_; intro gb236 hg w6 hbox hb; have n0_ := Bb HB hb; have n1_ := am (hbox); have n2_ := Gl HB hg; have n3_ := Gl HB hg; clear HB; revert n0_ n1_ n2_ n3_; intro HB BK236 GW236 GE236; clear hb hbox hg) | ((with_reducible refine gate_dst (N := 3) rfl ?_); refine bE 3 #[.int .i64 a1_0, .slice A1_1 l1_1.length c1_1, .slice A1_2 l1_2.length c1_2] 26 ?_; intro gb237 hg w7 hbox hb; have n0_ := Kb BK236 hb; have n1_ := Bc HB hb; have n2_ := am (hbox); have n3_ := Gm HB hg; have n4_ := Gm HB hg; have n5_ := Nl BK236 hg; have n6_ := Ng BK236 hg; clear BK236 HB; revert n0_ n1_ n2_ n3_ n4_ n5_ n6_; intro BK236 HB BK237 GW237 GE237 NB236_237 NB237_236; clear hb hbox hg) | ((with_reducible refine gate_dst (N := 4) rfl ?_); refine bE 4 #[.int .i64 0, .slice none 0 0, .slice none 0 0] 26 ?_; intro gb238 hg w8 hbox hb; have n0_ := Kb BK236 hb; have n1_ := Kb BK237 hb; have n2_ := Bc HB hb; have n3_ := am (hbox); have n4_ := Gm HB hg; have n5_ := Gm HB hg; have n6_ := Nl BK236 hg; have n7_ := Ng BK236 hg; have n8_ := Nl BK237 hg; have n9_ := Ng BK237 hg; clear BK236 BK237 HB; revert n0_ n1_ n2_ n3_ n4_ n5_ n6_ n7_ n8_ n9_; intro BK236 BK237 HB BK238 GW238 GE238 NB236_238 NB238_236 NB237_238 NB238_237; clear hb hbox hg; have hnb9 := NB236_237.out; have hnc9 := NB237_236.out; have hnb10 := NB236_238.out; have hnc10 := NB238_236.out; obtain ⟨hcz11_0, hcz11_1, hcz11_2, hfz11_0, hfz11_1, hfz11_2⟩ := cf3 (w := w8) BK236) | ((with_reducible refine gate_callee (f := 50) rfl ?_); refine gL (some 14) Try.func50 #[.agg #[.int .i64 a0_0, .slice A0_1 l0_1.length c0_1, .slice A0_2 l0_2.length c0_2]] ?_; (with_reducible refine (spec_trFronted.calls k a0_0 _ _ l0_1 _ _ l0_2 t239 t242 _ ?side1 ?side2 ?side3 ?side4 A3.out).mono ?_); (case side1 => exact Cz (Kd.C_below HR0_1.out HB.out)); (case side2 => exact HC0_1.out); (case side3 => exact Cz (Kd.C_below HR0_2.out HB.out)); (case side4 => exact HC0_2.out); rintro e w12 ⟨v240, rfl, ho0, hb⟩; refine ⟨_, rfl, ?_⟩; have n0_ := Rm ho0 HB; have n1_ := Kb BK236 hb; have n2_ := Kb BK237 hb; have n3_ := Kb BK238 hb; have n4_ := Bc HB hb; clear BK236 BK237 BK238 HB; revert n0_ n1_ n2_ n3_ n4_; intro HO241 BK236 BK237 BK238 HB; (try clear hb); (try clear hb2); (try clear hk); (try clear hi); (try clear ho0); have hnb13 := NB237_238.out; have hnc13 := NB238_237.out; obtain ⟨hcz14_0, hcz14_1, hcz14_2, hfz14_0, hfz14_1, hfz14_2⟩ := cf3 (w := w12) BK237) | ((with_reducible refine gate_callee (f := 50) rfl ?_); refine gL (some 19) Try.func50 #[.agg #[.int .i64 a1_0, .slice A1_1 l1_1.length c1_1, .slice A1_2 l1_2.length c1_2]] ?_; (with_reducible refine (spec_trFronted.calls k a1_0 _ _ l1_1 _ _ l1_2 t243 t246 _ ?side1 ?side2 ?side3 ?side4 A4.out).mono ?_); (case side1 => exact Cz (Kd.C_below HR1_1.out HB.out)); (case side2 => exact HC1_1.out); (case side3 => exact Cz (Kd.C_below HR1_2.out HB.out)); (case side4 => exact HC1_2.out); rintro e w15 ⟨v244, rfl, ho0, hb⟩; refine ⟨_, rfl, ?_⟩; have n0_ := Re HO241 (Kd.R_base ho0) hb; have n1_ := Rm (Kd.R_new' ho0 (Kd.R_lt (Rz HO241.out))) HB; have n2_ := Kb BK236 hb; have n3_ := Kb BK237 hb; have n4_ := Kb BK238 hb; have n5_ := Bc HB hb; clear HO241 BK236 BK237 BK238 HB; revert n0_ n1_ n2_ n3_ n4_ n5_; intro HO241 HO245 BK236 BK237 BK238 HB; (try clear hb); (try clear hb2); (try clear hk); (try clear hi); (try clear ho0)))
 (try simp only [aP])
 go_cut [27] (fun v27 wc => ∃ (kq : Nat) (x27_4 : Bool), v27 = .bool x27_4 ∧ Aside0 (spec_MergeFronts.j0 kq t239 t243 x27_4 a0_0 l0_1 l0_2 = some (r1, r2, r3, r4)) ∧ Aside0 (kq ≤ k) ∧ Aside0 (Kd.R Kd.string 9 wc w.heap.size (fun k_ => some k_ ≠ (v244 : Value).ownBlock) v240 t239) ∧ Aside0 (Kd.R Kd.string 9 wc w.heap.size (fun k_ => some k_ ≠ (v240 : Value).ownBlock) v244 t243) ∧ Aside0 (wc.heap[gb236]? = some (.cells #[.int .i64 a0_0, (.slice A0_1 l0_1.length c0_1), (.slice A0_2 l0_2.length c0_2)] 26 (0, 0))) ∧ Aside0 (wc.heap[gb237]? = some (.cells #[.int .i64 a1_0, (.slice A1_1 l1_1.length c1_1), (.slice A1_2 l1_2.length c1_2)] 26 (0, 0))) ∧ Aside0 (wc.heap[gb238]? = some (.cells #[.int .i64 0, (.slice none 0 0), (.slice none 0 0)] 26 (0, 0))) ∧ Aside0 (Below w.heap.size w wc))
 case first =>
  have H := HC5.out; clear HC5
  by_cases c16 : t242 = true
  ·subst c16
   rw [if_pos rfl] at H; have H' := am H; clear H
   go_wp2
   go_meet
   case rel => exact ⟨_, (!t246), wZ, H', ⟨by first | omega | exact Nat.le_refl _⟩, ⟨Rz (Kd.R_mono HO241.out (fun _ hk => hk.2))⟩, ⟨Rz (Kd.R_mono HO245.out (fun _ hk => hk.2))⟩, ⟨Kz BK236.out⟩, ⟨Kz BK237.out⟩, ⟨Kz BK238.out⟩, ⟨Bq⟩⟩
  ·replace c16 := Bool.eq_false_iff.mpr c16
   subst c16
   rw [if_neg (show ¬ (false = true) by decide)] at H; have H' := am H; clear H
   go_wp2
   go_meet
   case rel => exact ⟨_, (true), wZ, H', ⟨by first | omega | exact Nat.le_refl _⟩, ⟨Rz (Kd.R_mono HO241.out (fun _ hk => hk.2))⟩, ⟨Rz (Kd.R_mono HO245.out (fun _ hk => hk.2))⟩, ⟨Kz BK236.out⟩, ⟨Kz BK237.out⟩, ⟨Kz BK238.out⟩, ⟨Bq⟩⟩
 case rest =>
  clear HC5
  try clear c1
  try clear p2
  try clear c3
  try clear c5
  try clear c9
  try clear c10
  try clear c13
  try clear c16
  obtain ⟨kq, x27_4, rfl, HA, HJ4, HO_6, HO_8, BK236, BK237, BK238, HB⟩ := hcut; cases kq with
  | zero => exact absurd HA.out (by simp [spec_MergeFronts.j0])
  | succ kj4 =>
   have H := HA.out; clear HA
   simp only [spec_MergeFronts.j0] at H
   by_cases c17 : x27_4 = true
   ·subst c17
    rw [if_pos rfl] at H
    simp only [Option.some.injEq, Prod.mk.injEq] at H
    obtain ⟨rfl, rfl, rfl, rfl⟩ := H; have hnb18 := NB238_236.out; have hnc18 := NB236_238.out; have hnb19 := NB238_237.out; have hnc19 := NB237_238.out; obtain ⟨hcz20_0, hcz20_1, hcz20_2, hfz20_0, hfz20_1, hfz20_2⟩ := cf3 (w := wc) BK238
    go_wp2
    refine bodyPost_ret (results_ct rfl _ _ gb238 26 #[.int .i64 0, .slice none 0 0, .slice none 0 0] (0, 0) _ rfl (by refine bp ?_; refine blk_put (cs := #[.int .i64 0, .slice none 0 0, .slice none 0 0]) ?_ 2 _ rfl; refine bp ?_; refine blk_put (cs := #[.int .i64 0, .slice none 0 0, .slice none 0 0]) ?_ 1 _ rfl; refine bp ?_; refine blk_put (cs := #[.int .i64 0, .slice none 0 0, .slice none 0 0]) ?_ 0 _ rfl; exact Kz BK238.out) Try.underlying26 rfl (by kernel_rfl)) rfl ?_; exact ⟨_, _, eZ, nZ, nZ, Bq⟩
   ·replace c17 := Bool.eq_false_iff.mpr c17
    subst c17
    rw [if_neg (show ¬ (false = true) by decide)] at H; have H' := am H; clear H; obtain ⟨Ao21, co21, eo21⟩ := Kd.R_slice HO_8.out; subst eo21
    go_wp2
    go_loopg [6, 31] kj4 (fun kq v6 v31 w' => ∃ (x6_2 : List ByteArray) (x31_2 : Int), v31 = .int .i64 x31_2 ∧ Aside0 (spec_MergeFronts.l0 kq x6_2 t243 (t243.length : Int) x31_2 a0_0 l0_1 l0_2 = some (r1, r2, r3, r4)) ∧ Aside0 (kq ≤ kj4) ∧ Aside0 (Kd.R Kd.string 9 w' w.heap.size (fun k_ => some k_ ≠ ((.slice Ao21 t243.length co21) : Value).ownBlock) v6 x6_2) ∧ Aside0 (Kd.R Kd.string 9 w' w.heap.size (fun k_ => some k_ ≠ (v6 : Value).ownBlock) (.slice Ao21 t243.length co21) t243) ∧ Aside0 (w'.heap[gb236]? = some (.cells #[.int .i64 a0_0, (.slice A0_1 l0_1.length c0_1), (.slice A0_2 l0_2.length c0_2)] 26 (0, 0))) ∧ Aside0 (w'.heap[gb237]? = some (.cells #[.int .i64 a1_0, (.slice A1_1 l1_1.length c1_1), (.slice A1_2 l1_2.length c1_2)] 26 (0, 0))) ∧ Aside0 (w'.heap[gb238]? = some (.cells #[.int .i64 0, (.slice none 0 0), (.slice none 0 0)] 26 (0, 0))) ∧ Aside0 (Below w.heap.size w w'))
    case atStart => exact ⟨(t239), (0), wZ, H', ⟨Nat.le_refl _⟩, ⟨Rz HO_6.out⟩, ⟨Rz HO_8.out⟩, ⟨Kz BK236.out⟩, ⟨Kz BK237.out⟩, ⟨Kz BK238.out⟩, ⟨Bq⟩⟩
    case round =>
     clear H'
     try clear c1
     try clear p2
     try clear c3
     try clear c5
     try clear c9
     try clear c10
     try clear c13
     try clear c16
     try clear c17
     try clear c18
     try clear c19
     try clear p2
     obtain ⟨x6_2, x31_2, rfl, HA, HK2, HO_6, HO_29, BK236, BK237, BK238, HB⟩ := hrel; cases gk with
     | zero => exact absurd HA.out (by simp [spec_MergeFronts.l0])
     | succ k2 =>
      have H := HA.out; clear HA
      simp only [spec_MergeFronts.l0] at H
      by_cases c22 : x31_2 < (t243.length : Int)
      ·rw [if_pos c22] at H
       have c22b0 : decide (x31_2 < (t243.length : Int)) = true := decide_eq_true c22; clear c22
       by_cases c23 : 0 ≤ x31_2
       ·rw [if_pos c23] at H
        have c23b0 : decide (0 ≤ x31_2) = true := decide_eq_true c23; clear c23
        by_cases c24 : x31_2 < (t243.length : Int)
        ·rw [if_pos c24] at H
         have c24b0 : decide (x31_2 < (t243.length : Int)) = true := decide_eq_true c24; clear c24; obtain ⟨t248, A25, H⟩ := ob H; (try dsimp -simprocs only at H); have H' := am H; clear H; obtain ⟨ad247, e247, hx247_0⟩ := Kd.at_string (Kd.R_reads' HO_29.out).2.2 x31_2 dT dT; cases e247; have p247 := eT (0 ≤ (x31_2 : Int)); have q247 := eT (x31_2 < (t243.length : Int)); obtain ⟨Ao26, co26, eo26⟩ := Kd.R_slice HO_6.out; subst eo26
         go_wp2_with (first | ((with_reducible refine gate_callee (f := 57) rfl ?_); refine gL (some 37) Try.func57 #[.slice Ao26 x6_2.length co26, .string (rdOf ByteArray.empty t243 x31_2)] ?_; (with_reducible refine (spec_l1PutS.calls k2 (fun k_ => some k_ = (.slice Ao26 x6_2.length co26 : Value).ownBlock) (.slice Ao26 x6_2.length co26) x6_2 (rdOf ByteArray.empty t243 x31_2) t248 w _ ?side1 ?side2 A25.out).mono ?_); (case side1 => repeat (first | (with_reducible first | exact HB.out | apply below_alloc | apply pw_below_drewN | apply below_drew1 | refine below_set ?_ GE236.out | refine below_set ?_ GE237.out | refine below_set ?_ GE238.out) | exact HB.out)); (case side2 => exact Kd.R_tight rfl HO_6.out); rintro e w27 ⟨v249, rfl, ho0, hb, hkp⟩; refine ⟨_, rfl, ?_⟩; have n0_ := am (Kd.R_mono (ok' := fun k_ => some k_ ≠ (v249 : Value).ownBlock) (Kd.R_keptB (HO_29.out) hkp (fun k_ hk_ hs_ => (hk_) hs_)) (fun k_ hk_ => fun e_ => Or.elim (ho0.1 k_ e_.symm) (fun hs_ => hk_.2.1 hs_) (fun hn_ => Nat.not_le.2 hk_.2.2 hn_))); have n1_ := am (blk_kept (Kz BK236.out) hkp (fun hs_ => (fun e_ => (Kd.R_ne HO_6.out BK236.out (by decide)) e_) hs_)); have n2_ := am (blk_kept (Kz BK237.out) hkp (fun hs_ => (fun e_ => (Kd.R_ne HO_6.out BK237.out (by decide)) e_) hs_)); have n3_ := am (blk_kept (Kz BK238.out) hkp (fun hs_ => (fun e_ => (Kd.R_ne HO_6.out BK238.out (by decide)) e_) hs_)); have n4_ := am (Kd.R_mono (ok' := fun k_ => some k_ ≠ (.slice (some ad247) t243.length co21 : Value).ownBlock) ho0 (fun k_ hk_ => Or.elim hk_ (fun hs_ => fun e_ => (((HO_29.out).1 k_ e_.symm)) hs_) (fun hn_ => (Kd.fresh' (Kd.R_lt (Rz HO_29.out)) k_ hn_)))); have n5_ := am (hb); clear HO_29 BK236 BK237 BK238 HB HO_6; revert n0_ n1_ n2_ n3_ n4_ n5_; intro HO_29 BK236 BK237 BK238 HO250 HB; (try clear hb); (try clear hkp); (try clear ho0)))
         go_roundg k2
         case measure => have := HJ4.out; have := HK2.out; omega
         case rel => exact ⟨(t248), (wrap64 (x31_2 + 1)), wZ, H', ⟨by have := HJ4.out; have := HK2.out; omega⟩, ⟨Rz HO250.out⟩, ⟨Rz HO_29.out⟩, ⟨Kz BK236.out⟩, ⟨Kz BK237.out⟩, ⟨Kz BK238.out⟩, ⟨Bq⟩⟩
        ·rw [if_neg c24] at H
         exact absurd H (by simp)
       ·rw [if_neg c23] at H
        exact absurd H (by simp)
      ·rw [if_neg c22] at H
       have c22b0 : decide (x31_2 < (t243.length : Int)) = false := decide_eq_false c22; clear c22; obtain ⟨t251, A28, H⟩ := ob H; (try dsimp -simprocs only at H)
       by_cases c29 : t251 = true
       ·subst c29
        rw [if_pos rfl] at H; obtain ⟨⟨t252, t253, t256⟩, A30, H⟩ := ob H; (try dsimp -simprocs only at H)
        simp only [Option.some.injEq, Prod.mk.injEq] at H
        obtain ⟨rfl, rfl, rfl, rfl⟩ := H; obtain ⟨Ao31, co31, eo31⟩ := Kd.R_slice HO_6.out; subst eo31
        go_wp2_with (first | ((with_reducible refine gate_callee (f := 38) rfl ?_); refine gL (some 40) Try.func38 #[.slice Ao31 x6_2.length co31] ?_; (with_reducible refine (spec_biKeys.calls k2 _ _ x6_2 true _ ?side1 ?side2 A28.out).mono ?_); (case side1 => exact Cz ((Kd.R_reads' HO_6.out).2.2)); (case side2 => exact (Kd.R_reads' HO_6.out).2.1); rintro e w' ⟨rfl, ⟨nd, rfl⟩⟩; refine ⟨_, rfl, ?_⟩; (try (rw [drewN_self wr]; generalize hq_ : World.drewN wr _ = wr; have n0_ : Aside0 (Kd.R Kd.string 9 wr w.heap.size (fun k_ => some k_ ≠ (.slice Ao31 x6_2.length co31 : Value).ownBlock) (.slice Ao21 t243.length co21) t243) := ⟨by rw [← hq_]; exact (Rz HO_29.out)⟩; have n1_ : Aside0 (Kd.R Kd.string 9 wr w.heap.size (fun k_ => some k_ ≠ (.slice Ao21 t243.length co21 : Value).ownBlock) (.slice Ao31 x6_2.length co31) x6_2) := ⟨by rw [← hq_]; exact (Rz HO_6.out)⟩; have n2_ : Aside0 (wr.heap[gb236]? = some (.cells #[.int .i64 a0_0, .slice A0_1 l0_1.length c0_1, .slice A0_2 l0_2.length c0_2] 26 (0, 0))) := ⟨by rw [← hq_]; exact (Kz BK236.out)⟩; have n3_ : Aside0 (wr.heap[gb237]? = some (.cells #[.int .i64 a1_0, .slice A1_1 l1_1.length c1_1, .slice A1_2 l1_2.length c1_2] 26 (0, 0))) := ⟨by rw [← hq_]; exact (Kz BK237.out)⟩; have n4_ : Aside0 (wr.heap[gb238]? = some (.cells #[.int .i64 0, .slice none 0 0, .slice none 0 0] 26 (0, 0))) := ⟨by rw [← hq_]; exact (Kz BK238.out)⟩; have n5_ : Aside0 (Below w.heap.size w wr) := ⟨by rw [← hq_]; exact (Bq)⟩; clear HO_29 HO_6 BK236 BK237 BK238 HB hq_; revert n0_ n1_ n2_ n3_ n4_ n5_; intro HO_29 HO_6 BK236 BK237 BK238 HB)); have hnb32 := NB236_237.out; have hnc32 := NB237_236.out; have hnb33 := NB236_238.out; have hnc33 := NB238_236.out; obtain ⟨hcz34_0, hcz34_1, hcz34_2, hfz34_0, hfz34_1, hfz34_2⟩ := cf3 (w := wr) BK236) | ((with_reducible refine gate_callee (f := 40) rfl ?_); refine gL (some 46) Try.func40 #[.slice Ao31 x6_2.length co31, .int .i64 a0_0] ?_; (with_reducible refine (spec_trFront.calls k2 _ _ x6_2 a0_0 t252 t253 t256 _ ?side1 ?side2 A30.out).mono ?_); (case side1 => exact Cz ((Kd.R_reads' HO_6.out).2.2)); (case side2 => exact (Kd.R_reads' HO_6.out).2.1); rintro e w35 ⟨v254, v257, rfl, ho0, ho1, hb⟩; refine ⟨_, rfl, ?_⟩; have n0_ := Re HO_6 (Kd.R_base ho1) hb; have n1_ := Re HO_29 (Kd.R_base ho1) hb; have n2_ := Rm ho0 HB; have n3_ := Rm (Kd.R_new' (Kd.R_new' ho1 (Kd.R_lt (Rz HO_6.out))) (Kd.R_lt (Rz HO_29.out))) HB; have n4_ := Kb BK236 hb; have n5_ := Kb BK237 hb; have n6_ := Kb BK238 hb; have n7_ := Bc HB hb; clear HO_6 HO_29 BK236 BK237 BK238 HB; revert n0_ n1_ n2_ n3_ n4_ n5_ n6_ n7_; intro HO_6 HO_29 HO255 HO258 BK236 BK237 BK238 HB; (try clear hb); (try clear hb2); (try clear hk); (try clear hi); (try clear ho0); (try clear ho1); have hnb36 := NB238_237.out; have hnc36 := NB237_238.out; obtain ⟨hcz37_0, hcz37_1, hcz37_2, hfz37_0, hfz37_1, hfz37_2⟩ := cf3 (w := w35) BK238; obtain ⟨Ao38, co38, eo38⟩ := Kd.R_slice HO255.out; subst eo38; obtain ⟨Ao39, co39, eo39⟩ := Kd.R_slice HO258.out; subst eo39))
        refine bodyPost_ret (results_ct rfl _ _ gb238 26 #[.int .i64 t252, .slice Ao38 t253.length co38, .slice Ao39 t256.length co39] (0, 0) _ rfl (by refine bp ?_; refine blk_put (cs := #[.int .i64 t252, .slice Ao38 t253.length co38, .slice none 0 0]) ?_ 2 _ rfl; refine bp ?_; refine blk_put (cs := #[.int .i64 t252, .slice none 0 0, .slice none 0 0]) ?_ 1 _ rfl; refine bp ?_; refine blk_put (cs := #[.int .i64 0, .slice none 0 0, .slice none 0 0]) ?_ 0 _ rfl; exact Kz BK238.out) Try.underlying26 rfl (by kernel_rfl)) rfl ?_; exact ⟨_, _, eZ, Rz (Kd.R_mono (Kd.R_far (p := ⟨gb238, 2, none⟩) (Kd.R_far (p := ⟨gb238, 1, none⟩) (Kd.R_far (p := ⟨gb238, 0, none⟩) (Kd.R_types HO255.out BK238.out (by decide)) (fun _ hk => hk.2) (.int .i64 t252)) (fun _ hk => hk.2) (.slice Ao38 t253.length co38)) (fun _ hk => hk.2) (.slice Ao39 t256.length co39)) (fun _ hk => trivial)), Rz (Kd.R_mono (Kd.R_far (p := ⟨gb238, 2, none⟩) (Kd.R_far (p := ⟨gb238, 1, none⟩) (Kd.R_far (p := ⟨gb238, 0, none⟩) (Kd.R_types HO258.out BK238.out (by decide)) (fun _ hk => hk.2) (.int .i64 t252)) (fun _ hk => hk.2) (.slice Ao38 t253.length co38)) (fun _ hk => hk.2) (.slice Ao39 t256.length co39)) (fun _ hk => trivial)), Bq⟩
       ·replace c29 := Bool.eq_false_iff.mpr c29
        subst c29
        rw [if_neg (show ¬ (false = true) by decide)] at H
        simp only [Option.some.injEq, Prod.mk.injEq] at H
        obtain ⟨rfl, rfl, rfl, rfl⟩ := H; obtain ⟨Ao40, co40, eo40⟩ := Kd.R_slice HO_6.out; subst eo40
        go_wp2_with (first | ((with_reducible refine gate_callee (f := 38) rfl ?_); refine gL (some 40) Try.func38 #[.slice Ao40 x6_2.length co40] ?_; (with_reducible refine (spec_biKeys.calls k2 _ _ x6_2 false _ ?side1 ?side2 A28.out).mono ?_); (case side1 => exact Cz ((Kd.R_reads' HO_6.out).2.2)); (case side2 => exact (Kd.R_reads' HO_6.out).2.1); rintro e w' ⟨rfl, ⟨nd, rfl⟩⟩; refine ⟨_, rfl, ?_⟩; (try (rw [drewN_self wr]; generalize hq_ : World.drewN wr _ = wr; have n0_ : Aside0 (Kd.R Kd.string 9 wr w.heap.size (fun k_ => some k_ ≠ (.slice Ao40 x6_2.length co40 : Value).ownBlock) (.slice Ao21 t243.length co21) t243) := ⟨by rw [← hq_]; exact (Rz HO_29.out)⟩; have n1_ : Aside0 (Kd.R Kd.string 9 wr w.heap.size (fun k_ => some k_ ≠ (.slice Ao21 t243.length co21 : Value).ownBlock) (.slice Ao40 x6_2.length co40) x6_2) := ⟨by rw [← hq_]; exact (Rz HO_6.out)⟩; have n2_ : Aside0 (wr.heap[gb236]? = some (.cells #[.int .i64 a0_0, .slice A0_1 l0_1.length c0_1, .slice A0_2 l0_2.length c0_2] 26 (0, 0))) := ⟨by rw [← hq_]; exact (Kz BK236.out)⟩; have n3_ : Aside0 (wr.heap[gb237]? = some (.cells #[.int .i64 a1_0, .slice A1_1 l1_1.length c1_1, .slice A1_2 l1_2.length c1_2] 26 (0, 0))) := ⟨by rw [← hq_]; exact (Kz BK237.out)⟩; have n4_ : Aside0 (wr.heap[gb238]? = some (.cells #[.int .i64 0, .slice none 0 0, .slice none 0 0] 26 (0, 0))) := ⟨by rw [← hq_]; exact (Kz BK238.out)⟩; have n5_ : Aside0 (Below w.heap.size w wr) := ⟨by rw [← hq_]; exact (Bq)⟩; clear HO_29 HO_6 BK236 BK237 BK238 HB hq_; revert n0_ n1_ n2_ n3_ n4_ n5_; intro HO_29 HO_6 BK236 BK237 BK238 HB)); have hnb41 := NB238_236.out; have hnc41 := NB236_238.out; have hnb42 := NB238_237.out; have hnc42 := NB237_238.out; obtain ⟨hcz43_0, hcz43_1, hcz43_2, hfz43_0, hfz43_1, hfz43_2⟩ := cf3 (w := wr) BK238))
        refine bodyPost_ret (results_ct rfl _ _ gb238 26 #[.int .i64 0, .slice none 0 0, .slice none 0 0] (0, 0) _ rfl (by refine bp ?_; refine blk_put (cs := #[.int .i64 0, .slice none 0 0, .slice none 0 0]) ?_ 2 _ rfl; refine bp ?_; refine blk_put (cs := #[.int .i64 0, .slice none 0 0, .slice none 0 0]) ?_ 1 _ rfl; refine bp ?_; refine blk_put (cs := #[.int .i64 0, .slice none 0 0, .slice none 0 0]) ?_ 0 _ rfl; exact Kz BK238.out) Try.underlying26 rfl (by kernel_rfl)) rfl ?_; exact ⟨_, _, eZ, nZ, nZ, Bq⟩

def impl_in.f (a0 : Int) (a1 : Int) (a2 : Int) : Option (Bool) := if a0 ≥ a1 then (some (decide (a0 ≤ a2))) else (some false)
theorem impl_in.calls (a0 : Int) (a1 : Int) (a2 : Int) (r : Bool) (w : World) (h : impl_in.f a0 a1 a2 = some r) :
  Calls Try.prog 42 #[.int .i64 a0, .int .i64 a1, .int .i64 a2] w fun e w' => e = .returned (.bool r) ∧ Drawn0 w w' := by
 have H : (if a0 ≥ a1 then (some (decide (a0 ≤ a2))) else (some false)) = some r := h; clear h
 by_cases c4 : a0 ≥ a1
 ·rw [if_pos c4] at H
  have c4b0 : decide (a1 ≤ a0) = true := decide_eq_true c4; clear c4; obtain rfl := Option.some.inj H
  go_enter Try.func42, Try.ntmps42
  go_wp2
  go_ret
  exact ⟨by first | rfl | (simp; done) | (simp [*]; done), by repeat (first | exact Drawn0.refl _ | apply Drawn0.step)⟩
 ·rw [if_neg c4] at H
  have c4b0 : decide (a1 ≤ a0) = false := decide_eq_false c4; clear c4; obtain rfl := Option.some.inj H
  go_enter Try.func42, Try.ntmps42
  go_wp2
  go_ret
  exact ⟨by first | rfl | (simp; done) | (simp [*]; done), by repeat (first | exact Drawn0.refl _ | apply Drawn0.step)⟩

end Go.Proofs.Ytfedgkmklcialaa.PM
