import Derived.Laws.Strings
import Derived.Tactics
import Derived.Lib.LazyBuf
import Derived.Test.YtephjmmkggcmeaaCV0
import Derived.WalkKit
import Derived.KernelRfl
import Derived.Test.YtephjmmkggcmeaaProg
import Derived.Shelf.Lay
import Derived.Shelf.Sort.Plain
import Derived.Shelf.Slices.In.SortNone
import Derived.Sort.OwnSorted
import Derived.Sort.EveryDepth
import Derived.Ground.NamesProg
import Derived.Maps.Own
import Derived.Maps.OwnOps
import Derived.Maps.Views
import Derived.Maps.OwnSet
import Derived.Shelf.SlicesE.DeleteFunc
import Derived.Shelf.Slices.Delete
import Derived.Lib.RowBridge
import Derived.Shelf.Spec.SlicesInsert
import Derived.Shelf.Spec.SlicesInsertGrow
import Derived.Lib.BufferOwn
import Derived.Below
import Derived.Deep.Draws
import Derived.Deep.AppendLies
import Derived.Maps.AppendAt
import Derived.OwnWalk
import Derived.Laws.BytesArg
import Derived.Laws.MakeOwn
import Derived.Laws.OwnMore
import Derived.Deep.OwnRows
import Derived.Lib.ConvBytes
import Derived.Laws.Slices
import Derived.RowKit3
import Derived.Deep.LoopGhost
import Derived.Deep.QuietTactic
import Derived.BigQuiet
import Derived.WideLaws
import Derived.Deep.DeepCutAuto
import Derived.Deep.CutBlock
import Derived.Deep.RegionHeld3
import Derived.Laws.Rows
import Derived.Lib.AppendStr
import Derived.ArgAppend
import Derived.Laws.IdiomCopy
import Derived.OrdersHeld
import Derived.Laws.BitsLemmas
import Derived.RowKit
namespace Go.Proofs.YtephjmmkggcmeaaGp
open Go

theorem str_geq (t : TypeId) (a b : ByteArray) : binOp .geq t (.string a) (.string b) = pure (.bool !(Op.bytesLess a.toList b.toList)) := by simp [binOp, Op.stringOp]

theorem bl_irrefl : ∀ l : List UInt8, Op.bytesLess l l = false
  | [] => by simp [Op.bytesLess]
  | a :: l => by simp [Op.bytesLess, bl_irrefl l]

theorem bl_total : ∀ a b : List UInt8, (Op.bytesLess a b || a == b) = !(Op.bytesLess b a)
  | [], [] => by simp [Op.bytesLess]
  | [], b :: l => by simp [Op.bytesLess]
  | a :: l, [] => by simp [Op.bytesLess]
  | a :: l, b :: m => by
    have ih := bl_total l m
    simp only [Op.bytesLess, List.cons_beq_cons]
    by_cases h1 : a < b
    · have h2 : ¬ b < a := fun h => absurd (UInt8.lt_iff_toNat_lt.mp h1) (by have := UInt8.lt_iff_toNat_lt.mp h; omega)
      have h3 : ¬ b = a := fun h => by subst h; exact h2 h1
      simp [h1, h2, h3]
    · by_cases h2 : b < a
      · have h3 : ¬ a = b := fun h => by subst h; exact h1 h2
        simp [h1, h2, h3]
      · have h3 : a = b := by
          apply UInt8.toNat_inj.mp
          have := mt UInt8.lt_iff_toNat_lt.mpr h1; have := mt UInt8.lt_iff_toNat_lt.mpr h2; omega
        subst h3
        simpa using ih

theorem str_gtr (t : TypeId) (a b : ByteArray) : binOp .gtr t (.string a) (.string b) = pure (.bool (Op.bytesLess b.toList a.toList)) := by
  have h := bl_total a.toList b.toList
  have e : binOp .gtr t (.string a) (.string b) = pure (.bool !(Op.bytesLess a.toList b.toList || a.toList == b.toList)) := by simp [binOp, Op.stringOp]
  rw [e, h, Bool.not_not]
theorem str_leq (t : TypeId) (a b : ByteArray) : binOp .leq t (.string a) (.string b) = pure (.bool !(Op.bytesLess b.toList a.toList)) := by
  have h := bl_total a.toList b.toList
  have e : binOp .leq t (.string a) (.string b) = pure (.bool (Op.bytesLess a.toList b.toList || a.toList == b.toList)) := by simp [binOp, Op.stringOp]
  rw [e, h]

section
open Go.Proofs.YtephjmmkggcmeaaW.PrintLast
variable {P : Program} {ops : Array Oper} {Q : Exit → Act → World → Prop}
end

section
open Go.Proofs.YtephjmmkggcmeaaW.PrintWords
theorem C_isNone {α : Type} {d : Kd α} {w : World} {A : Option Addr} {n : Nat} {xs : List α} (h : d.C w A n xs) (hA : A.isNone = true) : xs = [] := by
  cases A with
  | some a => simp at hA
  | none =>
    obtain ⟨h1, _, h3⟩ := h
    cases n with
    | zero => exact List.length_eq_zero_iff.1 h1
    | succ n => obtain ⟨a, e, _⟩ := h3 (Nat.succ_pos n); cases e
theorem run_eql_nil_ {P : Program} (w : World) (t e : TypeId) (a : Option Addr) (l c : Nat) (h : P.underlying t = some (.slice e)) : (binOp .eql t (.slice a l c) (.slice none 0 0)).run P w = .ok (.bool a.isNone) w := run_eql_slice_nil w t e a l c h
end

end Go.Proofs.YtephjmmkggcmeaaGp
namespace Go.Proofs.YtephjmmkggcmeaaSq
open Go Go.RowKit Go.Proofs.YtephjmmkggcmeaaW.PrintWords Go.Proofs.YtephjmmkggcmeaaW.PrintLast

class Stp (W W' : World) : Prop where
  out : Below W.heap.size W W'
instance Stp.rfl_ (W : World) : Stp W W := ⟨Below.refl _ _⟩
instance Stp.alloc_ (W W' : World) (o : Obj) [h : Stp W W'] : Stp W (W'.alloc o) := ⟨below_alloc h.out o⟩
instance Stp.drewN_ (W W' : World) (n : Nat) [h : Stp W W'] : Stp W (W'.drewN n) := ⟨pw_below_drewN h.out n⟩
instance Stp.drewA_ (W w : World) (k n : Nat) [h : Stp W (w.drewN k)] : Stp W (w.drewN (k + n)) := ⟨by rw [← World.drewN_drewN]; exact pw_below_drewN h.out n⟩
instance Stp.drew_ (W W' : World) [h : Stp W W'] : Stp W W'.drew := ⟨below_drew h.out⟩
instance Stp.set_drewN (W : World) (p : Addr) (v : Value) (n : Nat) : Stp (W.setCell p v) ((W.drewN n).setCell p v) := ⟨by
  have e : (W.drewN n).setCell p v = (W.setCell p v).drewN n := by
    first
      | rfl
      | (unfold World.setCell World.drewN; split <;> rfl)
      | (simp only [World.setCell, World.drewN]; split <;> rfl)
  rw [e]
  exact pw_below_drewN (Below.refl _ _) n⟩
section
variable {α : Type} {d : Kd α} {e base n : Nat} {ok : Nat → Prop} {u v : Value} {xs : List α} {w W0 W W1 : World} {A : Option Addr} {g : Nat} {o : Obj}
theorem Rz [h' : Stp W0 W] (h : d.R e W0 base ok v xs) : d.R e W base ok v xs := Kd.R_below h h'.out
theorem Kz [h' : Stp W0 W] (h : W0.heap[g]? = some o) : W.heap[g]? = some o := blk_below h h'.out
theorem Bz [h' : Stp W0 W] (h : Below w.heap.size w W0) : Below w.heap.size w W := below_step h h'.out
theorem Bq (h : Below w.heap.size w W := by repeat (first | (with_reducible (refine Aside0.out ?_; assumption)) | (with_reducible apply below_alloc) | (with_reducible apply pw_below_drewN) | (with_reducible apply below_drew1) | ((with_reducible refine below_set ?_ ?_); rotate_left; (with_reducible (refine Aside0.out ?_; assumption))))) : Below w.heap.size w W := h
theorem Cz [h' : Stp W0 W] (h : d.C W0 A n xs) : d.C W A n xs := Kd.C_below h h'.out
theorem Rb [Stp W0 W] (h : Aside0 (d.R e W0 base ok v xs)) (hb : Below W.heap.size W W1) : Aside0 (d.R e W1 base ok v xs) := ⟨Kd.R_below (Rz h.out) hb⟩
theorem Kb [Stp W0 W] (h : Aside0 (W0.heap[g]? = some o)) (hb : Below W.heap.size W W1) : Aside0 (W1.heap[g]? = some o) := ⟨blk_below (Kz h.out) hb⟩
theorem Bb [Stp W0 W] (h : Aside0 (Below w.heap.size w W0)) (hb : Below W.heap.size W W1) : Aside0 (Below w.heap.size w W1) := ⟨below_step (Bz h.out) hb⟩
theorem Re [Stp W0 W] (h : Aside0 (d.R e W0 base ok u xs)) (hv : ∀ k, v.ownBlock = some k → W.heap.size ≤ k) (hb : Below W.heap.size W W1) : Aside0 (d.R e W1 base (fun k => ok k ∧ some k ≠ v.ownBlock) u xs) := ⟨Kd.R_elder' (Rz h.out) hv hb⟩
theorem Rl [Stp W0 W] (h : d.R e W1 W.heap.size ok v xs) (hb : Aside0 (Below w.heap.size w W0)) : Aside0 (d.R e W1 w.heap.size ok v xs) := ⟨Kd.R_lower h (below_size (Bz hb.out))⟩
theorem Gl [Stp W0 W] (hb : Aside0 (Below w.heap.size w W0)) (hg : g = W.heap.size) : Aside0 (w.heap.size ≤ g) := ⟨by rw [hg]; exact below_size (Bz hb.out)⟩
theorem Bc (_h : Aside0 (Below w.heap.size w W0)) (hb : Below W.heap.size W W1) (h : Below w.heap.size w W := by repeat (first | (with_reducible (refine Aside0.out ?_; assumption)) | (with_reducible apply below_alloc) | (with_reducible apply pw_below_drewN) | (with_reducible apply below_drew1) | ((with_reducible refine below_set ?_ ?_); rotate_left; (with_reducible (refine Aside0.out ?_; assumption))))) : Aside0 (Below w.heap.size w W1) := ⟨below_step h hb⟩
theorem Rm (h' : d.R e W1 W.heap.size ok v xs) (_h : Aside0 (Below w.heap.size w W0)) (h : Below w.heap.size w W := by repeat (first | (with_reducible (refine Aside0.out ?_; assumption)) | (with_reducible apply below_alloc) | (with_reducible apply pw_below_drewN) | (with_reducible apply below_drew1) | ((with_reducible refine below_set ?_ ?_); rotate_left; (with_reducible (refine Aside0.out ?_; assumption))))) : Aside0 (d.R e W1 w.heap.size ok v xs) := ⟨Kd.R_lower h' (below_size h)⟩
theorem Gm (_h : Aside0 (Below w.heap.size w W0)) (hg : g = W.heap.size) (h : Below w.heap.size w W := by repeat (first | (with_reducible (refine Aside0.out ?_; assumption)) | (with_reducible apply below_alloc) | (with_reducible apply pw_below_drewN) | (with_reducible apply below_drew1) | ((with_reducible refine below_set ?_ ?_); rotate_left; (with_reducible (refine Aside0.out ?_; assumption))))) : Aside0 (w.heap.size ≤ g) := ⟨by rw [hg]; exact below_size h⟩
theorem Nl [Stp W0 W] {g' : Nat} (h : Aside0 (W0.heap[g]? = some o)) (hg : g' = W.heap.size) : Aside0 (g ≠ g') := ⟨by rw [hg]; exact Nat.ne_of_lt (blk_lt (Kz (W := W) h.out))⟩
theorem Ng [Stp W0 W] {g' : Nat} (h : Aside0 (W0.heap[g]? = some o)) (hg : g' = W.heap.size) : Aside0 (g' ≠ g) := ⟨by rw [hg]; exact Nat.ne_of_gt (blk_lt (Kz (W := W) h.out))⟩
end

theorem aP : (∀ (a : Act) (d : Tmp) (v : Value), a.put (some d) v = { a with tmps := a.tmps.setIfInBounds d v }) ∧ (∀ (a : Act) (v : Value), a.put none v = a) ∧ (∀ (l : List Value) (i : Nat) (x : Value), l.toArray.setIfInBounds i x = (l.set i x).toArray) ∧ (∀ (x : Value) (xs : List Value) (b : Value), (x :: xs).set 0 b = b :: xs) ∧ (∀ (x : Value) (xs : List Value) (n : Nat) (b : Value), (x :: xs).set (n + 1) b = x :: xs.set n b) := ⟨fun _ _ _ => rfl, fun _ _ => rfl, fun _ _ _ => List.setIfInBounds_toArray _ _ _, fun _ _ _ => List.set_cons_zero, fun _ _ _ _ => List.set_cons_succ⟩
theorem wZ {p : Prop} (h : p := by first | rfl | (simp; done) | (simp [*]; done) | (simp; exact (by decide : ∀ a b : Bool, (a == b) = (!(a != b))) _ _)) : p := h
theorem eZ {p : Prop} (h : p := by first | rfl | (simp [errW_none, errW_some] <;> rfl) | (simp [*, errW_none, errW_some] <;> rfl)) : p := h
theorem nZ {p : Prop} (h : p := by first | exact Kd.R_nil _ _ _ _ _ | exact Kd.N_nil _ _ _ _ _ | exact Kd.V_nil _ _ _ _ _ | exact Kd.Q_nil _ _ _ _ _ | exact Kd.S_nil _ _ _ _ _) : p := h
theorem eT (p : Prop) [Decidable p] (h : decide p = true := by first | (with_reducible assumption) | assumption) : p = True := eq_true (of_decide_eq_true h)
theorem am {p : Prop} (h : p) : Aside0 p := ⟨h⟩

section
variable {w : World} {g : Nat} {t : TypeId}
theorem dT {p : Prop} [Decidable p] (h : decide p = true := by first | (with_reducible assumption) | assumption) : p := of_decide_eq_true h
theorem cz {cs : Array Value} {v : Value} (h : Aside0 (w.heap[g]? = some (.cells cs t (0, 0)))) (i : Nat) (hv : cs[i]? = some v := by exact rfl) : w.cell? ⟨g, i, none⟩ = some v := (blk_cell h.out i).trans hv
theorem cf3 {v0 v1 v2 : Value} (h : Aside0 (w.heap[g]? = some (.cells #[v0, v1, v2] t (0, 0)))) : w.cell? ⟨g, 0, none⟩ = some v0 ∧ w.cell? ⟨g, 1, none⟩ = some v1 ∧ w.cell? ⟨g, 2, none⟩ = some v2 ∧ w.frozen? ⟨g, 0, none⟩ = false ∧ w.frozen? ⟨g, 1, none⟩ = false ∧ w.frozen? ⟨g, 2, none⟩ = false := ⟨cz h 0, cz h 1, cz h 2, blk_frozen h.out 0, blk_frozen h.out 1, blk_frozen h.out 2⟩
end

theorem bE {P : Program} {ops : Array Oper} {rest : List Oper} {o : Oper} {a : Act} {Q : Exit → Act → World → Prop} {W : World} (N : Tmp) (cs : Array Value) (t : TypeId)
    (h : ∀ g, g = W.heap.size → ∀ w1, w1.heap[g]? = some (.cells cs t (0, 0)) → Below W.heap.size W w1 → wpList P ops Q rest (a.put o.dst (.pointer (some ⟨g, 0, none⟩))) w1)
    (hg : o.guard = none := by exact rfl) (hd : o.dst = some N := by exact rfl)
    (hr : (execOp a.eval o).run P W = .ok (.value (.pointer (some ⟨W.heap.size, 0, none⟩))) (W.alloc (.cells cs t (0, 0))) := by first | (go_simp; done) | (go_simp; rfl)) : wpList P ops Q (o :: rest) a W := box_event hg hd hr h

def bL : Nat → Nat → List Bool
  | 0, _ => []
  | n + 1, m => (m % 2 == 1) :: bL n (m / 2)
def bA (n m : Nat) : Array Bool := ⟨bL n m⟩

section
variable {P : Program} {md : Region.Mode} {ops : Array Oper} {Q : Exit → Act → World → Prop} {S : World → Prop} {ds : List Nat} {T : Bool × List (List Nat × List Nat)}
theorem pZ (i : Nat) (N : Option Tmp) {oi : Oper} {v : Value} {fuel : Nat} {l : Array Bool} {a a' : Act} {w : World} (l' : Array Bool) (hT : rtab md ops = T) (h : wpAnyLast P md ops Q S ds fuel l' a' w)
    (hi : ops[i]? = some oi := by exact rfl) (hN : oi.dst = N := by exact rfl) (hc : anyT T l.toList l'.toList i = true := by kernel_rfl) (hQ : ∀ c a w, Q (.panic c) (a.put oi.dst v) w → Q (.panic c) a w := by exact fun _ _ _ h => h)
    (hw : Region.wanted oi (yielded ops a.tmps) = true := by exact rfl) (hy : ∀ w, (execOp a.eval oi).run P w = .ok (.value v) w := by intro w'; go_simp; with_reducible rfl)
    (ha : a.put N v = a' := by simp only [Act.put, List.setIfInBounds_toArray, List.set_cons_zero, List.set_cons_succ, i64_w, i32_w]; rfl) : wpAnyLast P md ops Q S ds (fuel + 1) l a w :=
  pure_ l' hi hN (any_of hT hc) hQ (Or.inl ⟨hw, hy⟩) ha h
theorem tZ3 (i : Nat) (N : Option Tmp) {oi : Oper} {v : Value} {fuel : Nat} {l : Array Bool} {a a' : Act} {w : World} (l' : Array Bool) (hT : rtab md ops = T) {B : List Nat} (hB : waitsOk T.2 B = true) (hS : S w) (h : wpAnyLast P md ops Q S ds fuel l' a' w)
    (hi : ops[i]? = some oi := by exact rfl) (hN : oi.dst = N := by exact rfl) (hc : takeW T B ds l.toList l'.toList i = true := by kernel_rfl) (hQ : ∀ c a w, Q (.panic c) (a.put oi.dst v) w → Q (.panic c) a w := by exact fun _ _ _ h => h)
    (hw : Region.wanted oi (yielded ops a.tmps) = true := by exact rfl) (hy : ∀ w, S w → (execOp a.eval oi).run P w = .ok (.value v) w := by rintro w' ⟨s0, s1, s2⟩; go_simp; with_reducible rfl)
    (ha : a.put N v = a' := by simp only [Act.put, List.setIfInBounds_toArray, List.set_cons_zero, List.set_cons_succ, i64_w, i32_w]; rfl) : wpAnyLast P md ops Q S ds (fuel + 1) l a w :=
  take_ l' hi hN (take_ofW hT hB hc) hQ (Or.inl ⟨hw, hy⟩) hS ha h
theorem tZ4 (i : Nat) (N : Option Tmp) {oi : Oper} {v : Value} {fuel : Nat} {l : Array Bool} {a a' : Act} {w : World} (l' : Array Bool) (hT : rtab md ops = T) {B : List Nat} (hB : waitsOk T.2 B = true) (hS : S w) (h : wpAnyLast P md ops Q S ds fuel l' a' w)
    (hi : ops[i]? = some oi := by exact rfl) (hN : oi.dst = N := by exact rfl) (hc : takeW T B ds l.toList l'.toList i = true := by kernel_rfl) (hQ : ∀ c a w, Q (.panic c) (a.put oi.dst v) w → Q (.panic c) a w := by exact fun _ _ _ h => h)
    (hw : Region.wanted oi (yielded ops a.tmps) = true := by exact rfl) (hy : ∀ w, S w → (execOp a.eval oi).run P w = .ok (.value v) w := by rintro w' ⟨s0, s1, s2, s3⟩; go_simp; with_reducible rfl)
    (ha : a.put N v = a' := by simp only [Act.put, List.setIfInBounds_toArray, List.set_cons_zero, List.set_cons_succ, i64_w, i32_w]; rfl) : wpAnyLast P md ops Q S ds (fuel + 1) l a w :=
  take_ l' hi hN (take_ofW hT hB hc) hQ (Or.inl ⟨hw, hy⟩) hS ha h
theorem oZ (i : Nat) (N : Option Tmp) {oi : Oper} {fuel : Nat} {l : Array Bool} {a : Act} {w : World} (l' : Array Bool) (hT : rtab md ops = T)
    (h : ∀ K : Act → World → Prop, Shut (∀ a' w', S w' → (S w' → wpAnyLast P md ops Q S ds fuel l' a' w') → K a' w') → if Region.wanted oi (yielded ops a.tmps) = true then Oper.wp P oi a w K Q else K (a.put N undef) w)
    (hi : ops[i]? = some oi := by exact rfl) (hN : oi.dst = N := by exact rfl) (hc : (readyT T.2 l.toList == [i] && l.toList.set i true == l'.toList) = true := by kernel_rfl) (hd : i ∉ ds := by decide) : wpAnyLast P md ops Q S ds (fuel + 1) l a w :=
  one_ l' hi hN (one_of hT hc) hd h
theorem lZ (i : Nat) (N : Option Tmp) {oi : Oper} {fuel : Nat} {l : Array Bool} {a : Act} {w : World} (l' : Array Bool) (hT : rtab md ops = T)
    (h : ∀ K : Act → World → Prop, Shut (∀ a' w', wpAnyLast P md ops Q S ds fuel l' a' w' → K a' w') → if Region.wanted oi (yielded ops a.tmps) = true then Oper.wp P oi a w K Q else K (a.put N undef) w)
    (hi : ops[i]? = some oi := by exact rfl) (hN : oi.dst = N := by exact rfl) (hc : (readyT T.2 l.toList == [i] && l.toList.set i true == l'.toList) = true := by kernel_rfl) (hd : i ∈ ds := by decide) : wpAnyLast P md ops Q S ds (fuel + 1) l a w :=
  last_ l' hi hN (one_of hT hc) hd h
theorem gZ {oi : Oper} {N : Option Tmp} {a : Act} {w : World} {K : Act → World → Prop} {f : FuncId} {fn : Func} {as_ : Array Operand} {ts : Array TypeId} (hf : P.funcs[f]? = some fn) (args : Array Value)
    (h : Calls P f args w fun e w' => ∃ v, e = .returned v ∧ K (a.put N v) w') (hname : (fn.name == "runtime.NumGoroutine") = false := by kernel_rfl) (hb : fn.body.isSome = true := by exact rfl)
    (hw : Region.wanted oi (yielded ops a.tmps) = true := by rfl) (hN : oi.dst = N := by exact rfl) (hop : oi.op = .call { callee := .value (.func f), args := as_, argTypes := ts } := by exact rfl)
    (hargs : as_.map a.eval = args := by (try simp only [List.map_toArray, List.map_cons, List.map_nil]); first | done | rfl | (simp only [List.length_drop, List.length_take]; rfl)) :
    if Region.wanted oi (yielded ops a.tmps) = true then Oper.wp P oi a w K Q else K (a.put N undef) w :=
  goes_ hf hname hb args hw hN hop hargs h
theorem gL {rest : List Oper} {oi : Oper} {a : Act} {w : World} (N : Option Tmp) {f : FuncId} {fn : Func} {as_ : Array Operand} {ts : Array TypeId} (hf : P.funcs[f]? = some fn) (args : Array Value)
    (h : Calls P f args w fun e w' => ∃ v, e = .returned v ∧ wpList P ops Q rest (a.put N v) w') (hd : oi.dst = N := by exact rfl) (hg : oi.guard = none := by exact rfl) (hname : (fn.name == "runtime.NumGoroutine") = false := by kernel_rfl) (hb : fn.body.isSome = true := by exact rfl)
    (hop : oi.op = .call { callee := .value (.func f), args := as_, argTypes := ts } := by exact rfl)
    (hargs : as_.map a.eval = args := by (try simp only [List.map_toArray, List.map_cons, List.map_nil]); first | done | rfl | (simp only [List.length_drop, List.length_take]; rfl)) : wpList P ops Q (oi :: rest) a w :=
  goesL_ N hd hg hf hname hb args hop hargs h
end
end Go.Proofs.YtephjmmkggcmeaaSq
namespace Go.Proofs
open Go.RowKit Go.Shelf Go.Sort
def Try.laysSort_ren : Go.Shelf.Ren := { f := fun x => match x with | 190 => 107 | 125 => 142 | 258 => 141 | 128 => 161 | 129 => 162 | 302 => 152 | 303 => 153 | 304 => 154 | 305 => 155 | 306 => 156 | 307 => 157 | 308 => 158 | 309 => 159 | 310 => 160 | 333 => 167 | 329 => 168 | 330 => 169 | 334 => 170 | 335 => 171 | 336 => 172 | 344 => 174 | n => n, t := fun x => match x with | 31 => 24 | 9 => 9 | 3 => 3 | 46 => 128 | 0 => 0 | 51 => 145 | 53 => 73 | 4 => 4 | 183 => 139 | 182 => 138 | 131 => 35 | 5 => 5 | 218 => 148 | 222 => 152 | 228 => 154 | 229 => 82 | n => n, g := fun n => n }
set_option maxRecDepth 100000 in
theorem Try.laysSort : Lays.n190 Try.prog Try.laysSort_ren where
  mixed := by kernel_rfl
  f125 := Try.func142.trans (congrArg some (by kernel_rfl))
  f128 := Try.func161.trans (congrArg some (by kernel_rfl))
  f129 := Try.func162.trans (congrArg some (by kernel_rfl))
  f190 := Try.func107.trans (congrArg some (by kernel_rfl))
  f258 := Try.func141.trans (congrArg some (by kernel_rfl))
  f302 := Try.func152.trans (congrArg some (by kernel_rfl))
  f303 := Try.func153.trans (congrArg some (by kernel_rfl))
  f304 := Try.func154.trans (congrArg some (by kernel_rfl))
  f305 := Try.func155.trans (congrArg some (by kernel_rfl))
  f306 := Try.func156.trans (congrArg some (by kernel_rfl))
  f307 := Try.func157.trans (congrArg some (by kernel_rfl))
  f308 := Try.func158.trans (congrArg some (by kernel_rfl))
  f309 := Try.func159.trans (congrArg some (by kernel_rfl))
  f310 := Try.func160.trans (congrArg some (by kernel_rfl))
  f329 := Try.func168.trans (congrArg some (by kernel_rfl))
  f330 := Try.func169.trans (congrArg some (by kernel_rfl))
  f333 := Try.func167.trans (congrArg some (by kernel_rfl))
  f334 := Try.func170.trans (congrArg some (by kernel_rfl))
  f335 := Try.func171.trans (congrArg some (by kernel_rfl))
  f336 := Try.func172.trans (congrArg some (by kernel_rfl))
  f344 := Try.func174.trans (congrArg some (by kernel_rfl))
  t0 := Try.underlying0
  a0 := Try.isAgg0
  z0 := Try.sizeOf0
  v0 := Try.zeroValue0
  t3 := Try.underlying3
  a3 := Try.isAgg3
  z3 := Try.sizeOf3
  v3 := Try.zeroValue3
  t4 := Try.underlying4
  a4 := Try.isAgg4
  z4 := Try.sizeOf4
  v4 := Try.zeroValue4
  t5 := Try.underlying5
  a5 := Try.isAgg5
  z5 := Try.sizeOf5
  v5 := Try.zeroValue5
  t9 := Try.underlying9
  a9 := Try.isAgg9
  z9 := Try.sizeOf9
  v9 := Try.zeroValue9
  t31 := Try.underlying24
  a31 := Try.isAgg24
  z31 := Try.sizeOf24
  v31 := Try.zeroValue24
  t46 := Try.underlying128
  a46 := Try.isAgg128
  z46 := Try.sizeOf128
  v46 := Try.zeroValue128
  t51 := Try.underlying145
  a51 := Try.isAgg145
  z51 := Try.sizeOf145
  v51 := Try.zeroValue145
  t53 := Try.underlying73
  a53 := Try.isAgg73
  z53 := Try.sizeOf73
  v53 := Try.zeroValue73
  t131 := Try.underlying35
  a131 := Try.isAgg35
  z131 := Try.sizeOf35
  v131 := Try.zeroValue35
  t182 := Try.underlying138
  a182 := Try.isAgg138
  z182 := Try.sizeOf138
  v182 := Try.zeroValue138
  t183 := Try.underlying139
  a183 := Try.isAgg139
  z183 := Try.sizeOf139
  v183 := Try.zeroValue139
  t218 := Try.underlying148
  a218 := Try.isAgg148
  z218 := Try.sizeOf148
  v218 := Try.zeroValue148
  t222 := Try.underlying152
  a222 := Try.isAgg152
  z222 := Try.sizeOf152
  v222 := Try.zeroValue152
  t228 := Try.underlying154
  a228 := Try.isAgg154
  z228 := Try.sizeOf154
  v228 := Try.zeroValue154
  t229 := Try.underlying82
  a229 := Try.isAgg82
  z229 := Try.sizeOf82
  v229 := Try.zeroValue82

end Go.Proofs
namespace Go.Proofs.Ytephjmmkggcmeaa.PG
open Go Go.RowKit Go.Shelf Go.Sort Go.Proofs.YtephjmmkggcmeaaW.PrintWords

def bytesL (l : List ByteArray) : List (List UInt8) := l.map fun s => s.data.toList
def sortS (l : List ByteArray) : List ByteArray := ((bytesL l).mergeSort fun x y => decide (x ≤ y)).map fun b => ⟨b.toArray⟩
theorem sortS_len (l : List ByteArray) : (sortS l).length = l.length := by simp [sortS, bytesL]
def slices_Sort_string_string.f (l0 : List ByteArray) : Option (List ByteArray) := if l0.length < 4611686018427387904 then some (sortS l0) else none

theorem encs_bytes (l : List ByteArray) : encs Value.string l = (bytesL l).map encStr := by
  simp [encs, bytesL, encStr]
theorem slices_Sort_string_string.calls (P0_ : Nat → Prop) (u9000_ : Value) (l0 : List ByteArray) (r : List ByteArray) (w0 w : World) (hB : Below w0.heap.size w0 w) (ho0 : Kd.R Kd.string 9 w w0.heap.size P0_ u9000_ l0) (h : slices_Sort_string_string.f l0 = some r) :
    Calls Try.prog 107 #[u9000_] w fun e w' => e = .returned (.tuple #[]) ∧ Kd.R Kd.string 9 w' w0.heap.size (fun k_ => (P0_ k_ ∨ w.heap.size ≤ k_)) u9000_ r ∧ Below w0.heap.size w0 w' ∧ Kept w w' (fun k_ => P0_ k_) := by
  unfold slices_Sort_string_string.f at h
  split at h
  case isFalse => cases h
  case isTrue hl =>
  obtain rfl := Option.some.inj h
  have hown := Kd.own_of_R (enc := Value.string) ho0
  rcases hown.2 with ⟨rfl, h0⟩ | ⟨g, cap, cur, rfl, hbase, hb, h1, h2, h3, h4⟩
  · have hn : l0 = [] := List.length_eq_zero_iff.1 h0
    subst hn
    refine (Any.slices_Sort_string_none Try.laysSort none 0 w).mono ?_
    rintro e w' hh
    obtain ⟨rfl, hw⟩ := hh
    rw [hw, show sortS [] = [] from by simp [sortS, bytesL]]
    exact ⟨rfl, Kd.R_mono ho0 (fun k hk => .inl hk), hB, Kept.refl _ _⟩
  · rw [Nat.mul_one] at h4
    have hb' : (bytesL l0).length = l0.length := by simp [bytesL]
    have ht : cur.toList.take (bytesL l0).length = (bytesL l0).map encStr := by rw [hb', h4, encs_bytes]
    have hH := holds_of_block hb ht
    have hc := Any.slices_Sort_string Try.laysSort g 0 cap (bytesL l0) w hH (Array.getElem?_eq_some_iff.1 hb).1 (by rw [hb']; exact hl)
    rw [hb'] at hc
    refine hc.mono ?_
    rintro e w' ⟨rfl, n, os, rfl⟩
    have hs := ownsRow_sorted (w := w) (base := w0.heap.size) (n := n) (os := os) (ss := bytesL l0) (ts := (bytesL l0).mergeSort fun x y => decide (x ≤ y)) (by simp) hbase hb (by omega) h2 h3
    have hg := grownBy_sorted (w := w) (g := g) (n := n) (os := os) ((bytesL l0).mergeSort fun x y => decide (x ≤ y)).toArray
    have hr : encs Value.string (sortS l0) = ((bytesL l0).mergeSort fun x y => decide (x ≤ y)).map encStr := by simp [encs, sortS, encStr]
    refine ⟨rfl, Kd.R_of_own (enc := Value.string) ?_ (fun k hk => .inl (ho0.1 k hk)), hB.grown hg hB.size (fun k hk => by cases hk; exact hbase), Kept.of_grown hg (Kept.refl _ _) (fun k hk => by cases hk; exact .inl (ho0.1 _ rfl))⟩
    rw [sortS_len, hr]
    rw [hb'] at hs
    exact hs
end Go.Proofs.Ytephjmmkggcmeaa.PG
namespace Go.Proofs.YtephjmmkggcmeaaGp
open Go Go.Maps

theorem plainBool_inv {H : Type} {P : Program} {e : TypeId} (he : P.underlying e = some .bool) {v : Value} {z : DataW H × List MemPlace} (h : plainElem P e v = some z) : ∃ a, v = .bool a ∧ z = (.lit (.bool a), []) := by
  unfold plainElem at h
  rw [he] at h
  cases v <;> simp at h
  exact ⟨_, rfl, h.symm⟩
theorem lookB {H : Type} {P : Program} (w : World) {ops : Array Oper} {rest : List Oper} {o : Oper} {a : Act} {Q : Exit → Act → World → Prop}
    (hg : o.guard = none) (m x : Operand) (t : TypeId) (hop : o.op = Op.lookup t m x false)
    (k e : TypeId) (K : Keyed P k) (ht : P.underlying t = some (.map k e)) (he : P.underlying e = some .bool) (hz : (zeroValue e).run P w = .ok (.bool false) w) (b n : Nat) (D : DataW H)
    (hm : a.eval m = .map (some b)) (hown : w.ownsMap P k (plainElem P e) b n D) (key : Value) (kl : Lit) (hx : a.eval x = key) (hkey : keyOf P k key = some kl) (r : Bool)
    (hr : D.atKey kl (.lit (.bool false)) = .lit (.bool r))
    (hK : wpList P ops Q rest (a.put o.dst (.bool r)) w) :
    wpList P ops Q (o :: rest) a w := by
  refine wpList_plain hg fun K' hK' => ?_
  obtain ⟨v, ps, hrun, hv⟩ := hown.lookup K ht hz (plainElem_bool he false) hkey
  obtain ⟨c, rfl, hc⟩ := plainBool_inv he hv
  simp only [Prod.mk.injEq] at hc
  have hcr : c = r := by
    have := hc.1.symm.trans hr
    simpa using this
  subst hcr
  unfold Oper.wp
  simp [execOp, hop, hm, hx, hrun, Result.andThen]
  exact hK' _ _ hK
def nubI : List Int → List Int
  | [] => []
  | x :: t => if t.contains x then nubI t else x :: nubI t
def SetIs (q : IntKind) (D : DataW Unit) (S : List Int) : Prop :=
  Tidy D ∧ (∀ x : Int, D.atKey (.int q x) (.lit (.bool false)) = .lit (.bool (S.contains x))) ∧ (∀ x : Int, Maps.has D (.int q x) = S.contains x) ∧ Maps.size D = (nubI S).length
theorem SetIs.empty (q : IntKind) : SetIs q (.map []) [] := ⟨tidy_empty, fun _ => rfl, fun _ => rfl, rfl⟩
theorem SetIs.put {q : IntKind} {D : DataW Unit} {S : List Int} (h : SetIs q D S) (x : Int) : SetIs q (D.put (.int q x) (.lit (.bool true))) (x :: S) := by
  obtain ⟨h1, h2, h3, h4⟩ := h
  have hk : WideAt.IsKeyLit (.int q x) := by simp [WideAt.IsKeyLit]
  refine ⟨h1.put hk _, fun y => ?_, fun y => ?_, ?_⟩
  · by_cases c : y = x
    · subst c
      rw [atKey_put_same h1.isMap hk]
      simp
    · rw [atKey_put_other (by simpa using c), h2]
      simp [c]
  · by_cases c : y = x
    · subst c
      rw [has_put_same h1.isMap hk]
      simp
    · rw [has_put_other (by simpa using c), h3]
      simp [c]
  · rw [size_put h1, h3, h4]
    show _ = (if S.contains x then nubI S else x :: nubI S).length
    split <;> simp
end Go.Proofs.YtephjmmkggcmeaaGp
namespace Go.Proofs.Ytephjmmkggcmeaa.PG
open Go Go.RowKit Go.Maps Go.Proofs.YtephjmmkggcmeaaW.PrintWords Go.Proofs.YtephjmmkggcmeaaGp
set_option maxHeartbeats 400000
theorem distinctK : Keyed Try.prog 3 := int_keyed Try.underlying3
theorem distinctZ (w : World) : (zeroValue 4).run Try.prog w = .ok (.bool false) w := by kernel_rfl
def okI (x : Int) : Bool := decide (-9223372036854775808 ≤ x) && decide (x ≤ 9223372036854775807)
theorem okI_wf {x : Int} (h : okI x = true) : (Lit.int .i64 x).wf = true := h
theorem rdn {l : List Int} {k : Nat} (h : k < l.length) : rd l (k : Int) = l[k] := by simp [rd, h]
def goesI : List Int → List Int → Bool
  | _, [] => true
  | S, x :: t => !(S.contains x) && goesI (x :: S) t
def impl_distinct.f (l0 : List Int) : Option Bool := if l0.length ≤ 1000000 ∧ l0.all okI = true then some (goesI [] l0) else none
theorem impl_distinct.calls (A0 : Option Addr) (c0 : Nat) (l0 : List Int) (r : Bool) (w : World) (hr0 : Kd.C (Kd.int .i64) w A0 l0.length l0) (_ : l0.length ≤ c0) (h : impl_distinct.f l0 = some r) :
    Calls Try.prog 132 #[.slice A0 l0.length c0] w fun e w' => e = .returned (.bool r) ∧ Below w.heap.size w w' := by
  unfold impl_distinct.f at h
  split at h
  case isFalse => cases h
  case isTrue hl =>
  obtain ⟨hl, hok⟩ := hl
  have HR := Option.some.inj h
  have HG : Aside0 (goesI [] l0 = r) := ⟨HR⟩
  clear HR h
  have HO : Aside0 (∀ x ∈ l0, okI x = true) := ⟨by simpa using hok⟩
  clear hok
  have HC := Aside0.mk hr0
  clear hr0
  have hmm := @run_makeMap Try.prog
  go_enter Try.func132, Try.ntmps132
  go_wp2
  go_loopw [9] (fun i wr => ∃ (k : Nat) (S : List Int) (D : DataW Unit), k ≤ l0.length ∧ i = .int .i64 k ∧ wr.ownsMap Try.prog 3 (plainElem (H := Unit) Try.prog 4) w.heap.size k D ∧ Aside0 (SetIs .i64 D S) ∧ Aside0 (goesI S (l0.drop k) = r) ∧ Below w.heap.size w wr)
    (fun i _ => l0.length - (intOf i).toNat)
  case atStart => exact ⟨0, [], .map [], Nat.zero_le _, rfl, World.ownsMap_made _ _ _ _, ⟨SetIs.empty _⟩, ⟨by simpa using HG.out⟩, (Below.refl _ _).alloc (Nat.le_refl _) _⟩
  case round =>
    obtain ⟨k, S, D, hk, rfl, hown, HS, HA, hnx⟩ := hrel
    by_cases hlt : k < l0.length
    · obtain ⟨ad, e0, hx⟩ := Kd.at_int HC.out (k : Int) (by omega) (by omega)
      subst e0
      have hx' := pw_cell_below hnx hx
      rw [Int.toNat_natCast] at hx'
      clear hx
      have HK : Aside0 (keyOf Try.prog 3 (.int .i64 (rd l0 k)) = some (.int .i64 (rd l0 k))) := ⟨keyOf_int_mk Try.underlying3 (okI_wf (HO.out _ (by rw [rdn hlt]; exact List.getElem_mem hlt)))⟩
      have HD : Aside0 (l0.drop k = rd l0 k :: l0.drop (k + 1)) := ⟨by rw [rdn hlt]; exact List.drop_eq_getElem_cons hlt⟩
      by_cases hs : S.contains (rd l0 k) = true
      · have HB := HS.out.2.1 (rd l0 k)
        rw [hs] at HB
        have HB' := Aside0.mk HB
        clear HB
        go_wp2_with (first
          | (at_lookup; refine lookB _ rfl _ _ 117 rfl 3 4 distinctK Try.underlying117 Try.underlying4 (distinctZ _) w.heap.size k D rfl hown _ _ rfl HK.out true HB'.out ?_)
          | go_in)
        go_ret
        refine ⟨?_, hnx⟩
        have := HA.out
        rw [HD.out, goesI, hs] at this
        rw [← this]; rfl
      · have hs' : S.contains (rd l0 k) = false := by simpa using hs
        have HF := Aside0.mk hs'
        have HB := HS.out.2.1 (rd l0 k)
        rw [hs'] at HB
        clear hs' hs
        have HB' := Aside0.mk HB
        clear HB
        go_wp2_with (first
          | (at_lookup; refine lookB _ rfl _ _ 117 rfl 3 4 distinctK Try.underlying117 Try.underlying4 (distinctZ _) w.heap.size k D rfl hown _ _ rfl HK.out false HB'.out ?_)
          | (at_mapUpdate; refine wpList_mapUpdate_own _ rfl _ _ _ 117 rfl 3 4 distinctK Try.underlying117 (plainElem (H := Unit) Try.prog 4) w.heap.size k _ rfl hown (by unfold maxLen; omega) _ _ _ rfl rfl HK.out _ [] (plainElem_bool Try.underlying4 true) ?_; intro w1 hown1 hgrow1)
          | go_in)
        go_roundw
        case rel => exact ⟨k + 1, rd l0 k :: S, _, by omega, by go_num, hown1, ⟨HS.out.put _⟩, ⟨by have := HA.out; rw [HD.out, goesI, HF.out] at this; exact this⟩, hnx.grown hgrow1 hnx.size (fun j hj => by cases hj; exact Nat.le_refl _)⟩
        case measure => simp [intOf]; omega
    · have e : k = l0.length := by omega
      subst e
      go_wp2
      go_ret
      refine ⟨?_, hnx⟩
      have := HA.out
      rw [List.drop_length, goesI] at this
      rw [← this]; rfl
end Go.Proofs.Ytephjmmkggcmeaa.PG
namespace Go.Proofs
open Go.RowKit Go.Shelf Go.Sort
def Try.laysDelFunc_ren : Go.Shelf.Ren := { f := fun x => match x with | 10 => 108 | 6 => 143 | n => n, t := fun x => match x with | 22 => 24 | 23 => 9 | 25 => 81 | 3 => 3 | 4 => 4 | 0 => 0 | n => n, g := fun n => n }
set_option maxRecDepth 100000 in
theorem Try.laysDelFunc : SlLaysH.n10 Try.prog Try.laysDelFunc_ren where
  mixed := by kernel_rfl
  f6 := ⟨Try.f143.name, by kernel_rfl, Try.func143.trans (congrArg some (by kernel_rfl))⟩
  f10 := ⟨Try.f108.name, by kernel_rfl, Try.func108.trans (congrArg some (by kernel_rfl))⟩
  t0 := Try.underlying0
  a0 := Try.isAgg0
  z0 := Try.sizeOf0
  v0 := Try.zeroValue0
  t3 := Try.underlying3
  a3 := Try.isAgg3
  z3 := Try.sizeOf3
  v3 := Try.zeroValue3
  t4 := Try.underlying4
  a4 := Try.isAgg4
  z4 := Try.sizeOf4
  v4 := Try.zeroValue4
  t22 := Try.underlying24
  a22 := Try.isAgg24
  z22 := Try.sizeOf24
  v22 := Try.zeroValue24
  a23 := Try.isAgg9
  z23 := Try.sizeOf9
  t25 := Try.underlying81
  a25 := Try.isAgg81
  z25 := Try.sizeOf81
  v25 := Try.zeroValue81

def Try.laysDelS_ren : Go.Shelf.Ren := { f := fun x => match x with | 24 => 104 | n => n, t := fun x => match x with | 24 => 24 | 9 => 9 | 3 => 3 | 4 => 4 | 0 => 0 | n => n, g := fun n => n }
set_option maxRecDepth 100000 in
theorem Try.laysDelS : Lays2.n24 Try.prog Try.laysDelS_ren where
  mixed := by kernel_rfl
  f24 := Try.func104.trans (congrArg some (by kernel_rfl))
  t0 := Try.underlying0
  a0 := Try.isAgg0
  z0 := Try.sizeOf0
  v0 := Try.zeroValue0
  t3 := Try.underlying3
  a3 := Try.isAgg3
  z3 := Try.sizeOf3
  v3 := Try.zeroValue3
  t4 := Try.underlying4
  a4 := Try.isAgg4
  z4 := Try.sizeOf4
  v4 := Try.zeroValue4
  t9 := Try.underlying9
  a9 := Try.isAgg9
  z9 := Try.sizeOf9
  v9 := Try.zeroValue9
  t24 := Try.underlying24
  a24 := Try.isAgg24
  z24 := Try.sizeOf24
  v24 := Try.zeroValue24
  i9 := by kernel_rfl

end Go.Proofs
namespace Go.Proofs.Ytephjmmkggcmeaa.PG
open Go Go.RowKit Go.Shelf Go.Sort Go.Proofs.YtephjmmkggcmeaaW.PrintWords
theorem R_putRow {ok : Nat → Prop} {base e g cap n q : Nat} {w : World} {cur : Array Value} (ts : List (List UInt8)) (hn : n ≤ ts.length) (hbase : base ≤ g) (hb : w.heap[g]? = some (.cells cur e (0, 0))) (h1 : ts.length ≤ cap) (h2 : cap ≤ 9223372036854775807) (h3 : cur.size = cap) (hok : ok g) :
    Kd.R Kd.string e (putRow encStr (Sort.ahead w q) g 0 ts.toArray) base ok (.slice (some ⟨g, 0, none⟩) n cap) ((ts.take n).map fun b => ⟨b.toArray⟩) := by
  have hh := heap_sorted (w := w) (g := g) (n := q) (os := #[]) ts.toArray hb
  rw [grow_empty] at hh
  have ht2 := take_putCells cur ts (by omega)
  have hlen : ((ts.take n).map fun b => (⟨b.toArray⟩ : ByteArray)).length = n := by simp; omega
  have hr : encs Value.string ((ts.take n).map fun b => (⟨b.toArray⟩ : ByteArray)) = (ts.take n).map encStr := by unfold encs; rw [List.map_map]; rfl
  refine Kd.R_of_own (enc := Value.string) ⟨by simp [encs], .inr ⟨g, cap, _, by rw [hlen], hbase, hh, by rw [hlen]; omega, h2, by simp [putCells, h3], ?_⟩⟩ (fun k hk => by cases hk; exact hok)
  rw [hr, hlen, Nat.mul_one]
  have := congrArg (List.take n) ht2
  rw [List.take_take, Nat.min_eq_left hn] at this
  rw [this, List.map_take]
def fullS (l : List ByteArray) : List ByteArray := ((bytesL l).filter fun x => !(x == [])).map fun b => ⟨b.toArray⟩
theorem slices_DeleteFunc_all_at (a : ByteArray) (W : World) : Calls Try.prog 140 #[.string a] W fun e w' => e = .returned (.bool (a.data.toList == [])) ∧ w' = W := by
  cases hq : (a.data.toList == []) with
  | true =>
    have hq' : a = ⟨#[]⟩ := by
      have h := beq_iff_eq.1 hq
      cases a with | mk d => simp at h; rw [h]
    subst hq'
    go_enter Try.func140, Try.ntmps140
    go_wp2
    go_ret
    exact ⟨rfl, rfl⟩
  | false =>
    have hq' : ¬ a.toList = [] := by
      rw [Lib.toList_data]
      intro e
      rw [e] at hq
      cases hq
    go_enter Try.func140, Try.ntmps140
    go_wp2
    go_ret
    exact ⟨by first | rfl | simp [hq'], rfl⟩
def slices_DeleteFunc_string_string_at_impl_Cuckoo_all_1.f (l0 : List ByteArray) : Option (List ByteArray) := if 0 < l0.length then some (fullS l0) else none
theorem slices_DeleteFunc_string_string_at_impl_Cuckoo_all_1.calls (P0_ : Nat → Prop) (u9000_ : Value) (l0 : List ByteArray) (r : List ByteArray) (w0 w : World) (hB : Below w0.heap.size w0 w) (ho0 : Kd.R Kd.string 9 w w0.heap.size P0_ u9000_ l0) (h : slices_DeleteFunc_string_string_at_impl_Cuckoo_all_1.f l0 = some r) :
    Calls Try.prog 108 #[u9000_, .func (.func 140) #[] #[]] w fun e w' => ∃ v0_ : Value, e = .returned (v0_) ∧ Kd.R Kd.string 9 w' w0.heap.size (fun k_ => (P0_ k_ ∨ w.heap.size ≤ k_)) v0_ r ∧ Below w0.heap.size w0 w' ∧ Kept w w' (fun k_ => P0_ k_) := by
  unfold slices_DeleteFunc_string_string_at_impl_Cuckoo_all_1.f at h
  split at h
  case isFalse => cases h
  case isTrue hl =>
  obtain rfl := Option.some.inj h
  have hm : maxLen = 9223372036854775807 := by unfold maxLen; rfl
  have hown := Kd.own_of_R (enc := Value.string) ho0
  rcases hown.2 with ⟨rfl, h0⟩ | ⟨g, cap, cur, rfl, hbase, hb, h1, h2, h3, h4⟩
  · omega
  · rw [Nat.mul_one] at h3 h4
    have hb' : (bytesL l0).length = l0.length := by simp [bytesL]
    have ht : cur.toList.take (bytesL l0).length = (bytesL l0).map encStr := by rw [hb', h4, encs_bytes]
    have hH := holds_of_block hb ht
    have eg : ∀ args w, (callFunc 140 args).run Try.prog w = .ok (.enter 140 args) w := enters_of Try.func140 (by kernel_rfl) rfl
    have hg : ∀ (W : World) (x : List UInt8), FnGives Try.prog 140 #[] #[encStr x] (.bool (x == [])) W := fun W x => by
      refine (slices_DeleteFunc_all_at ⟨x.toArray⟩ W).mono ?_
      rintro e w' ⟨rfl, rfl⟩
      exact ⟨by simp, 0, rfl⟩
    have hc := AnyE.slices_DeleteFunc Try.laysDelFunc encStr (fun _ => rfl) (fun x => x == []) 140 #[] eg [] Try.zeroValue9 g 0 cap (bytesL l0).toArray w (fun W x _ => hg W x) (fun n os dk x _ => hg _ x) hH (by rw [List.size_toArray, hb']; omega) (by rw [List.size_toArray, hb']; omega)
    simp only [List.size_toArray, hb'] at hc
    refine hc.mono ?_
    rintro e w' ⟨rfl, q, rfl⟩
    have hle : ((bytesL l0).filter fun x => !(x == [])).length ≤ l0.length := by rw [← hb']; exact List.length_filter_le _ _
    have hlt : (((bytesL l0).filter fun x => !(x == [])) ++ List.replicate (l0.length - ((bytesL l0).filter fun x => !(x == [])).length) []).length = l0.length := by rw [List.length_append, List.length_replicate]; omega
    have hgr := grownBy_sorted (w := w) (g := g) (n := q) (os := #[]) (((bytesL l0).filter fun x => !(x == [])) ++ List.replicate (l0.length - ((bytesL l0).filter fun x => !(x == [])).length) []).toArray
    rw [grow_empty] at hgr
    have hR := R_putRow (ok := fun k_ => (P0_ k_ ∨ w.heap.size ≤ k_)) (q := q) (n := ((bytesL l0).filter fun x => !(x == [])).length) (((bytesL l0).filter fun x => !(x == [])) ++ List.replicate (l0.length - ((bytesL l0).filter fun x => !(x == [])).length) []) (by rw [hlt]; exact hle) hbase hb (by omega) (by omega) h3 (.inl (ho0.1 g rfl))
    rw [List.take_left' rfl] at hR
    refine ⟨_, rfl, ?_, hB.grown hgr hB.size (fun k hk => by cases hk; exact hbase), Kept.of_grown hgr (Kept.refl _ _) (fun k hk => by cases hk; exact .inl (ho0.1 _ rfl))⟩
    exact hR
def slices_Delete_string_string.f (l0 : List ByteArray) (a1 a2 : Int) : Option (List ByteArray) := if 0 ≤ a1 ∧ a1 < (l0.length : Int) ∧ a2 = a1 + 1 then some (l0.eraseIdx a1.toNat) else none
theorem slices_Delete_string_string.calls (P0_ : Nat → Prop) (u9000_ : Value) (l0 : List ByteArray) (a1 a2 : Int) (r : List ByteArray) (w0 w : World) (hB : Below w0.heap.size w0 w) (ho0 : Kd.R Kd.string 9 w w0.heap.size P0_ u9000_ l0) (h : slices_Delete_string_string.f l0 a1 a2 = some r) :
    Calls Try.prog 104 #[u9000_, .int .i64 a1, .int .i64 a2] w fun e w' => ∃ v0_ : Value, e = .returned (v0_) ∧ Kd.R Kd.string 9 w' w0.heap.size (fun k_ => (P0_ k_ ∨ w.heap.size ≤ k_)) v0_ r ∧ Below w0.heap.size w0 w' ∧ Kept w w' (fun k_ => P0_ k_) := by
  unfold slices_Delete_string_string.f at h
  split at h
  case isFalse => cases h
  case isTrue hl =>
  obtain ⟨q0, q1, rfl⟩ := hl
  obtain rfl := Option.some.inj h
  obtain ⟨i, rfl⟩ : ∃ i : Nat, a1 = (i : Int) := ⟨a1.toNat, by omega⟩
  have hm : maxLen = 9223372036854775807 := by unfold maxLen; rfl
  have hown := Kd.own_of_R (enc := Value.string) ho0
  rcases hown.2 with ⟨rfl, h0⟩ | ⟨g, cap, cur, rfl, hbase, hb, h1, h2, h3, h4⟩
  · omega
  · rw [Nat.mul_one] at h3 h4
    have hb' : (bytesL l0).length = l0.length := by simp [bytesL]
    have ht : cur.toList.take (bytesL l0).length = (bytesL l0).map encStr := by rw [hb', h4, encs_bytes]
    have hH := holds_of_block hb ht
    have hi : i < l0.length := by omega
    have hc := Any.slices_Delete_string Try.laysDelS g 0 cap i (i + 1) (bytesL l0) w hH (by rw [hb']; omega) (by omega) (by omega) (by rw [hb']; omega)
    rw [hb'] at hc
    refine hc.mono ?_
    rintro e w' ⟨rfl, q, rfl⟩
    have hlt : ((bytesL l0).take i ++ (bytesL l0).drop (i + 1) ++ List.replicate (i + 1 - i) []).length = l0.length := by
      rw [List.length_append, List.length_append, List.length_take, List.length_drop, List.length_replicate, hb']
      omega
    have hgr := grownBy_sorted (w := w) (g := g) (n := q) (os := #[]) ((bytesL l0).take i ++ (bytesL l0).drop (i + 1) ++ List.replicate (i + 1 - i) []).toArray
    rw [grow_empty] at hgr
    have hR := R_putRow (ok := fun k_ => (P0_ k_ ∨ w.heap.size ≤ k_)) (q := q) (n := l0.length - (i + 1 - i)) ((bytesL l0).take i ++ (bytesL l0).drop (i + 1) ++ List.replicate (i + 1 - i) []) (by rw [hlt]; omega) hbase hb (by omega) (by omega) h3 (.inl (ho0.1 g rfl))
    rw [List.take_left' (by rw [List.length_append, List.length_take, List.length_drop, hb']; omega)] at hR
    refine ⟨_, rfl, ?_, hB.grown hgr hB.size (fun k hk => by cases hk; exact hbase), Kept.of_grown hgr (Kept.refl _ _) (fun k hk => by cases hk; exact .inl (ho0.1 _ rfl))⟩
    have hid : (bytesL l0).map (fun b => (⟨b.toArray⟩ : ByteArray)) = l0 := by
      unfold bytesL
      rw [List.map_map, show ((fun b => (⟨b.toArray⟩ : ByteArray)) ∘ fun s : ByteArray => s.data.toList) = id from rfl, List.map_id]
    have e : ((bytesL l0).take i ++ (bytesL l0).drop (i + 1)).map (fun b => (⟨b.toArray⟩ : ByteArray)) = l0.eraseIdx i := by
      rw [List.eraseIdx_eq_take_drop_succ, List.map_append, List.map_take, List.map_drop, hid]
    show Kd.R Kd.string _ _ _ _ _ (l0.eraseIdx i)
    rw [← e]
    exact hR
end Go.Proofs.Ytephjmmkggcmeaa.PG
namespace Go.Proofs
open Go.RowKit Go.Shelf Go.Sort
def Try.laysIns_ren : Go.Shelf.Ren := { f := fun x => match x with | 22 => 145 | 29 => 164 | 30 => 165 | 36 => 173 | 17 => 175 | n => n, t := fun x => match x with | 24 => 24 | 9 => 9 | 3 => 3 | 4 => 4 | 0 => 0 | n => n, g := fun n => n }
set_option maxRecDepth 100000 in
theorem Try.laysIns : Lays2.n22 Try.prog Try.laysIns_ren where
  mixed := by kernel_rfl
  f17 := Try.func175.trans (congrArg some (by kernel_rfl))
  f22 := Try.func145.trans (congrArg some (by kernel_rfl))
  f29 := Try.func164.trans (congrArg some (by kernel_rfl))
  f30 := Try.func165.trans (congrArg some (by kernel_rfl))
  f36 := Try.func173.trans (congrArg some (by kernel_rfl))
  t0 := Try.underlying0
  a0 := Try.isAgg0
  z0 := Try.sizeOf0
  v0 := Try.zeroValue0
  t3 := Try.underlying3
  a3 := Try.isAgg3
  z3 := Try.sizeOf3
  v3 := Try.zeroValue3
  t4 := Try.underlying4
  a4 := Try.isAgg4
  z4 := Try.sizeOf4
  v4 := Try.zeroValue4
  t9 := Try.underlying9
  a9 := Try.isAgg9
  z9 := Try.sizeOf9
  v9 := Try.zeroValue9
  t24 := Try.underlying24
  a24 := Try.isAgg24
  z24 := Try.sizeOf24
  v24 := Try.zeroValue24
  i9 := by kernel_rfl

end Go.Proofs
namespace Go.Proofs.Ytephjmmkggcmeaa.PG
open Go Go.RowKit Go.Shelf Go.Sort Go.Proofs.YtephjmmkggcmeaaW.PrintWords
theorem setCells_blk (b : Nat) (t : TypeId) : ∀ (vs : List Value) (o : Nat) (w : World) (cur : Array Value), w.heap[b]? = some (.cells cur t (0, 0)) → o + vs.length ≤ cur.size → ∃ cur' : Array Value, (w.setCells b o vs).heap[b]? = some (.cells cur' t (0, 0)) ∧ cur'.size = cur.size ∧ cur'.toList = cur.toList.take o ++ vs ++ cur.toList.drop (o + vs.length)
  | [], o, w, cur, h, hl => ⟨cur, h, rfl, by simp⟩
  | v :: vs, o, w, cur, h, hl => by
    have h1 := blk_put h o v rfl
    obtain ⟨cur', e1, e2, e3⟩ := setCells_blk b t vs (o + 1) (w.setCell ⟨b, o, none⟩ v) _ h1 (by rw [Array.size_setIfInBounds]; simp at hl; omega)
    refine ⟨cur', e1, by rw [e2, Array.size_setIfInBounds], ?_⟩
    rw [e3, Array.toList_setIfInBounds]
    have ho : o < cur.toList.length := by rw [Array.length_toList]; simp at hl; omega
    rw [List.take_set, List.drop_set, if_pos (by omega), show (cur.toList.take (o + 1)).set o v = cur.toList.take o ++ [v] from by
      rw [List.take_succ_eq_append_getElem ho, List.set_append_right _ _ (by simp; omega), List.length_take, Nat.min_eq_left (Nat.le_of_lt ho), Nat.sub_self]; rfl]
    simp [Nat.add_assoc, Nat.add_comm 1]
theorem setCells_grown (b : Nat) : ∀ (vs : List Value) (o : Nat) (w : World), w.grownBy (w.setCells b o vs) (some b)
  | [], _, w => World.grownBy.refl w _
  | v :: vs, o, w => Lib.grownBy_trans (Lib.grownBy_setCell w b o v) (setCells_grown b vs (o + 1) _)
def insS (l : List ByteArray) (i : Nat) (x : ByteArray) : List ByteArray := l.take i ++ x :: l.drop i
theorem insS_len (l : List ByteArray) (i : Nat) (x : ByteArray) (hi : i ≤ l.length) : (insS l i x).length = l.length + 1 := by simp [insS]; omega
theorem encs_ins (l : List ByteArray) (i : Nat) (x : ByteArray) : encs Value.string (insS l i x) = (encs Value.string l).take i ++ .string x :: (encs Value.string l).drop i := by simp [encs, insS, List.map_take, List.map_drop]
theorem R_row {ok : Nat → Prop} {base e n cap g : Nat} {w : World} {cur : Array Value} {xs : List ByteArray} (hn : xs.length = n) (hbase : base ≤ g) (hb : w.heap[g]? = some (.cells cur e (0, 0))) (h1 : n ≤ cap) (h2 : cap ≤ maxLen) (h3 : cur.size = cap) (h4 : cur.toList.take n = encs Value.string xs) (hok : ok g) : Kd.R Kd.string e w base ok (.slice (some ⟨g, 0, none⟩) n cap) xs := by
  subst hn
  exact Kd.R_of_own (enc := Value.string) ⟨by simp [encs], .inr ⟨g, cap, cur, rfl, hbase, hb, h1, h2, by rw [h3, Nat.mul_one], by rw [Nat.mul_one]; exact h4⟩⟩ (fun k hk => by cases hk; exact hok)
theorem zs1 (n : Nat) : (Builtin.zeroCells (Value.string ⟨#[]⟩).cells n).size = n := by rw [size_zeroCells]; exact Nat.mul_one n
theorem slices_Insert_at' (P0_ : Nat → Prop) (u : Value) (l : List ByteArray) (a1 : Int) (i : Nat) (hai : (i : Int) = a1) (hi : i ≤ l.length) (x : ByteArray) (vv : Value) (w0 w : World) (vbase : Nat) (vok : Nat → Prop) (hB : Below w0.heap.size w0 w) (ho : Kd.R Kd.string 9 w w0.heap.size P0_ u l) (hv0 : Kd.R Kd.string 9 w vbase vok vv [x]) (hne0 : ∀ k, u.ownBlock = some k → vv.ownBlock ≠ some k) (hl : l.length < 1000000) :
    Calls Try.prog 145 #[u, .int .i64 a1, vv] w fun e w' => ∃ v0_ : Value, e = .returned v0_ ∧ Kd.R Kd.string 9 w' w0.heap.size (fun k_ => (P0_ k_ ∨ w.heap.size ≤ k_)) v0_ (insS l i x) ∧ Below w0.heap.size w0 w' ∧ Kept w w' (fun k_ => P0_ k_) := by
  subst hai
  have hm : maxLen = 9223372036854775807 := by unfold maxLen; rfl
  have hown := Kd.own_of_R (enc := Value.string) ho
  have hvown := Kd.own_of_R (enc := Value.string) hv0
  obtain ⟨vb, vcap, vcur, hvs0, hvcap, hv, hvsz, hvt⟩ : ∃ vb vcap vcur, vv = .slice (some ⟨vb, 0, none⟩) 1 vcap ∧ 1 ≤ vcap ∧ w.heap[vb]? = some (.cells vcur 9 (0, 0)) ∧ vcur.size = vcap ∧ vcur.toList.take 1 = [.string x] := by
    rcases hvown.2 with ⟨_, h0⟩ | ⟨g, cap, cur, rfl, _, hb, h1, _, h3, h4⟩
    · simp at h0
    · exact ⟨g, cap, cur, rfl, h1, hb, by rw [h3, Nat.mul_one], by simpa [encs] using h4⟩
  subst hvs0
  have hne : some vb ≠ u.ownBlock := fun e => hne0 vb e.symm rfl
  have hvc : w.cell? ⟨vb, 0, none⟩ = some (.string x) := by
    have h0 : vcur.toList[0]? = some (Value.string x) := by
      have := congrArg (fun l : List Value => l[0]?) hvt
      simpa [List.getElem?_take] using this
    simp [World.cell?, hv]
    simpa using h0
  have hvs : ∀ j v, ([.string x] : List Value)[j]? = some v → w.cell? ⟨vb, 0 + j, none⟩ = some v := fun j v h => by
    cases j with
    | zero => simp at h; rw [← h]; exact hvc
    | succ j => simp at h
  have h1v : ∀ v ∈ ([.string x] : List Value), v.oneCell' = true := fun v h => by simp at h; rw [h]; rfl
  have h1c : ∀ v ∈ encs Value.string l, v.oneCell' = true := fun v h => by
    simp [encs] at h
    obtain ⟨y, _, rfl⟩ := h
    rfl
  have hel : (encs Value.string l).length = l.length := by simp [encs]
  have hins := insS_len l i x hi
  rcases hown.2 with ⟨rfl, h0⟩ | ⟨g, cap, cur, rfl, hbase, hb, h1, h2, h3, h4⟩
  · have hn : l = [] := List.length_eq_zero_iff.1 h0
    subst hn
    obtain rfl : i = 0 := by simpa using hi
    have hc := Any2.slices_Insert_string_end_grow Try.laysIns none 0 0 vb 0 1 vcap [] [.string x] w (by omega) (by omega) (by omega) (by omega) rfl rfl (fun _ => rfl) (fun a e => by cases e) hvs h1v
    rw [show Try.laysIns_ren.t 9 = 9 from rfl] at hc
    refine hc.mono ?_
    rintro e w' ⟨rfl, rfl⟩
    have hgr : w.grownBy (w.drew.alloc (.cells (([] ++ [.string x] : List Value).toArray ++ Builtin.zeroCells (Value.string ⟨#[]⟩).cells (grownCap w (0 + 1) 0 9 - (0 + 1))) 9)) none := grown_of_below (below_alloc (below_drew1 (Below.refl w.heap.size w)) _) none
    have hge := grownCap_ge w (0 + 1) 0 9
    refine ⟨_, rfl, ?_, hB.grown hgr hB.size (fun k hk => by cases hk), Kept.of_grown hgr (Kept.refl _ _) (fun k hk => by cases hk)⟩
    exact R_row (by simp [insS]) hB.size (heap_alloc_new w.drew _) hge (grownCap_le_maxLen w _ _ _ (by omega)) (by rw [Array.size_append, zs1]; show 1 + _ = _; omega) (by simp [insS, encs]) (.inr (Nat.le_refl _))
  · rw [Nat.mul_one] at h3 h4
    have hcs : ∀ j v, (encs Value.string l)[j]? = some v → w.cell? ⟨g, 0 + j, none⟩ = some v := fun j v h => by
      rw [← h4, List.getElem?_take] at h
      split at h
      · rw [Nat.zero_add]
        simp [World.cell?, hb]
        simpa using h
      · cases h
    by_cases he : i = l.length
    · subst he
      by_cases hr : l.length + 1 ≤ cap
      · have hc := Any2.slices_Insert_string_end_room Try.laysIns g 0 l.length cap vb 0 1 vcap [.string x] w (by omega) hr (by omega) rfl (fun j hj => by
          simp [World.cell?, hb]
          omega) (fun j hj => by simp [World.frozen?, hb]) hvs h1v
        refine hc.mono ?_
        rintro e w' ⟨rfl, rfl⟩
        have hlen : 0 + l.length + ([.string x] : List Value).length ≤ cur.size := by rw [h3]; simpa using hr
        obtain ⟨cur', e1, e2, e3⟩ := setCells_blk g 9 [.string x] (0 + l.length) w cur hb hlen
        have hgr := setCells_grown g [.string x] (0 + l.length) w
        refine ⟨_, rfl, ?_, hB.grown hgr hB.size (fun k hk => by cases hk; exact hbase), Kept.of_grown hgr (Kept.refl _ _) (fun k hk => by cases hk; exact .inl (ho.1 _ rfl))⟩
        refine R_row hins hbase e1 hr h2 (by rw [e2, h3]) ?_ (.inl (ho.1 _ rfl))
        rw [e3, encs_ins, Nat.zero_add, h4, List.take_of_length_le (Nat.le_of_eq hel), List.drop_of_length_le (Nat.le_of_eq hel), List.take_left' (by simp [hel])]
      · have hc := Any2.slices_Insert_string_end_grow Try.laysIns (some ⟨g, 0, none⟩) l.length cap vb 0 1 vcap (encs Value.string l) [.string x] w (by omega) h1 (by omega) (by omega) hel rfl (fun e => by cases e) (fun a e j v h => by cases e; rw [Addr.add_lit]; exact hcs j v h) hvs h1v
        rw [show Try.laysIns_ren.t 9 = 9 from rfl] at hc
        refine hc.mono ?_
        rintro e w' ⟨rfl, rfl⟩
        have hgr : w.grownBy (w.drew.alloc (.cells ((encs Value.string l ++ [Value.string x]).toArray ++ Builtin.zeroCells (Value.string ⟨#[]⟩).cells (grownCap w (l.length + 1) cap 9 - (l.length + 1))) 9)) none := grown_of_below (below_alloc (below_drew1 (Below.refl w.heap.size w)) _) none
        have hge := grownCap_ge w (l.length + 1) cap 9
        refine ⟨_, rfl, ?_, hB.grown hgr hB.size (fun k hk => by cases hk), Kept.of_grown hgr (Kept.refl _ _) (fun k hk => by cases hk)⟩
        refine R_row hins hB.size (heap_alloc_new w.drew _) hge (grownCap_le_maxLen w _ _ _ (by omega)) (by rw [Array.size_append, zs1]; simp [hel]; omega) ?_ (.inr (Nat.le_refl _))
        rw [encs_ins, List.take_of_length_le (Nat.le_of_eq hel), List.drop_of_length_le (Nat.le_of_eq hel), Array.toList_append, List.take_left' (by simp [hel])]
    · by_cases hr : l.length + 1 ≤ cap
      · have hc := Any2.slices_Insert_string_shift Try.laysIns g 0 l.length cap i vb 0 1 vcap (encs Value.string l) [.string x] w (by omega) (by omega) hr (by omega) (fun e => hne (by rw [e]; rfl)) hel rfl hcs (fun j hj => by
          simp [World.cell?, hb]
          omega) (fun j hj => by simp [World.frozen?, hb]) hvs h1c h1v 9 9 vcap cap (by simp [World.shape?, hv, hvsz]) (by simp [World.shape?, hb, h3]) (by omega) (by simp [World.frozen?, hv]) (by simp [World.frozen?, hv])
        refine hc.mono ?_
        rintro e w' ⟨rfl, rfl⟩
        have hdl : ((encs Value.string l).drop i).length = l.length - i := by rw [List.length_drop, hel]
        obtain ⟨cur1, a1, a2, a3⟩ := setCells_blk g 9 ((encs Value.string l).drop i) (0 + (i + 1)) w.drew cur hb (by rw [hdl, h3]; omega)
        obtain ⟨cur', e1, e2, e3⟩ := setCells_blk g 9 [.string x] (0 + i) _ cur1 a1 (by rw [a2, h3]; simp; omega)
        have hgr : w.grownBy ((w.drew.setCells g (0 + (i + 1)) ((encs Value.string l).drop i)).setCells g (0 + i) [.string x]) (some g) := Lib.grownBy_trans (Lib.grownBy_trans (grown_of_below (below_drew1 (Below.refl w.heap.size w)) (some g)) (setCells_grown g _ _ w.drew)) (setCells_grown g _ _ _)
        refine ⟨_, rfl, ?_, hB.grown hgr hB.size (fun k hk => by cases hk; exact hbase), Kept.of_grown hgr (Kept.refl _ _) (fun k hk => by cases hk; exact .inl (ho.1 _ rfl))⟩
        refine R_row hins hbase e1 hr h2 (by rw [e2, a2, h3]) ?_ (.inl (ho.1 _ rfl))
        have ct : cur.toList.take i = (encs Value.string l).take i := by rw [← h4, List.take_take, Nat.min_eq_left (by omega)]
        have cl : cur.toList.length = cap := by rw [Array.length_toList, h3]
        rw [e3, a3, encs_ins, Nat.zero_add, Nat.zero_add]
        have p1 : (cur.toList.take (i + 1)).length = i + 1 := by rw [List.length_take, cl]; omega
        have t1 : (cur.toList.take (i + 1) ++ (encs Value.string l).drop i ++ cur.toList.drop (i + 1 + ((encs Value.string l).drop i).length)).take i = (encs Value.string l).take i := by
          rw [List.append_assoc, List.take_append_of_le_length (by rw [p1]; omega), List.take_take, Nat.min_eq_left (by omega), ct]
        have t2 : (cur.toList.take (i + 1) ++ (encs Value.string l).drop i ++ cur.toList.drop (i + 1 + ((encs Value.string l).drop i).length)).drop (i + [Value.string x].length) = (encs Value.string l).drop i ++ cur.toList.drop (i + 1 + ((encs Value.string l).drop i).length) := by
          rw [List.append_assoc, List.drop_left' (by rw [p1]; rfl)]
        rw [t1, t2]
        rw [show (encs Value.string l).take i ++ [Value.string x] ++ ((encs Value.string l).drop i ++ cur.toList.drop (i + 1 + ((encs Value.string l).drop i).length)) = ((encs Value.string l).take i ++ Value.string x :: (encs Value.string l).drop i) ++ cur.toList.drop (i + 1 + ((encs Value.string l).drop i).length) from by simp]
        exact List.take_left' (by simp [hel]; omega)
      · have hc := Any2.slices_Insert_string_grow Try.laysIns g 0 l.length cap i vb 0 1 vcap (encs Value.string l) [.string x] w (by omega) (by omega) h1 (by omega) (by omega) hel rfl hcs hvs h1c h1v
        rw [show Try.laysIns_ren.t 9 = 9 from rfl] at hc
        refine hc.mono ?_
        rintro e w' ⟨rfl, rfl⟩
        have hge := grownCap_ge w (l.length + 1) cap 9
        have hdl : ((encs Value.string l).drop i).length = l.length - i := by rw [List.length_drop, hel]
        have htl : ((encs Value.string l).take i).length = i := by rw [List.length_take, hel]; omega
        have hb0 := heap_alloc_new w (.cells (((encs Value.string l).take i).toArray ++ Builtin.zeroCells (Value.string ⟨#[]⟩).cells (l.length + 1 - i) ++ Builtin.zeroCells (Value.string ⟨#[]⟩).cells (grownCap w (l.length + 1) cap 9 - (l.length + 1))) 9)
        have hsz : (((encs Value.string l).take i).toArray ++ Builtin.zeroCells (Value.string ⟨#[]⟩).cells (l.length + 1 - i) ++ Builtin.zeroCells (Value.string ⟨#[]⟩).cells (grownCap w (l.length + 1) cap 9 - (l.length + 1))).size = grownCap w (l.length + 1) cap 9 := by rw [Array.size_append, Array.size_append, zs1, zs1, List.size_toArray, htl]; omega
        obtain ⟨cur1, a1, a2, a3⟩ := setCells_blk w.heap.size 9 [.string x] i (w.alloc (.cells (((encs Value.string l).take i).toArray ++ Builtin.zeroCells (Value.string ⟨#[]⟩).cells (l.length + 1 - i) ++ Builtin.zeroCells (Value.string ⟨#[]⟩).cells (grownCap w (l.length + 1) cap 9 - (l.length + 1))) 9)).drew _ hb0 (by rw [hsz]; simp; omega)
        obtain ⟨cur', e1, e2, e3⟩ := setCells_blk w.heap.size 9 ((encs Value.string l).drop i) (i + 1) (World.setCells (w.alloc (.cells (((encs Value.string l).take i).toArray ++ Builtin.zeroCells (Value.string ⟨#[]⟩).cells (l.length + 1 - i) ++ Builtin.zeroCells (Value.string ⟨#[]⟩).cells (grownCap w (l.length + 1) cap 9 - (l.length + 1))) 9)).drew w.heap.size i [.string x]).drew cur1 a1 (by rw [a2, hsz, hdl]; omega)
        have hB1 : Below w.heap.size w ((World.setCells (w.alloc (.cells (((encs Value.string l).take i).toArray ++ Builtin.zeroCells (Value.string ⟨#[]⟩).cells (l.length + 1 - i) ++ Builtin.zeroCells (Value.string ⟨#[]⟩).cells (grownCap w (l.length + 1) cap 9 - (l.length + 1))) 9)).drew w.heap.size i [.string x]).drew.setCells w.heap.size (i + 1) ((encs Value.string l).drop i)) := by
          have b0 : w.heap.size ≤ (w.alloc (.cells (((encs Value.string l).take i).toArray ++ Builtin.zeroCells (Value.string ⟨#[]⟩).cells (l.length + 1 - i) ++ Builtin.zeroCells (Value.string ⟨#[]⟩).cells (grownCap w (l.length + 1) cap 9 - (l.length + 1))) 9)).heap.size := by simp
          have s1 := setCells_grown w.heap.size [.string x] i (w.alloc (.cells (((encs Value.string l).take i).toArray ++ Builtin.zeroCells (Value.string ⟨#[]⟩).cells (l.length + 1 - i) ++ Builtin.zeroCells (Value.string ⟨#[]⟩).cells (grownCap w (l.length + 1) cap 9 - (l.length + 1))) 9)).drew
          have b1 : Below w.heap.size w _ := Below.grown (below_drew1 ((Below.refl w.heap.size w).alloc (Nat.le_refl _) _)) s1 b0 (fun k hk => Nat.le_of_eq (Option.some.inj hk))
          exact Below.grown (below_drew1 b1) (setCells_grown w.heap.size ((encs Value.string l).drop i) (i + 1) _) (Nat.le_trans b0 s1.size) (fun k hk => Nat.le_of_eq (Option.some.inj hk))
        have hgr := grown_of_below hB1 none
        refine ⟨_, rfl, ?_, hB.grown hgr hB.size (fun k hk => by cases hk), Kept.of_grown hgr (Kept.refl _ _) (fun k hk => by cases hk)⟩
        refine R_row hins hB.size e1 hge (grownCap_le_maxLen w _ _ _ (by omega)) (by rw [e2, a2, hsz]) ?_ (.inr (Nat.le_refl _))
        have q0 : (((encs Value.string l).take i).toArray ++ Builtin.zeroCells (Value.string ⟨#[]⟩).cells (l.length + 1 - i) ++ Builtin.zeroCells (Value.string ⟨#[]⟩).cells (grownCap w (l.length + 1) cap 9 - (l.length + 1))).toList.take i = (encs Value.string l).take i := by
          rw [Array.toList_append, Array.toList_append, List.append_assoc]
          exact List.take_left' htl
        have q1 : cur1.toList.take (i + 1) = (encs Value.string l).take i ++ [Value.string x] := by
          rw [a3, q0]
          exact List.take_left' (by rw [List.length_append, htl]; rfl)
        rw [e3, q1, encs_ins]
        rw [show (encs Value.string l).take i ++ [Value.string x] ++ (encs Value.string l).drop i ++ cur1.toList.drop (i + 1 + ((encs Value.string l).drop i).length) = ((encs Value.string l).take i ++ Value.string x :: (encs Value.string l).drop i) ++ cur1.toList.drop (i + 1 + ((encs Value.string l).drop i).length) from by simp]
        exact List.take_left' (by simp [hel]; omega)
end Go.Proofs.Ytephjmmkggcmeaa.PG
-- printed by a program of this session (wip/gp) out of the translation; Lean checks it
namespace Go.Proofs.Ytephjmmkggcmeaa.PG
open Go.RowKit Go.Proofs.YtephjmmkggcmeaaW.PrintWords Go.Proofs.YtephjmmkggcmeaaW.PrintLast Go.Proofs.YtephjmmkggcmeaaW.PrintMore Go.Proofs.YtephjmmkggcmeaaSq
attribute [local go_sem] max2_int min2_int max_two min_two max_three min_three max_four min_four   -- for this text's walks alone
attribute [local go_sem] Go.Proofs.YtephjmmkggcmeaaGp.str_geq Go.Proofs.YtephjmmkggcmeaaGp.str_gtr Go.Proofs.YtephjmmkggcmeaaGp.str_leq
set_option linter.unusedVariables false
set_option linter.unusedSimpArgs false



def errW : Option Int → Value
 | none => .nilIface
 | some c => .iface 0 (.int .i64 c)
theorem errW_none : errW none = .nilIface := rfl
theorem errW_some (c : Int) : errW (some c) = .iface 0 (.int .i64 c) := rfl

theorem info5 : (Try.prog.info? 5).map (fun i => (i.zero, i.size, i.bytes)) = some (some (.int .u8 0), 1, 1) := by kernel_rfl
theorem info9 : (Try.prog.info? 9).map (fun i => (i.zero, i.size, i.bytes)) = some (some (.string ⟨#[]⟩), 1, 16) := by kernel_rfl
-- the values' own types
end Go.Proofs.Ytephjmmkggcmeaa.PG
