import Derived.Laws.Strings
import Derived.Tactics
import Derived.Lib.LazyBuf
import Derived.Test.YtephjmmkggcmeaaCP0
import Derived.WalkKit
import Derived.KernelRfl
import Derived.Maps.Own
import Derived.Maps.OwnOps
import Derived.Maps.Views
import Derived.Maps.OwnSet
import Derived.Test.YtephjmmkggcmeaaProg
import Derived.WideKeyElems3
import Derived.Below
import Derived.Deep.Draws
import Derived.Deep.AppendLies
import Derived.Maps.AppendAt
import Derived.OwnWalk
import Derived.Laws.BytesArg
import Derived.Laws.MakeOwn
import Derived.Laws.OwnMore
import Derived.Deep.OwnRows
import Derived.Lib.ConvBytes
import Derived.Laws.Slices
import Derived.RowKit3
import Derived.Deep.LoopGhost
import Derived.Deep.QuietTactic
import Derived.BigQuiet
import Derived.WideLaws
import Derived.Deep.DeepCutAuto
import Derived.Deep.CutBlock
import Derived.Deep.RegionHeld3
import Derived.Laws.Rows
import Derived.Lib.AppendStr
import Derived.ArgAppend
import Derived.Laws.IdiomCopy
import Derived.OrdersHeld
import Derived.Laws.BitsLemmas
import Derived.RowKit
namespace Go.Proofs.YtephjmmkggcmeaaGp
open Go

theorem str_geq (t : TypeId) (a b : ByteArray) : binOp .geq t (.string a) (.string b) = pure (.bool !(Op.bytesLess a.toList b.toList)) := by simp [binOp, Op.stringOp]

theorem bl_total : ∀ a b : List UInt8, (Op.bytesLess a b || a == b) = !(Op.bytesLess b a)
  | [], [] => by simp [Op.bytesLess]
  | [], b :: l => by simp [Op.bytesLess]
  | a :: l, [] => by simp [Op.bytesLess]
  | a :: l, b :: m => by
    have ih := bl_total l m
    simp only [Op.bytesLess, List.cons_beq_cons]
    by_cases h1 : a < b
    · have h2 : ¬ b < a := fun h => absurd (UInt8.lt_iff_toNat_lt.mp h1) (by have := UInt8.lt_iff_toNat_lt.mp h; omega)
      have h3 : ¬ b = a := fun h => by subst h; exact h2 h1
      simp [h1, h2, h3]
    · by_cases h2 : b < a
      · have h3 : ¬ a = b := fun h => by subst h; exact h1 h2
        simp [h1, h2, h3]
      · have h3 : a = b := by
          apply UInt8.toNat_inj.mp
          have := mt UInt8.lt_iff_toNat_lt.mpr h1; have := mt UInt8.lt_iff_toNat_lt.mpr h2; omega
        subst h3
        simpa using ih

theorem str_gtr (t : TypeId) (a b : ByteArray) : binOp .gtr t (.string a) (.string b) = pure (.bool (Op.bytesLess b.toList a.toList)) := by
  have h := bl_total a.toList b.toList
  have e : binOp .gtr t (.string a) (.string b) = pure (.bool !(Op.bytesLess a.toList b.toList || a.toList == b.toList)) := by simp [binOp, Op.stringOp]
  rw [e, h, Bool.not_not]
theorem str_leq (t : TypeId) (a b : ByteArray) : binOp .leq t (.string a) (.string b) = pure (.bool !(Op.bytesLess b.toList a.toList)) := by
  have h := bl_total a.toList b.toList
  have e : binOp .leq t (.string a) (.string b) = pure (.bool (Op.bytesLess a.toList b.toList || a.toList == b.toList)) := by simp [binOp, Op.stringOp]
  rw [e, h]

section
open Go.Proofs.YtephjmmkggcmeaaW.PrintLast
variable {P : Program} {ops : Array Oper} {Q : Exit → Act → World → Prop}
end

section
open Go.Proofs.YtephjmmkggcmeaaW.PrintWords
end

end Go.Proofs.YtephjmmkggcmeaaGp
namespace Go.Proofs.YtephjmmkggcmeaaSq
open Go Go.RowKit Go.Proofs.YtephjmmkggcmeaaW.PrintWords Go.Proofs.YtephjmmkggcmeaaW.PrintLast

class Stp (W W' : World) : Prop where
  out : Below W.heap.size W W'
instance Stp.rfl_ (W : World) : Stp W W := ⟨Below.refl _ _⟩
instance Stp.alloc_ (W W' : World) (o : Obj) [h : Stp W W'] : Stp W (W'.alloc o) := ⟨below_alloc h.out o⟩
instance Stp.drewN_ (W W' : World) (n : Nat) [h : Stp W W'] : Stp W (W'.drewN n) := ⟨pw_below_drewN h.out n⟩
instance Stp.drewA_ (W w : World) (k n : Nat) [h : Stp W (w.drewN k)] : Stp W (w.drewN (k + n)) := ⟨by rw [← World.drewN_drewN]; exact pw_below_drewN h.out n⟩
instance Stp.drew_ (W W' : World) [h : Stp W W'] : Stp W W'.drew := ⟨below_drew h.out⟩
instance Stp.set_drewN (W : World) (p : Addr) (v : Value) (n : Nat) : Stp (W.setCell p v) ((W.drewN n).setCell p v) := ⟨by
  have e : (W.drewN n).setCell p v = (W.setCell p v).drewN n := by
    first
      | rfl
      | (unfold World.setCell World.drewN; split <;> rfl)
      | (simp only [World.setCell, World.drewN]; split <;> rfl)
  rw [e]
  exact pw_below_drewN (Below.refl _ _) n⟩
section
variable {α : Type} {d : Kd α} {e base n : Nat} {ok : Nat → Prop} {u v : Value} {xs : List α} {w W0 W W1 : World} {A : Option Addr} {g : Nat} {o : Obj}
theorem Rz [h' : Stp W0 W] (h : d.R e W0 base ok v xs) : d.R e W base ok v xs := Kd.R_below h h'.out
theorem Kz [h' : Stp W0 W] (h : W0.heap[g]? = some o) : W.heap[g]? = some o := blk_below h h'.out
theorem Bz [h' : Stp W0 W] (h : Below w.heap.size w W0) : Below w.heap.size w W := below_step h h'.out
theorem Bq (h : Below w.heap.size w W := by repeat (first | (with_reducible (refine Aside0.out ?_; assumption)) | (with_reducible apply below_alloc) | (with_reducible apply pw_below_drewN) | (with_reducible apply below_drew1) | ((with_reducible refine below_set ?_ ?_); rotate_left; (with_reducible (refine Aside0.out ?_; assumption))))) : Below w.heap.size w W := h
theorem Cz [h' : Stp W0 W] (h : d.C W0 A n xs) : d.C W A n xs := Kd.C_below h h'.out
theorem Rb [Stp W0 W] (h : Aside0 (d.R e W0 base ok v xs)) (hb : Below W.heap.size W W1) : Aside0 (d.R e W1 base ok v xs) := ⟨Kd.R_below (Rz h.out) hb⟩
theorem Kb [Stp W0 W] (h : Aside0 (W0.heap[g]? = some o)) (hb : Below W.heap.size W W1) : Aside0 (W1.heap[g]? = some o) := ⟨blk_below (Kz h.out) hb⟩
theorem Bb [Stp W0 W] (h : Aside0 (Below w.heap.size w W0)) (hb : Below W.heap.size W W1) : Aside0 (Below w.heap.size w W1) := ⟨below_step (Bz h.out) hb⟩
theorem Re [Stp W0 W] (h : Aside0 (d.R e W0 base ok u xs)) (hv : ∀ k, v.ownBlock = some k → W.heap.size ≤ k) (hb : Below W.heap.size W W1) : Aside0 (d.R e W1 base (fun k => ok k ∧ some k ≠ v.ownBlock) u xs) := ⟨Kd.R_elder' (Rz h.out) hv hb⟩
theorem Rl [Stp W0 W] (h : d.R e W1 W.heap.size ok v xs) (hb : Aside0 (Below w.heap.size w W0)) : Aside0 (d.R e W1 w.heap.size ok v xs) := ⟨Kd.R_lower h (below_size (Bz hb.out))⟩
theorem Gl [Stp W0 W] (hb : Aside0 (Below w.heap.size w W0)) (hg : g = W.heap.size) : Aside0 (w.heap.size ≤ g) := ⟨by rw [hg]; exact below_size (Bz hb.out)⟩
theorem Bc (_h : Aside0 (Below w.heap.size w W0)) (hb : Below W.heap.size W W1) (h : Below w.heap.size w W := by repeat (first | (with_reducible (refine Aside0.out ?_; assumption)) | (with_reducible apply below_alloc) | (with_reducible apply pw_below_drewN) | (with_reducible apply below_drew1) | ((with_reducible refine below_set ?_ ?_); rotate_left; (with_reducible (refine Aside0.out ?_; assumption))))) : Aside0 (Below w.heap.size w W1) := ⟨below_step h hb⟩
theorem Rm (h' : d.R e W1 W.heap.size ok v xs) (_h : Aside0 (Below w.heap.size w W0)) (h : Below w.heap.size w W := by repeat (first | (with_reducible (refine Aside0.out ?_; assumption)) | (with_reducible apply below_alloc) | (with_reducible apply pw_below_drewN) | (with_reducible apply below_drew1) | ((with_reducible refine below_set ?_ ?_); rotate_left; (with_reducible (refine Aside0.out ?_; assumption))))) : Aside0 (d.R e W1 w.heap.size ok v xs) := ⟨Kd.R_lower h' (below_size h)⟩
theorem Gm (_h : Aside0 (Below w.heap.size w W0)) (hg : g = W.heap.size) (h : Below w.heap.size w W := by repeat (first | (with_reducible (refine Aside0.out ?_; assumption)) | (with_reducible apply below_alloc) | (with_reducible apply pw_below_drewN) | (with_reducible apply below_drew1) | ((with_reducible refine below_set ?_ ?_); rotate_left; (with_reducible (refine Aside0.out ?_; assumption))))) : Aside0 (w.heap.size ≤ g) := ⟨by rw [hg]; exact below_size h⟩
theorem Nl [Stp W0 W] {g' : Nat} (h : Aside0 (W0.heap[g]? = some o)) (hg : g' = W.heap.size) : Aside0 (g ≠ g') := ⟨by rw [hg]; exact Nat.ne_of_lt (blk_lt (Kz (W := W) h.out))⟩
theorem Ng [Stp W0 W] {g' : Nat} (h : Aside0 (W0.heap[g]? = some o)) (hg : g' = W.heap.size) : Aside0 (g' ≠ g) := ⟨by rw [hg]; exact Nat.ne_of_gt (blk_lt (Kz (W := W) h.out))⟩
end

theorem aP : (∀ (a : Act) (d : Tmp) (v : Value), a.put (some d) v = { a with tmps := a.tmps.setIfInBounds d v }) ∧ (∀ (a : Act) (v : Value), a.put none v = a) ∧ (∀ (l : List Value) (i : Nat) (x : Value), l.toArray.setIfInBounds i x = (l.set i x).toArray) ∧ (∀ (x : Value) (xs : List Value) (b : Value), (x :: xs).set 0 b = b :: xs) ∧ (∀ (x : Value) (xs : List Value) (n : Nat) (b : Value), (x :: xs).set (n + 1) b = x :: xs.set n b) := ⟨fun _ _ _ => rfl, fun _ _ => rfl, fun _ _ _ => List.setIfInBounds_toArray _ _ _, fun _ _ _ => List.set_cons_zero, fun _ _ _ _ => List.set_cons_succ⟩
theorem wZ {p : Prop} (h : p := by first | rfl | (simp; done) | (simp [*]; done) | (simp; exact (by decide : ∀ a b : Bool, (a == b) = (!(a != b))) _ _)) : p := h
theorem eZ {p : Prop} (h : p := by first | rfl | (simp [errW_none, errW_some] <;> rfl) | (simp [*, errW_none, errW_some] <;> rfl)) : p := h
theorem nZ {p : Prop} (h : p := by first | exact Kd.R_nil _ _ _ _ _ | exact Kd.N_nil _ _ _ _ _ | exact Kd.V_nil _ _ _ _ _ | exact Kd.Q_nil _ _ _ _ _ | exact Kd.S_nil _ _ _ _ _) : p := h
theorem yZ {p : Prop} (h : p := by first | exact ⟨rfl, _, World.drewN_drewN _ _ _⟩ | exact ⟨rfl, _, Eq.trans (World.drewN_drewN _ _ _) (congrArg (World.drewN _) (Nat.add_assoc _ _ _))⟩) : p := h
theorem eT (p : Prop) [Decidable p] (h : decide p = true := by first | (with_reducible assumption) | assumption) : p = True := eq_true (of_decide_eq_true h)
theorem am {p : Prop} (h : p) : Aside0 p := ⟨h⟩

section
variable {w : World} {g : Nat} {t : TypeId}
theorem dT {p : Prop} [Decidable p] (h : decide p = true := by first | (with_reducible assumption) | assumption) : p := of_decide_eq_true h
theorem cz {cs : Array Value} {v : Value} (h : Aside0 (w.heap[g]? = some (.cells cs t (0, 0)))) (i : Nat) (hv : cs[i]? = some v := by exact rfl) : w.cell? ⟨g, i, none⟩ = some v := (blk_cell h.out i).trans hv
theorem cf1 {v0 : Value} (h : Aside0 (w.heap[g]? = some (.cells #[v0] t (0, 0)))) : w.cell? ⟨g, 0, none⟩ = some v0 ∧ w.frozen? ⟨g, 0, none⟩ = false := ⟨cz h 0, blk_frozen h.out 0⟩
end

theorem bE {P : Program} {ops : Array Oper} {rest : List Oper} {o : Oper} {a : Act} {Q : Exit → Act → World → Prop} {W : World} (N : Tmp) (cs : Array Value) (t : TypeId)
    (h : ∀ g, g = W.heap.size → ∀ w1, w1.heap[g]? = some (.cells cs t (0, 0)) → Below W.heap.size W w1 → wpList P ops Q rest (a.put o.dst (.pointer (some ⟨g, 0, none⟩))) w1)
    (hg : o.guard = none := by exact rfl) (hd : o.dst = some N := by exact rfl)
    (hr : (execOp a.eval o).run P W = .ok (.value (.pointer (some ⟨W.heap.size, 0, none⟩))) (W.alloc (.cells cs t (0, 0))) := by first | (go_simp; done) | (go_simp; rfl)) : wpList P ops Q (o :: rest) a W := box_event hg hd hr h

def bL : Nat → Nat → List Bool
  | 0, _ => []
  | n + 1, m => (m % 2 == 1) :: bL n (m / 2)
def bA (n m : Nat) : Array Bool := ⟨bL n m⟩

section
variable {P : Program} {md : Region.Mode} {ops : Array Oper} {Q : Exit → Act → World → Prop} {S : World → Prop} {ds : List Nat} {T : Bool × List (List Nat × List Nat)}
theorem pZ (i : Nat) (N : Option Tmp) {oi : Oper} {v : Value} {fuel : Nat} {l : Array Bool} {a a' : Act} {w : World} (l' : Array Bool) (hT : rtab md ops = T) (h : wpAnyLast P md ops Q S ds fuel l' a' w)
    (hi : ops[i]? = some oi := by exact rfl) (hN : oi.dst = N := by exact rfl) (hc : anyT T l.toList l'.toList i = true := by kernel_rfl) (hQ : ∀ c a w, Q (.panic c) (a.put oi.dst v) w → Q (.panic c) a w := by exact fun _ _ _ h => h)
    (hw : Region.wanted oi (yielded ops a.tmps) = true := by exact rfl) (hy : ∀ w, (execOp a.eval oi).run P w = .ok (.value v) w := by intro w'; go_simp; with_reducible rfl)
    (ha : a.put N v = a' := by simp only [Act.put, List.setIfInBounds_toArray, List.set_cons_zero, List.set_cons_succ, i64_w, i32_w]; rfl) : wpAnyLast P md ops Q S ds (fuel + 1) l a w :=
  pure_ l' hi hN (any_of hT hc) hQ (Or.inl ⟨hw, hy⟩) ha h
theorem tZ3 (i : Nat) (N : Option Tmp) {oi : Oper} {v : Value} {fuel : Nat} {l : Array Bool} {a a' : Act} {w : World} (l' : Array Bool) (hT : rtab md ops = T) {B : List Nat} (hB : waitsOk T.2 B = true) (hS : S w) (h : wpAnyLast P md ops Q S ds fuel l' a' w)
    (hi : ops[i]? = some oi := by exact rfl) (hN : oi.dst = N := by exact rfl) (hc : takeW T B ds l.toList l'.toList i = true := by kernel_rfl) (hQ : ∀ c a w, Q (.panic c) (a.put oi.dst v) w → Q (.panic c) a w := by exact fun _ _ _ h => h)
    (hw : Region.wanted oi (yielded ops a.tmps) = true := by exact rfl) (hy : ∀ w, S w → (execOp a.eval oi).run P w = .ok (.value v) w := by rintro w' ⟨s0, s1, s2⟩; go_simp; with_reducible rfl)
    (ha : a.put N v = a' := by simp only [Act.put, List.setIfInBounds_toArray, List.set_cons_zero, List.set_cons_succ, i64_w, i32_w]; rfl) : wpAnyLast P md ops Q S ds (fuel + 1) l a w :=
  take_ l' hi hN (take_ofW hT hB hc) hQ (Or.inl ⟨hw, hy⟩) hS ha h
theorem tZ4 (i : Nat) (N : Option Tmp) {oi : Oper} {v : Value} {fuel : Nat} {l : Array Bool} {a a' : Act} {w : World} (l' : Array Bool) (hT : rtab md ops = T) {B : List Nat} (hB : waitsOk T.2 B = true) (hS : S w) (h : wpAnyLast P md ops Q S ds fuel l' a' w)
    (hi : ops[i]? = some oi := by exact rfl) (hN : oi.dst = N := by exact rfl) (hc : takeW T B ds l.toList l'.toList i = true := by kernel_rfl) (hQ : ∀ c a w, Q (.panic c) (a.put oi.dst v) w → Q (.panic c) a w := by exact fun _ _ _ h => h)
    (hw : Region.wanted oi (yielded ops a.tmps) = true := by exact rfl) (hy : ∀ w, S w → (execOp a.eval oi).run P w = .ok (.value v) w := by rintro w' ⟨s0, s1, s2, s3⟩; go_simp; with_reducible rfl)
    (ha : a.put N v = a' := by simp only [Act.put, List.setIfInBounds_toArray, List.set_cons_zero, List.set_cons_succ, i64_w, i32_w]; rfl) : wpAnyLast P md ops Q S ds (fuel + 1) l a w :=
  take_ l' hi hN (take_ofW hT hB hc) hQ (Or.inl ⟨hw, hy⟩) hS ha h
theorem oZ (i : Nat) (N : Option Tmp) {oi : Oper} {fuel : Nat} {l : Array Bool} {a : Act} {w : World} (l' : Array Bool) (hT : rtab md ops = T)
    (h : ∀ K : Act → World → Prop, Shut (∀ a' w', S w' → (S w' → wpAnyLast P md ops Q S ds fuel l' a' w') → K a' w') → if Region.wanted oi (yielded ops a.tmps) = true then Oper.wp P oi a w K Q else K (a.put N undef) w)
    (hi : ops[i]? = some oi := by exact rfl) (hN : oi.dst = N := by exact rfl) (hc : (readyT T.2 l.toList == [i] && l.toList.set i true == l'.toList) = true := by kernel_rfl) (hd : i ∉ ds := by decide) : wpAnyLast P md ops Q S ds (fuel + 1) l a w :=
  one_ l' hi hN (one_of hT hc) hd h
theorem gZ {oi : Oper} {N : Option Tmp} {a : Act} {w : World} {K : Act → World → Prop} {f : FuncId} {fn : Func} {as_ : Array Operand} {ts : Array TypeId} (hf : P.funcs[f]? = some fn) (args : Array Value)
    (h : Calls P f args w fun e w' => ∃ v, e = .returned v ∧ K (a.put N v) w') (hname : (fn.name == "runtime.NumGoroutine") = false := by kernel_rfl) (hb : fn.body.isSome = true := by exact rfl)
    (hw : Region.wanted oi (yielded ops a.tmps) = true := by rfl) (hN : oi.dst = N := by exact rfl) (hop : oi.op = .call { callee := .value (.func f), args := as_, argTypes := ts } := by exact rfl)
    (hargs : as_.map a.eval = args := by (try simp only [List.map_toArray, List.map_cons, List.map_nil]); first | done | rfl | (simp only [List.length_drop, List.length_take]; rfl)) :
    if Region.wanted oi (yielded ops a.tmps) = true then Oper.wp P oi a w K Q else K (a.put N undef) w :=
  goes_ hf hname hb args hw hN hop hargs h
theorem gL {rest : List Oper} {oi : Oper} {a : Act} {w : World} (N : Option Tmp) {f : FuncId} {fn : Func} {as_ : Array Operand} {ts : Array TypeId} (hf : P.funcs[f]? = some fn) (args : Array Value)
    (h : Calls P f args w fun e w' => ∃ v, e = .returned v ∧ wpList P ops Q rest (a.put N v) w') (hd : oi.dst = N := by exact rfl) (hg : oi.guard = none := by exact rfl) (hname : (fn.name == "runtime.NumGoroutine") = false := by kernel_rfl) (hb : fn.body.isSome = true := by exact rfl)
    (hop : oi.op = .call { callee := .value (.func f), args := as_, argTypes := ts } := by exact rfl)
    (hargs : as_.map a.eval = args := by (try simp only [List.map_toArray, List.map_cons, List.map_nil]); first | done | rfl | (simp only [List.length_drop, List.length_take]; rfl)) : wpList P ops Q (oi :: rest) a w :=
  goesL_ N hd hg hf hname hb args hop hargs h
end
end Go.Proofs.YtephjmmkggcmeaaSq
namespace Go.Proofs.YtephjmmkggcmeaaGp
open Go Go.Maps

theorem plainBool_inv {H : Type} {P : Program} {e : TypeId} (he : P.underlying e = some .bool) {v : Value} {z : DataW H × List MemPlace} (h : plainElem P e v = some z) : ∃ a, v = .bool a ∧ z = (.lit (.bool a), []) := by
  unfold plainElem at h
  rw [he] at h
  cases v <;> simp at h
  exact ⟨_, rfl, h.symm⟩
theorem lookB {H : Type} {P : Program} (w : World) {ops : Array Oper} {rest : List Oper} {o : Oper} {a : Act} {Q : Exit → Act → World → Prop}
    (hg : o.guard = none) (m x : Operand) (t : TypeId) (hop : o.op = Op.lookup t m x false)
    (k e : TypeId) (K : Keyed P k) (ht : P.underlying t = some (.map k e)) (he : P.underlying e = some .bool) (hz : (zeroValue e).run P w = .ok (.bool false) w) (b n : Nat) (D : DataW H)
    (hm : a.eval m = .map (some b)) (hown : w.ownsMap P k (plainElem P e) b n D) (key : Value) (kl : Lit) (hx : a.eval x = key) (hkey : keyOf P k key = some kl) (r : Bool)
    (hr : D.atKey kl (.lit (.bool false)) = .lit (.bool r))
    (hK : wpList P ops Q rest (a.put o.dst (.bool r)) w) :
    wpList P ops Q (o :: rest) a w := by
  refine wpList_plain hg fun K' hK' => ?_
  obtain ⟨v, ps, hrun, hv⟩ := hown.lookup K ht hz (plainElem_bool he false) hkey
  obtain ⟨c, rfl, hc⟩ := plainBool_inv he hv
  simp only [Prod.mk.injEq] at hc
  have hcr : c = r := by
    have := hc.1.symm.trans hr
    simpa using this
  subst hcr
  unfold Oper.wp
  simp [execOp, hop, hm, hx, hrun, Result.andThen]
  exact hK' _ _ hK
def nubI : List Int → List Int
  | [] => []
  | x :: t => if t.contains x then nubI t else x :: nubI t
def SetIs (q : IntKind) (D : DataW Unit) (S : List Int) : Prop :=
  Tidy D ∧ (∀ x : Int, D.atKey (.int q x) (.lit (.bool false)) = .lit (.bool (S.contains x))) ∧ (∀ x : Int, Maps.has D (.int q x) = S.contains x) ∧ Maps.size D = (nubI S).length
theorem SetIs.empty (q : IntKind) : SetIs q (.map []) [] := ⟨tidy_empty, fun _ => rfl, fun _ => rfl, rfl⟩
theorem SetIs.put {q : IntKind} {D : DataW Unit} {S : List Int} (h : SetIs q D S) (x : Int) : SetIs q (D.put (.int q x) (.lit (.bool true))) (x :: S) := by
  obtain ⟨h1, h2, h3, h4⟩ := h
  have hk : WideAt.IsKeyLit (.int q x) := by simp [WideAt.IsKeyLit]
  refine ⟨h1.put hk _, fun y => ?_, fun y => ?_, ?_⟩
  · by_cases c : y = x
    · subst c
      rw [atKey_put_same h1.isMap hk]
      simp
    · rw [atKey_put_other (by simpa using c), h2]
      simp [c]
  · by_cases c : y = x
    · subst c
      rw [has_put_same h1.isMap hk]
      simp
    · rw [has_put_other (by simpa using c), h3]
      simp [c]
  · rw [size_put h1, h3, h4]
    show _ = (if S.contains x then nubI S else x :: nubI S).length
    split <;> simp
end Go.Proofs.YtephjmmkggcmeaaGp
namespace Go.Proofs.Ytephjmmkggcmeaa.PP
open Go Go.RowKit Go.Maps Go.Proofs.YtephjmmkggcmeaaW.PrintWords Go.Proofs.YtephjmmkggcmeaaGp
set_option maxHeartbeats 400000
theorem distinctK : Keyed Try.prog 3 := int_keyed Try.underlying3
theorem distinctZ (w : World) : (zeroValue 4).run Try.prog w = .ok (.bool false) w := by kernel_rfl
def okI (x : Int) : Bool := decide (-9223372036854775808 ≤ x) && decide (x ≤ 9223372036854775807)
theorem okI_wf {x : Int} (h : okI x = true) : (Lit.int .i64 x).wf = true := h
theorem rdn {l : List Int} {k : Nat} (h : k < l.length) : rd l (k : Int) = l[k] := by simp [rd, h]
def goesI : List Int → List Int → Bool
  | _, [] => true
  | S, x :: t => !(S.contains x) && goesI (x :: S) t
def impl_distinct.f (l0 : List Int) : Option Bool := if l0.length ≤ 1000000 ∧ l0.all okI = true then some (goesI [] l0) else none
theorem impl_distinct.calls (A0 : Option Addr) (c0 : Nat) (l0 : List Int) (r : Bool) (w : World) (hr0 : Kd.C (Kd.int .i64) w A0 l0.length l0) (_ : l0.length ≤ c0) (h : impl_distinct.f l0 = some r) :
    Calls Try.prog 132 #[.slice A0 l0.length c0] w fun e w' => e = .returned (.bool r) ∧ Below w.heap.size w w' := by
  unfold impl_distinct.f at h
  split at h
  case isFalse => cases h
  case isTrue hl =>
  obtain ⟨hl, hok⟩ := hl
  have HR := Option.some.inj h
  have HG : Aside0 (goesI [] l0 = r) := ⟨HR⟩
  clear HR h
  have HO : Aside0 (∀ x ∈ l0, okI x = true) := ⟨by simpa using hok⟩
  clear hok
  have HC := Aside0.mk hr0
  clear hr0
  have hmm := @run_makeMap Try.prog
  go_enter Try.func132, Try.ntmps132
  go_wp2
  go_loopw [9] (fun i wr => ∃ (k : Nat) (S : List Int) (D : DataW Unit), k ≤ l0.length ∧ i = .int .i64 k ∧ wr.ownsMap Try.prog 3 (plainElem (H := Unit) Try.prog 4) w.heap.size k D ∧ Aside0 (SetIs .i64 D S) ∧ Aside0 (goesI S (l0.drop k) = r) ∧ Below w.heap.size w wr)
    (fun i _ => l0.length - (intOf i).toNat)
  case atStart => exact ⟨0, [], .map [], Nat.zero_le _, rfl, World.ownsMap_made _ _ _ _, ⟨SetIs.empty _⟩, ⟨by simpa using HG.out⟩, (Below.refl _ _).alloc (Nat.le_refl _) _⟩
  case round =>
    obtain ⟨k, S, D, hk, rfl, hown, HS, HA, hnx⟩ := hrel
    by_cases hlt : k < l0.length
    · obtain ⟨ad, e0, hx⟩ := Kd.at_int HC.out (k : Int) (by omega) (by omega)
      subst e0
      have hx' := pw_cell_below hnx hx
      rw [Int.toNat_natCast] at hx'
      clear hx
      have HK : Aside0 (keyOf Try.prog 3 (.int .i64 (rd l0 k)) = some (.int .i64 (rd l0 k))) := ⟨keyOf_int_mk Try.underlying3 (okI_wf (HO.out _ (by rw [rdn hlt]; exact List.getElem_mem hlt)))⟩
      have HD : Aside0 (l0.drop k = rd l0 k :: l0.drop (k + 1)) := ⟨by rw [rdn hlt]; exact List.drop_eq_getElem_cons hlt⟩
      by_cases hs : S.contains (rd l0 k) = true
      · have HB := HS.out.2.1 (rd l0 k)
        rw [hs] at HB
        have HB' := Aside0.mk HB
        clear HB
        go_wp2_with (first
          | (at_lookup; refine lookB _ rfl _ _ 117 rfl 3 4 distinctK Try.underlying117 Try.underlying4 (distinctZ _) w.heap.size k D rfl hown _ _ rfl HK.out true HB'.out ?_)
          | go_in)
        go_ret
        refine ⟨?_, hnx⟩
        have := HA.out
        rw [HD.out, goesI, hs] at this
        rw [← this]; rfl
      · have hs' : S.contains (rd l0 k) = false := by simpa using hs
        have HF := Aside0.mk hs'
        have HB := HS.out.2.1 (rd l0 k)
        rw [hs'] at HB
        clear hs' hs
        have HB' := Aside0.mk HB
        clear HB
        go_wp2_with (first
          | (at_lookup; refine lookB _ rfl _ _ 117 rfl 3 4 distinctK Try.underlying117 Try.underlying4 (distinctZ _) w.heap.size k D rfl hown _ _ rfl HK.out false HB'.out ?_)
          | (at_mapUpdate; refine wpList_mapUpdate_own _ rfl _ _ _ 117 rfl 3 4 distinctK Try.underlying117 (plainElem (H := Unit) Try.prog 4) w.heap.size k _ rfl hown (by unfold maxLen; omega) _ _ _ rfl rfl HK.out _ [] (plainElem_bool Try.underlying4 true) ?_; intro w1 hown1 hgrow1)
          | go_in)
        go_roundw
        case rel => exact ⟨k + 1, rd l0 k :: S, _, by omega, by go_num, hown1, ⟨HS.out.put _⟩, ⟨by have := HA.out; rw [HD.out, goesI, HF.out] at this; exact this⟩, hnx.grown hgrow1 hnx.size (fun j hj => by cases hj; exact Nat.le_refl _)⟩
        case measure => simp [intOf]; omega
    · have e : k = l0.length := by omega
      subst e
      go_wp2
      go_ret
      refine ⟨?_, hnx⟩
      have := HA.out
      rw [List.drop_length, goesI] at this
      rw [← this]; rfl
end Go.Proofs.Ytephjmmkggcmeaa.PP
namespace Go.Proofs.YtephjmmkggcmeaaGp
open Go Go.Maps Go.ChangeShapes Go.WideShapes Go.MapKept Go.ChangeMaps Go.WideElems
section
variable {H : Type} {P : Program} {w : World} {t k e : TypeId} {R : Value → Option (DataW H × List MemPlace)} {b n : Nat} {D : DataW H}
theorem idx_new {es : Array MapEntry} {clock : Nat} (h : ∀ x ∈ es.toList, x.born < clock) (key z : Value) : (es.push ⟨key, z, clock⟩).findIdx? (fun x => ((x.born : Nat) : Int) == ((clock : Nat) : Int)) = some es.size := by
  have hn : es.findIdx? (fun x => ((x.born : Nat) : Int) == ((clock : Nat) : Int)) = none := by
    rw [Array.findIdx?_eq_none_iff]
    intro x hx
    have := h x (Array.mem_toList_iff.2 hx)
    simp only [beq_eq_false_iff_ne, ne_eq]
    omega
  rw [Array.findIdx?_push, hn]
  simp
theorem idx_old {es : Array MapEntry} (h : (es.toList.map (·.born)).Nodup) {j : Nat} {e0 : MapEntry} (hj : es[j]? = some e0) : es.findIdx? (fun x => ((x.born : Nat) : Int) == ((e0.born : Nat) : Int)) = some j := by
  obtain ⟨hlt, rfl⟩ := Array.getElem?_eq_some_iff.1 hj
  rw [Array.findIdx?_eq_some_iff_getElem]
  refine ⟨hlt, by simp, fun i hi => ?_⟩
  simp only [Bool.not_eq_true, beq_eq_false_iff_ne, ne_eq, Int.natCast_inj]
  unfold List.Nodup at h
  rw [List.pairwise_iff_getElem] at h
  have := h i j (by simp; omega) (by simpa using hlt) hi
  simpa using this
theorem same_key {es : Array MapEntry} {j : Nat} {e0 : MapEntry} {key : Value} (hj : es[j]? = some e0) (hk : e0.key = key) : es.modify j (fun x => { x with key := key }) = es := by
  obtain ⟨hlt, rfl⟩ := Array.getElem?_eq_some_iff.1 hj
  subst hk
  apply Array.ext
  · simp
  · intro i h1 h2
    rw [Array.getElem_modify]
    split
    · rename_i c; subst c; rfl
    · rfl
theorem same_store {es : Array MapEntry} {j : Nat} {e0 : MapEntry} {key val : Value} (hj : es[j]? = some e0) (hk : e0.key = key) : es.modify j (fun x => { x with val := val }) = es.modify j (fun x => { x with key := key, val := val }) := by
  obtain ⟨hlt, rfl⟩ := Array.getElem?_eq_some_iff.1 hj
  subst hk
  apply Array.ext
  · simp
  · intro i h1 h2
    rw [Array.getElem_modify, Array.getElem_modify]
    split
    · rename_i c; subst c; rfl
    · rfl
theorem push_store (es : Array MapEntry) (key z val : Value) (clock : Nat) : (es.push ⟨key, z, clock⟩).modify es.size (fun x => { x with val := val }) = es.push ⟨key, val, clock⟩ := by
  apply Array.ext
  · simp
  · intro i h1 h2
    rw [Array.getElem_modify]
    by_cases c : es.size = i
    · subst c; simp
    · rw [if_neg c, Array.getElem_push, Array.getElem_push]
      split
      · rfl
      · rename_i d; simp at h2; omega
theorem store_run {w2 : World} {es1 : Array MapEntry} {clock1 st i : Nat} (h : w2.heap[b]? = some (.map es1 clock1)) (hi : es1.findIdx? (fun x => ((x.born : Nat) : Int) == ((st : Nat) : Int)) = some i) (val : Value) :
    (Instr.entryStore t (.map (some b)) (goInt st) val).run P w2 = .ok () (setBlock w2 b (.map (es1.modify i fun x => { x with val := val }) clock1)) := by
  unfold Instr.entryStore
  simp [MapKept.run_getObj_map h, asInt, asIntOf, goInt, hi, MapKept.run_setObj_map _ h, Result.andThen, setBlock]
theorem entry_keyed {es : Array MapEntry} {clock : Nat} (K : Keyed P k) (ht : P.underlying t = some (.map k e)) {z : Value} (hz : ∀ u : World, (zeroValue e).run P u = .ok z u) (hb : w.heap[b]? = some (.map es clock)) (F : WideElems.Fit P k R es clock)
    {key : Value} {kl : Lit} (hkey : keyOf P k key = some kl) :
    ∃ (v0 : Value) (st : Nat) (es1 : Array MapEntry) (clock1 : Nat), (Instr.mapEntry t (.map (some b)) key).run P w = .ok (.tuple #[v0, goInt st]) (setBlock w b (.map es1 clock1)) ∧
      ∀ (w2 : World) (val : Value), w2.heap[b]? = some (.map es1 clock1) → ∃ es' clock', (Instr.entryStore t (.map (some b)) (goInt st) val).run P w2 = .ok () (setBlock w2 b (.map es' clock')) ∧
        (Instr.mapUpdate t (.map (some b)) key val).run P w = .ok () (setBlock w b (.map es' clock')) := by
  obtain ⟨born1, born2, _⟩ := F.stamped
  have hu := @run_underlying P t _ ht
  have hg := MapKept.run_getObj_map (P := P) hb
  have hc := K.check w false hkey
  have hk := K.stays w hkey
  rcases K.find w hkey es.toList F.keys with ⟨hf, _⟩ | ⟨j, e0, hf, hj, hk0⟩
  · have hent : (Instr.mapEntry t (.map (some b)) key).run P w = .ok (.tuple #[z, goInt clock]) (setBlock w b (.map (es.push ⟨key, z, clock⟩) (clock + 1))) := by
      unfold Instr.mapEntry
      simp [hu, hg, hc, hf, hz, MapKept.run_setObj_map _ hb, Result.andThen, setBlock]
    refine ⟨z, clock, _, _, hent, fun w2 val h2 => ⟨es.push ⟨key, val, clock⟩, clock + 1, ?_, ?_⟩⟩
    · rw [store_run h2 (idx_new born1 key z), push_store]
    · unfold Instr.mapUpdate
      simp [hu, hg, hc, hf, MapKept.run_setObj_map _ hb, Result.andThen, setBlock]
  · have hj' : es[j]? = some e0 := by simpa using hj
    have hent : (Instr.mapEntry t (.map (some b)) key).run P w = .ok (.tuple #[e0.val, goInt e0.born]) (setBlock w b (.map es clock)) := by
      unfold Instr.mapEntry
      simp [hu, hg, hc, hf, hj', hk0, hk, same_key hj' hk0, MapKept.run_setObj_map _ hb, Result.andThen, setBlock]
    refine ⟨e0.val, e0.born, _, _, hent, fun w2 val h2 => ⟨es.modify j (fun x => { x with key := key, val := val }), clock, ?_, ?_⟩⟩
    · rw [store_run h2 (idx_old born2 hj'), same_store hj' hk0]
    · unfold Instr.mapUpdate
      simp [hu, hg, hc, hf, hj', hk0, hk, MapKept.run_setObj_map _ hb, Result.andThen, setBlock]
def Entered (w : World) (P : Program) (k t : TypeId) (R : Value → Option (DataW H × List MemPlace)) (b n : Nat) (D : DataW H) (kl : Lit) (st : Nat) : Prop :=
  ∀ (val : Value) (d : DataW H) (ps : List MemPlace), R val = some (d, ps) → ∀ w2 : World, w2.heap[b]? = w.heap[b]? → ∃ w', (Instr.entryStore t (.map (some b)) (goInt st) val).run P w2 = .ok () w' ∧ w'.ownsMap P k R b (n + 1) (D.put kl d) ∧ w2.grownBy w' (some b)
theorem entry_own (h : w.ownsMap P k R b n D) (K : Keyed P k) (ht : P.underlying t = some (.map k e)) {z : Value} (hz : ∀ u : World, (zeroValue e).run P u = .ok z u) (hn : n < maxLen) {key : Value} {kl : Lit} (hkey : keyOf P k key = some kl) :
    ∃ (v0 : Value) (st : Nat) (w1 : World), (Instr.mapEntry t (.map (some b)) key).run P w = .ok (.tuple #[v0, goInt st]) w1 ∧ Entered w1 P k t R b n D kl st ∧ w.grownBy w1 (some b) := by
  have hown := h
  obtain ⟨es, clock, hb, F, hs, rfl⟩ := h
  obtain ⟨v0, st, es1, clock1, hrun, hst⟩ := entry_keyed K ht hz hb F hkey
  refine ⟨v0, st, _, hrun, fun val d ps hR w2 hw2 => ?_, ⟨rfl, rfl, rfl, by simp [setBlock], fun i _ hi => heap_setBlock_other hb _ (fun e3 => hi (congrArg some e3))⟩⟩
  rw [heap_setBlock_same hb] at hw2
  obtain ⟨es', clock', hr1, hr2⟩ := hst w2 val hw2
  refine ⟨_, hr1, ?_, ⟨rfl, rfl, rfl, by simp [setBlock], fun i _ hi => heap_setBlock_other hw2 _ (fun e3 => hi (congrArg some e3))⟩⟩
  obtain ⟨w', hrun', ⟨es2, clock2, hb2, F2, hs2, hD2⟩, _⟩ := hown.update K ht hn hkey hR
  rw [hr2] at hrun'
  cases hrun'
  rw [heap_setBlock_same hb] at hb2
  cases hb2
  exact ⟨_, _, heap_setBlock_same hw2 _, F2, hs2, hD2⟩
end
theorem entry_step {H : Type} {P : Program} {ops : Array Oper} {Q : Exit → Act → World → Prop} {oi : Oper} {N : Option Tmp} {a : Act} {w : World} {K : Act → World → Prop} (hw : Region.wanted oi (yielded ops a.tmps) = true) (hN : oi.dst = N)
    (m x : Operand) (t : TypeId) (hop : oi.op = Op.mapEntry t m x) (k e : TypeId) (KL : Keyed P k) (ht : P.underlying t = some (.map k e)) (z : Value) (hz : ∀ u : World, (zeroValue e).run P u = .ok z u) (R : Value → Option (DataW H × List MemPlace)) (b n : Nat) (D : DataW H)
    (hown : w.ownsMap P k R b n D) (hn : n < maxLen) (key : Value) (kl : Lit) (hm : a.eval m = .map (some b)) (hx : a.eval x = key) (hkey : keyOf P k key = some kl)
    (h : ∀ (v0 : Value) (st : Nat) (w' : World), Entered w' P k t R b n D kl st → w.grownBy w' (some b) → K (a.put N (.tuple #[v0, goInt st])) w') :
    if Region.wanted oi (yielded ops a.tmps) = true then Oper.wp P oi a w K Q else K (a.put N undef) w := by
  rw [if_pos hw]
  subst hN
  obtain ⟨v0, st, w', hrun, r1, r2⟩ := entry_own hown KL ht hz hn hkey
  unfold Oper.wp
  simp [execOp, hop, hm, hx, hrun, Result.andThen]
  exact h v0 st w' r1 r2
theorem estore_step {H : Type} {P : Program} {ops : Array Oper} {Q : Exit → Act → World → Prop} {oi : Oper} {a : Act} {w : World} {K : Act → World → Prop} (hw : Region.wanted oi (yielded ops a.tmps) = true) (hN : oi.dst = none)
    (m s v : Operand) (t : TypeId) (hop : oi.op = Op.entryStore t m s v) (k : TypeId) (R : Value → Option (DataW H × List MemPlace)) (b n : Nat) (D : DataW H) (kl : Lit) (st : Nat)
    (w1 : World) (hent : Entered w1 P k t R b n D kl st) (hww : w.heap[b]? = w1.heap[b]?) (val : Value) (hm : a.eval m = .map (some b)) (hs : a.eval s = goInt st) (hv : a.eval v = val) (d : DataW H) (ps : List MemPlace) (hval : R val = some (d, ps))
    (h : ∀ w', w'.ownsMap P k R b (n + 1) (D.put kl d) → w.grownBy w' (some b) → K a w') :
    if Region.wanted oi (yielded ops a.tmps) = true then Oper.wp P oi a w K Q else K (a.put none undef) w := by
  rw [if_pos hw]
  obtain ⟨w', hrun, r1, r2⟩ := hent val d ps hval w hww
  unfold Oper.wp
  simp [execOp, hop, hm, hs, hv, hrun, Result.andThen]
  show K (a.put oi.dst undef) w'
  rw [hN]
  exact h w' r1 r2
end Go.Proofs.YtephjmmkggcmeaaGp
-- printed by a program of this session (wip/gp) out of the translation; Lean checks it
namespace Go.Proofs.Ytephjmmkggcmeaa.PP
open Go.RowKit Go.Proofs.YtephjmmkggcmeaaW.PrintWords Go.Proofs.YtephjmmkggcmeaaW.PrintLast Go.Proofs.YtephjmmkggcmeaaW.PrintMore Go.Proofs.YtephjmmkggcmeaaSq
attribute [local go_sem] max2_int min2_int max_two min_two max_three min_three max_four min_four   -- for this text's walks alone
attribute [local go_sem] Go.Proofs.YtephjmmkggcmeaaGp.str_geq Go.Proofs.YtephjmmkggcmeaaGp.str_gtr Go.Proofs.YtephjmmkggcmeaaGp.str_leq
set_option linter.unusedVariables false
set_option linter.unusedSimpArgs false



def errW : Option Int → Value
 | none => .nilIface
 | some c => .iface 0 (.int .i64 c)
theorem errW_none : errW none = .nilIface := rfl
theorem errW_some (c : Int) : errW (some c) = .iface 0 (.int .i64 c) := rfl

theorem info3 : (Try.prog.info? 3).map (fun i => (i.zero, i.size, i.bytes)) = some (some (.int .i64 0), 1, 8) := by kernel_rfl
theorem info5 : (Try.prog.info? 5).map (fun i => (i.zero, i.size, i.bytes)) = some (some (.int .u8 0), 1, 1) := by kernel_rfl
theorem info9 : (Try.prog.info? 9).map (fun i => (i.zero, i.size, i.bytes)) = some (some (.string ⟨#[]⟩), 1, 16) := by kernel_rfl
theorem info31 : (Try.prog.info? 31).map (fun i => (i.zero, i.size, i.bytes)) = some (some (.slice none 0 0), 1, 24) := by kernel_rfl
-- the values' own types
def rd_L3 (xs : List (List Int)) (i : Int) : (List Int) := xs.getD i.toNat ([] : List Int)
theorem at_L3 {w : World} {A : Option Addr} {n : Nat} {xs : List (List Int)} (h : Kd.C (Kd.slice 3 (Kd.int .i64)) w A n xs) (i : Int) (h0 : 0 ≤ i) (h1 : i < n) : ∃ ad A0 c0, A = some ad ∧ w.cell? (ad.add i.toNat) = some (.slice A0 (rd_L3 xs i).length c0) ∧ (rd_L3 xs i).length ≤ c0 ∧ (Kd.int .i64).C w A0 (rd_L3 xs i).length (rd_L3 xs i) := by
 obtain ⟨ad, c, e, _, hK, hc0⟩ := Kd.C_get h ([] : List Int) i h0 h1
 have hc : ∀ j u, c[j]? = some u → w.cell? (ad.add (i.toNat * 1 + j)) = some u := hc0
 obtain ⟨A0, c0, rfl, l0, g0⟩ := hK
 exact ⟨ad, A0, c0, e, by have hq := hc 0 _ rfl; rwa [Nat.mul_one, Nat.add_zero] at hq, l0, g0⟩

end Go.Proofs.Ytephjmmkggcmeaa.PP
-- printed by a program of this session (wip/gp) out of the translation; Lean checks it
namespace Go.Proofs.Ytephjmmkggcmeaa.PP
open Go.RowKit Go.Proofs.YtephjmmkggcmeaaW.PrintWords Go.Proofs.YtephjmmkggcmeaaW.PrintLast Go.Proofs.YtephjmmkggcmeaaW.PrintMore Go.Proofs.YtephjmmkggcmeaaSq
attribute [local go_sem] max2_int min2_int max_two min_two max_three min_three max_four min_four   -- for this text's walks alone
attribute [local go_sem] Go.Proofs.YtephjmmkggcmeaaGp.str_geq Go.Proofs.YtephjmmkggcmeaaGp.str_gtr Go.Proofs.YtephjmmkggcmeaaGp.str_leq
set_option linter.unusedVariables false
set_option linter.unusedSimpArgs false

set_option maxHeartbeats 8000000
set_option maxRecDepth 100000
def laws_big.f (l0 : List Int) (l1 : List Int) : Option (Bool) := if (l0.length : Int) > 1048576 then (some true) else (some (decide ((l1.length : Int) > (wrap64 (1048576 - (l0.length : Int))))))
theorem laws_big.calls (A0 : Option Addr) (c0 : Nat) (l0 : List Int) (A1 : Option Addr) (c1 : Nat) (l1 : List Int) (r : Bool) (w : World) (hr0 : Kd.C (Kd.int .u8) w A0 l0.length l0) (hc0 : l0.length ≤ c0) (hr1 : Kd.C (Kd.int .u8) w A1 l1.length l1) (hc1 : l1.length ≤ c1) (h : laws_big.f l0 l1 = some r) :
  Calls Try.prog 11 #[.slice A0 l0.length c0, .slice A1 l1.length c1] w fun e w' => e = .returned (.bool r) ∧ Drawn0 w w' := by
 have HR0 := am hr0; have HC0 := am hc0; clear hr0 hc0; have HR1 := am hr1; have HC1 := am hc1; clear hr1 hc1; have H : (if (l0.length : Int) > 1048576 then (some true) else (some (decide ((l1.length : Int) > (wrap64 (1048576 - (l0.length : Int))))))) = some r := h; clear h
 by_cases c3 : (l0.length : Int) > 1048576
 ·rw [if_pos c3] at H
  have c3b0 : decide (1048576 < (l0.length : Int)) = true := decide_eq_true c3; have c3b1 : decide (1048576 < l0.length) = true := decide_eq_true (by omega); clear c3; obtain rfl := Option.some.inj H
  go_enter Try.func11, Try.ntmps11
  go_wp2
  go_ret
  exact ⟨by first | rfl | (simp; done) | (simp [*]; done), by repeat (first | exact Drawn0.refl _ | apply Drawn0.step)⟩
 ·rw [if_neg c3] at H
  have c3b0 : decide (1048576 < (l0.length : Int)) = false := decide_eq_false c3; have c3b1 : decide (1048576 < l0.length) = false := decide_eq_false (by omega); clear c3; obtain rfl := Option.some.inj H
  go_enter Try.func11, Try.ntmps11
  go_wp2
  go_ret
  exact ⟨by first | rfl | (simp; done) | (simp [*]; done), by repeat (first | exact Drawn0.refl _ | apply Drawn0.step)⟩

def impl_in.f (a0 : Int) (a1 : Int) (a2 : Int) : Option (Bool) := if a0 ≥ a1 then (some (decide (a0 ≤ a2))) else (some false)
theorem impl_in.calls (a0 : Int) (a1 : Int) (a2 : Int) (r : Bool) (w : World) (h : impl_in.f a0 a1 a2 = some r) :
  Calls Try.prog 112 #[.int .i64 a0, .int .i64 a1, .int .i64 a2] w fun e w' => e = .returned (.bool r) ∧ Drawn0 w w' := by
 have H : (if a0 ≥ a1 then (some (decide (a0 ≤ a2))) else (some false)) = some r := h; clear h
 by_cases c4 : a0 ≥ a1
 ·rw [if_pos c4] at H
  have c4b0 : decide (a1 ≤ a0) = true := decide_eq_true c4; clear c4; obtain rfl := Option.some.inj H
  go_enter Try.func112, Try.ntmps112
  go_wp2
  go_ret
  exact ⟨by first | rfl | (simp; done) | (simp [*]; done), by repeat (first | exact Drawn0.refl _ | apply Drawn0.step)⟩
 ·rw [if_neg c4] at H
  have c4b0 : decide (a1 ≤ a0) = false := decide_eq_false c4; clear c4; obtain rfl := Option.some.inj H
  go_enter Try.func112, Try.ntmps112
  go_wp2
  go_ret
  exact ⟨by first | rfl | (simp; done) | (simp [*]; done), by repeat (first | exact Drawn0.refl _ | apply Drawn0.step)⟩

def impl_isSeed.f (a0 : Int) : Option (Bool) := (impl_in.f a0 0 9999).bind fun t101 => (some t101)
theorem impl_isSeed.calls (a0 : Int) (r : Bool) (w : World) (h : impl_isSeed.f a0 = some r) :
  Calls Try.prog 65 #[.int .i64 a0] w fun e w' => e = .returned (.bool r) ∧ Drawn0 w w' := by
 have H : ((impl_in.f a0 0 9999).bind fun t101 => (some t101)) = some r := h; clear h; replace H := Option.bind_eq_some_iff.mp H; obtain ⟨t101, A20, H⟩ := H; (try dsimp -simprocs only at H); have A2 := am A20; clear A20; obtain rfl := Option.some.inj H
 go_enter Try.func65, Try.ntmps65
 go_wp2_with (first | ((with_reducible refine gate_callee (f := 112) rfl ?_); refine gL (some 4) Try.func112 #[.int .i64 a0, .int .i64 0, .int .i64 9999] ?_; (with_reducible refine (impl_in.calls a0 0 9999 t101 _ A2.out).mono ?_); rintro e w' ⟨rfl, ⟨nd, rfl⟩⟩; refine ⟨_, rfl, ?_⟩))
 go_ret
 exact ⟨by first | rfl | (simp; done) | (simp [*]; done), by repeat (first | exact Drawn0.refl _ | apply Drawn0.step)⟩

def impl_cellsOk.f (a0 : Int) : Option (Bool) := (impl_in.f a0 1 64).bind fun t102 => (some t102)
theorem impl_cellsOk.calls (a0 : Int) (r : Bool) (w : World) (h : impl_cellsOk.f a0 = some r) :
  Calls Try.prog 67 #[.int .i64 a0] w fun e w' => e = .returned (.bool r) ∧ Drawn0 w w' := by
 have H : ((impl_in.f a0 1 64).bind fun t102 => (some t102)) = some r := h; clear h; replace H := Option.bind_eq_some_iff.mp H; obtain ⟨t102, A20, H⟩ := H; (try dsimp -simprocs only at H); have A2 := am A20; clear A20; obtain rfl := Option.some.inj H
 go_enter Try.func67, Try.ntmps67
 go_wp2_with (first | ((with_reducible refine gate_callee (f := 112) rfl ?_); refine gL (some 4) Try.func112 #[.int .i64 a0, .int .i64 1, .int .i64 64] ?_; (with_reducible refine (impl_in.calls a0 1 64 t102 _ A2.out).mono ?_); rintro e w' ⟨rfl, ⟨nd, rfl⟩⟩; refine ⟨_, rfl, ?_⟩))
 go_ret
 exact ⟨by first | rfl | (simp; done) | (simp [*]; done), by repeat (first | exact Drawn0.refl _ | apply Drawn0.step)⟩

mutual
def impl_hash.l0 : Nat → ByteArray → Int → Int → Int → Option (Int)
 | 0, _, _, _, _ => none
 | k + 1, x2, x7, x18, x19 => if x19 < x18 then (if 0 ≤ x19 then (if x19 < (x2.size : Int) then (impl_hash.l0 k x2 (Int.tmod (wrap64 ((wrap64 (263 * x7)) + (wrap64 (bt x2 x19)))) 65521) x18 (wrap64 (x19 + 1))) else (none)) else (none)) else (impl_hash.l1 k x7 1 0)
def impl_hash.l1 : Nat → Int → Int → Int → Option (Int)
 | 0, _, _, _ => none
 | k + 1, x7, x9, x31 => if x31 < 11 then (impl_hash.l1 k x7 (Int.tmod (wrap64 (x9 * x7)) 65521) (wrap64 (x31 + 1))) else (some x9)
end
def impl_hash.f (k : Nat) (a0 : Int) (a1 : Int) (a2 : ByteArray) : Option (Int) := impl_hash.l0 k a2 (Int.tmod (wrap64 ((wrap64 ((wrap64 (31 * a0)) + (wrap64 (977 * a1)))) + 7)) 65521) (a2.size : Int) 0
theorem impl_hash.calls (k : Nat) (a0 : Int) (a1 : Int) (a2 : ByteArray) (r : Int) (w : World) (h : impl_hash.f k a0 a1 a2 = some r) :
  Calls Try.prog 150 #[.int .i64 a0, .int .i64 a1, .string a2] w fun e w' => e = .returned (.int .i64 r) ∧ Drawn0 w w' := by
 have H : (impl_hash.l0 k a2 (Int.tmod (wrap64 ((wrap64 ((wrap64 (31 * a0)) + (wrap64 (977 * a1)))) + 7)) 65521) (a2.size : Int) 0) = some r := h; clear h; have H' := am H; clear H
 go_enter Try.func150, Try.ntmps150
 go_wp2
 go_loopg [7, 19] k (fun kq v7 v19 w' => ∃ (x7_1 : Int) (x19_1 : Int), v7 = .int .i64 x7_1 ∧ v19 = .int .i64 x19_1 ∧ Aside0 (impl_hash.l0 kq a2 x7_1 (a2.size : Int) x19_1 = some r) ∧ Aside0 (kq ≤ k) ∧ Drawn0 w w')
 case atStart => exact ⟨(Int.tmod (wrap64 ((wrap64 ((wrap64 (31 * a0)) + (wrap64 (977 * a1)))) + 7)) 65521), (0), wZ, wZ, H', ⟨Nat.le_refl _⟩, by repeat (first | exact Drawn0.refl _ | apply Drawn0.step)⟩
 case round =>
  clear H'
  try clear c1
  try clear p2
  obtain ⟨x7_1, x19_1, rfl, rfl, HA, HK1, ⟨m1, rfl⟩⟩ := hrel; cases gk with
  | zero => exact absurd HA.out (by simp [impl_hash.l0])
  | succ k1 =>
   have H := HA.out; clear HA
   simp only [impl_hash.l0] at H
   by_cases c4 : x19_1 < (a2.size : Int)
   ·rw [if_pos c4] at H
    have c4b0 : decide (x19_1 < (a2.size : Int)) = true := decide_eq_true c4; clear c4
    by_cases c5 : 0 ≤ x19_1
    ·rw [if_pos c5] at H
     have c5b0 : decide (0 ≤ x19_1) = true := decide_eq_true c5; clear c5
     by_cases c6 : x19_1 < (a2.size : Int)
     ·rw [if_pos c6] at H
      have c6b0 : decide (x19_1 < (a2.size : Int)) = true := decide_eq_true c6; clear c6; have H' := am H; clear H; have p7 : 0 ≤ (x19_1 : Int) := dT; have q7 : x19_1 < (a2.size : Int) := dT; have hx7 := bt_at a2 x19_1; replace p7 := eq_true p7; replace q7 := eq_true q7
      go_wp2
      go_roundg k1
      case measure => have := HK1.out; omega
      case rel => exact ⟨(Int.tmod (wrap64 ((wrap64 (263 * x7_1)) + (wrap64 (bt a2 x19_1)))) 65521), (wrap64 (x19_1 + 1)), wZ, wZ, H', ⟨by have := HK1.out; omega⟩, by repeat (first | exact Drawn0.refl _ | apply Drawn0.step)⟩
     ·rw [if_neg c6] at H
      exact absurd H (by simp)
    ·rw [if_neg c5] at H
     exact absurd H (by simp)
   ·rw [if_neg c4] at H
    have c4b0 : decide (x19_1 < (a2.size : Int)) = false := decide_eq_false c4; clear c4; have H' := am H; clear H
    go_wp2
    go_loopg [9, 31] k1 (fun kq v9 v31 w' => ∃ (x9_2 : Int) (x31_2 : Int), v9 = .int .i64 x9_2 ∧ v31 = .int .i64 x31_2 ∧ Aside0 (impl_hash.l1 kq x7_1 x9_2 x31_2 = some r) ∧ Aside0 (kq ≤ k1) ∧ Drawn0 w w')
    case atStart => exact ⟨(1), (0), wZ, wZ, H', ⟨Nat.le_refl _⟩, by repeat (first | exact Drawn0.refl _ | apply Drawn0.step)⟩
    case round =>
     clear H'
     try clear c1
     try clear p2
     try clear c4
     try clear c4b0
     try clear c5
     try clear c5b0
     try clear c6
     try clear c6b0
     try clear p6
     try clear p7
     try clear q7
     try clear hx7
     try clear p2
     try clear p7
     try clear q7
     obtain ⟨x9_2, x31_2, rfl, rfl, HA, HK2, ⟨m2, rfl⟩⟩ := hrel; cases gk with
     | zero => exact absurd HA.out (by simp [impl_hash.l1])
     | succ k2 =>
      have H := HA.out; clear HA
      simp only [impl_hash.l1] at H
      by_cases c8 : x31_2 < 11
      ·rw [if_pos c8] at H
       have c8b0 : decide (x31_2 < 11) = true := decide_eq_true c8; clear c8; have H' := am H; clear H
       go_wp2
       go_roundg k2
       case measure => have := HK1.out; have := HK2.out; omega
       case rel => exact ⟨(Int.tmod (wrap64 (x9_2 * x7_1)) 65521), (wrap64 (x31_2 + 1)), wZ, wZ, H', ⟨by have := HK1.out; have := HK2.out; omega⟩, by repeat (first | exact Drawn0.refl _ | apply Drawn0.step)⟩
      ·rw [if_neg c8] at H
       have c8b0 : decide (x31_2 < 11) = false := decide_eq_false c8; clear c8; obtain rfl := Option.some.inj H
       go_wp2
       go_ret
       exact ⟨by first | rfl | (simp; done) | (simp [*]; done), by repeat (first | exact Drawn0.refl _ | apply Drawn0.step)⟩

def impl_place.f (k : Nat) (a0 : Int) (a1 : Int) (a2 : ByteArray) (a3 : Int) : Option (Int) := (impl_hash.f k a0 a1 a2).bind fun t103 => (some (wrap64 (Int.tdiv (wrap64 (t103 * a3)) 65521)))
theorem impl_place.calls (k : Nat) (a0 : Int) (a1 : Int) (a2 : ByteArray) (a3 : Int) (r : Int) (w : World) (h : impl_place.f k a0 a1 a2 a3 = some r) :
  Calls Try.prog 126 #[.int .i64 a0, .int .i64 a1, .string a2, .int .i64 a3] w fun e w' => e = .returned (.int .i64 r) ∧ Drawn0 w w' := by
 have H : ((impl_hash.f k a0 a1 a2).bind fun t103 => (some (wrap64 (Int.tdiv (wrap64 (t103 * a3)) 65521)))) = some r := h; clear h; replace H := Option.bind_eq_some_iff.mp H; obtain ⟨t103, A50, H⟩ := H; (try dsimp -simprocs only at H); have A5 := am A50; clear A50; obtain rfl := Option.some.inj H
 go_enter Try.func126, Try.ntmps126
 go_wp2_with (first | ((with_reducible refine gate_callee (f := 150) rfl ?_); refine gL (some 12) Try.func150 #[.int .i64 a0, .int .i64 a1, .string a2] ?_; (with_reducible refine (impl_hash.calls k a0 a1 a2 t103 _ A5.out).mono ?_); rintro e w' ⟨rfl, ⟨nd, rfl⟩⟩; refine ⟨_, rfl, ?_⟩))
 go_ret
 exact ⟨by first | rfl | (simp; done) | (simp [*]; done), by repeat (first | exact Drawn0.refl _ | apply Drawn0.step)⟩

def impl_cellsOf.f (k : Nat) (a0 : Int) (a1 : ByteArray) (a2 : Int) : Option (Int × Int) := (impl_place.f k a0 0 a1 a2).bind fun t104 => ((impl_place.f k a0 1 a1 a2).bind fun t105 => (some (t104, t105)))
theorem impl_cellsOf.calls (k : Nat) (a0 : Int) (a1 : ByteArray) (a2 : Int) (r1 : Int) (r2 : Int) (w : World) (h : impl_cellsOf.f k a0 a1 a2 = some (r1, r2)) :
  Calls Try.prog 68 #[.int .i64 a0, .string a1, .int .i64 a2] w fun e w' => e = .returned (.tuple #[.int .i64 r1, .int .i64 r2]) ∧ Drawn0 w w' := by
 have H : ((impl_place.f k a0 0 a1 a2).bind fun t104 => ((impl_place.f k a0 1 a1 a2).bind fun t105 => (some (t104, t105)))) = some (r1, r2) := h; clear h; replace H := Option.bind_eq_some_iff.mp H; obtain ⟨t104, A40, H⟩ := H; (try dsimp -simprocs only at H); have A4 := am A40; clear A40; replace H := Option.bind_eq_some_iff.mp H; obtain ⟨t105, A50, H⟩ := H; (try dsimp -simprocs only at H); have A5 := am A50; clear A50
 simp only [Option.some.injEq, Prod.mk.injEq] at H
 obtain ⟨rfl, rfl⟩ := H
 go_enter Try.func68, Try.ntmps68
 go_wp2_with (first | ((with_reducible refine gate_callee (f := 126) rfl ?_); refine gL (some 11) Try.func126 #[.int .i64 a0, .int .i64 0, .string a1, .int .i64 a2] ?_; (with_reducible refine (impl_place.calls k a0 0 a1 a2 t104 _ A4.out).mono ?_); rintro e w' ⟨rfl, ⟨nd, rfl⟩⟩; refine ⟨_, rfl, ?_⟩) | ((with_reducible refine gate_callee (f := 126) rfl ?_); refine gL (some 15) Try.func126 #[.int .i64 a0, .int .i64 1, .string a1, .int .i64 a2] ?_; (with_reducible refine (impl_place.calls k a0 1 a1 a2 t105 _ A5.out).mono ?_); rintro e w' ⟨rfl, ⟨nd, rfl⟩⟩; refine ⟨_, rfl, ?_⟩))
 go_ret2
 exact ⟨by first | rfl | (simp; done) | (simp [*]; done), by repeat (first | exact Drawn0.refl _ | apply Drawn0.step)⟩

def impl_IsKey.l0 : Nat → ByteArray → Int → Int → Option (Bool)
 | 0, _, _, _ => none
 | k + 1, x0, x5, x6 => if x6 < x5 then (if 0 ≤ x6 then (if x6 < (x0.size : Int) then (if (bt x0 x6) < 33 then (some false) else (if (bt x0 x6) > 125 then (some false) else (impl_IsKey.l0 k x0 x5 (wrap64 (x6 + 1))))) else (none)) else (none)) else ((impl_in.f (x0.size : Int) 1 12).bind fun t106 => (some t106))
def impl_IsKey.f (k : Nat) (a0 : ByteArray) : Option (Bool) := impl_IsKey.l0 k a0 (a0.size : Int) 0
theorem impl_IsKey.calls (k : Nat) (a0 : ByteArray) (r : Bool) (w : World) (h : impl_IsKey.f k a0 = some r) :
  Calls Try.prog 66 #[.string a0] w fun e w' => e = .returned (.bool r) ∧ Drawn0 w w' := by
 have H : (impl_IsKey.l0 k a0 (a0.size : Int) 0) = some r := h; clear h; have H' := am H; clear H
 go_enter Try.func66, Try.ntmps66
 go_wp2
 go_loopg [6] k (fun kq v6 w' => ∃ (x6_1 : Int), v6 = .int .i64 x6_1 ∧ Aside0 (impl_IsKey.l0 kq a0 (a0.size : Int) x6_1 = some r) ∧ Aside0 (kq ≤ k) ∧ Drawn0 w w')
 case atStart => exact ⟨(0), wZ, H', ⟨Nat.le_refl _⟩, by repeat (first | exact Drawn0.refl _ | apply Drawn0.step)⟩
 case round =>
  clear H'; obtain ⟨x6_1, rfl, HA, HK1, ⟨m1, rfl⟩⟩ := hrel; cases gk with
  | zero => exact absurd HA.out (by simp [impl_IsKey.l0])
  | succ k1 =>
   have H := HA.out; clear HA
   simp only [impl_IsKey.l0] at H
   by_cases c2 : x6_1 < (a0.size : Int)
   ·rw [if_pos c2] at H
    have c2b0 : decide (x6_1 < (a0.size : Int)) = true := decide_eq_true c2; clear c2
    by_cases c3 : 0 ≤ x6_1
    ·rw [if_pos c3] at H
     have c3b0 : decide (0 ≤ x6_1) = true := decide_eq_true c3; clear c3
     by_cases c4 : x6_1 < (a0.size : Int)
     ·rw [if_pos c4] at H
      have c4b0 : decide (x6_1 < (a0.size : Int)) = true := decide_eq_true c4; clear c4
      by_cases c6 : (bt a0 x6_1) < 33
      ·rw [if_pos c6] at H
       have c6b0 : decide ((bt a0 x6_1) < 33) = true := decide_eq_true c6; clear c6; obtain rfl := Option.some.inj H; have p5 : 0 ≤ (x6_1 : Int) := dT; have q5 : x6_1 < (a0.size : Int) := dT; have hx5 := bt_at a0 x6_1; replace p5 := eq_true p5; replace q5 := eq_true q5
       go_wp2
       go_ret
       exact ⟨by first | rfl | (simp; done) | (simp [*]; done), by repeat (first | exact Drawn0.refl _ | apply Drawn0.step)⟩
      ·rw [if_neg c6] at H
       have c6b0 : decide ((bt a0 x6_1) < 33) = false := decide_eq_false c6; clear c6
       by_cases c8 : (bt a0 x6_1) > 125
       ·rw [if_pos c8] at H
        have c8b0 : decide (125 < (bt a0 x6_1)) = true := decide_eq_true c8; clear c8; obtain rfl := Option.some.inj H; have p5 : 0 ≤ (x6_1 : Int) := dT; have q5 : x6_1 < (a0.size : Int) := dT; have hx5 := bt_at a0 x6_1; replace p5 := eq_true p5; replace q5 := eq_true q5; have p7 : 0 ≤ (x6_1 : Int) := dT; have q7 : x6_1 < (a0.size : Int) := dT; have hx7 := bt_at a0 x6_1; replace p7 := eq_true p7; replace q7 := eq_true q7
        go_wp2
        go_ret
        exact ⟨by first | rfl | (simp; done) | (simp [*]; done), by repeat (first | exact Drawn0.refl _ | apply Drawn0.step)⟩
       ·rw [if_neg c8] at H
        have c8b0 : decide (125 < (bt a0 x6_1)) = false := decide_eq_false c8; clear c8; have H' := am H; clear H; have p5 : 0 ≤ (x6_1 : Int) := dT; have q5 : x6_1 < (a0.size : Int) := dT; have hx5 := bt_at a0 x6_1; replace p5 := eq_true p5; replace q5 := eq_true q5; have p7 : 0 ≤ (x6_1 : Int) := dT; have q7 : x6_1 < (a0.size : Int) := dT; have hx7 := bt_at a0 x6_1; replace p7 := eq_true p7; replace q7 := eq_true q7
        go_wp2
        go_roundg k1
        case measure => have := HK1.out; omega
        case rel => exact ⟨(wrap64 (x6_1 + 1)), wZ, H', ⟨by have := HK1.out; omega⟩, by repeat (first | exact Drawn0.refl _ | apply Drawn0.step)⟩
     ·rw [if_neg c4] at H
      exact absurd H (by simp)
    ·rw [if_neg c3] at H
     exact absurd H (by simp)
   ·rw [if_neg c2] at H
    have c2b0 : decide (x6_1 < (a0.size : Int)) = false := decide_eq_false c2; clear c2; replace H := Option.bind_eq_some_iff.mp H; obtain ⟨t106, A90, H⟩ := H; (try dsimp -simprocs only at H); have A9 := am A90; clear A90; obtain rfl := Option.some.inj H
    go_wp2_with (first | ((with_reducible refine gate_callee (f := 112) rfl ?_); refine gL (some 22) Try.func112 #[.int .i64 (a0.size : Int), .int .i64 1, .int .i64 12] ?_; (with_reducible refine (impl_in.calls (a0.size : Int) 1 12 t106 _ A9.out).mono ?_); rintro e w' ⟨rfl, ⟨nd, rfl⟩⟩; refine ⟨_, rfl, ?_⟩))
    go_ret
    exact ⟨by first | rfl | (simp; done) | (simp [*]; done), by repeat (first | exact Drawn0.refl _ | apply Drawn0.step)⟩

def impl_AreKeys.l0 : Nat → List ByteArray → List ByteArray → Int → Int → Option (Bool)
 | 0, _, _, _, _ => none
 | k + 1, x0, x5, x6, x7 => if x7 < x6 then (if 0 ≤ x7 then (if x7 < (x5.length : Int) then ((impl_IsKey.f k (rdOf ByteArray.empty x5 x7)).bind fun t108 => (if t108 = true then (if x7 > 0 then (if 0 ≤ (wrap64 (x7 - 1)) then (if (wrap64 (x7 - 1)) < (x0.length : Int) then (if ((Op.bytesLess ((rdOf ByteArray.empty x0 (wrap64 (x7 - 1))).toList) ((rdOf ByteArray.empty x5 x7).toList)) = true) then (impl_AreKeys.l0 k x0 x5 x6 (wrap64 (x7 + 1))) else (some false)) else (none)) else (none)) else (impl_AreKeys.l0 k x0 x5 x6 (wrap64 (x7 + 1)))) else (some false))) else (none)) else (none)) else (some (decide ((x0.length : Int) ≤ 40)))
def impl_AreKeys.f (k : Nat) (l0 : List ByteArray) : Option (Bool) := impl_AreKeys.l0 k l0 l0 (l0.length : Int) 0
theorem impl_AreKeys.calls (k : Nat) (A0 : Option Addr) (c0 : Nat) (l0 : List ByteArray) (r : Bool) (w : World) (hr0 : Kd.C Kd.string w A0 l0.length l0) (hc0 : l0.length ≤ c0) (h : impl_AreKeys.f k l0 = some r) :
  Calls Try.prog 72 #[.slice A0 l0.length c0] w fun e w' => e = .returned (.bool r) ∧ Drawn0 w w' := by
 have HR0 := am hr0; have HC0 := am hc0; clear hr0 hc0; have H : (impl_AreKeys.l0 k l0 l0 (l0.length : Int) 0) = some r := h; clear h; have H' := am H; clear H
 go_enter Try.func72, Try.ntmps72
 go_wp2
 go_loopg [7] k (fun kq v7 w' => ∃ (x7_1 : Int), v7 = .int .i64 x7_1 ∧ Aside0 (impl_AreKeys.l0 kq l0 l0 (l0.length : Int) x7_1 = some r) ∧ Aside0 (kq ≤ k) ∧ Drawn0 w w')
 case atStart => exact ⟨(0), wZ, H', ⟨Nat.le_refl _⟩, by repeat (first | exact Drawn0.refl _ | apply Drawn0.step)⟩
 case round =>
  clear H'; obtain ⟨x7_1, rfl, HA, HK1, ⟨m1, rfl⟩⟩ := hrel; cases gk with
  | zero => exact absurd HA.out (by simp [impl_AreKeys.l0])
  | succ k1 =>
   have H := HA.out; clear HA
   simp only [impl_AreKeys.l0] at H
   by_cases c2 : x7_1 < (l0.length : Int)
   ·rw [if_pos c2] at H
    have c2b0 : decide (x7_1 < (l0.length : Int)) = true := decide_eq_true c2; clear c2
    by_cases c3 : 0 ≤ x7_1
    ·rw [if_pos c3] at H
     have c3b0 : decide (0 ≤ x7_1) = true := decide_eq_true c3; clear c3
     by_cases c4 : x7_1 < (l0.length : Int)
     ·rw [if_pos c4] at H
      have c4b0 : decide (x7_1 < (l0.length : Int)) = true := decide_eq_true c4; clear c4; replace H := Option.bind_eq_some_iff.mp H; obtain ⟨t108, A50, H⟩ := H; (try dsimp -simprocs only at H); have A5 := am A50; clear A50
      by_cases c6 : t108 = true
      ·subst c6
       rw [if_pos rfl] at H
       by_cases c7 : x7_1 > 0
       ·rw [if_pos c7] at H
        have c7b0 : decide (0 < x7_1) = true := decide_eq_true c7; clear c7; obtain ⟨ji8, hji8⟩ : ∃ j_ : Int, (wrap64 (x7_1 - 1)) = j_ := ⟨_, rfl⟩
        replace H : (if 0 ≤ (ji8) then (if (ji8) < (l0.length : Int) then (if ((Op.bytesLess ((rdOf ByteArray.empty l0 (ji8)).toList) ((rdOf ByteArray.empty l0 x7_1).toList)) = true) then (impl_AreKeys.l0 k1 l0 l0 (l0.length : Int) (wrap64 (x7_1 + 1))) else (some false)) else (none)) else (none)) = some r := by first | (rw [hji8] at H; exact H) | (simp only [hji8] at H ⊢; exact H)
        (try rw [hji8] at A5)
        have hji8w : (IntKind.i64.wrap (x7_1 - 1)) = ji8 := (i64_w _).trans hji8
        by_cases c9 : 0 ≤ (ji8)
        ·rw [if_pos c9] at H
         have c9b0 : decide (0 ≤ (ji8)) = true := decide_eq_true c9; clear c9
         by_cases c10 : (ji8) < (l0.length : Int)
         ·rw [if_pos c10] at H
          have c10b0 : decide ((ji8) < (l0.length : Int)) = true := decide_eq_true c10; clear c10
          by_cases c11 : ((Op.bytesLess ((rdOf ByteArray.empty l0 (ji8)).toList) ((rdOf ByteArray.empty l0 x7_1).toList)) = true)
          ·rw [if_pos c11] at H
           have c11b0 : (Op.bytesLess ((rdOf ByteArray.empty l0 (ji8)).toList) ((rdOf ByteArray.empty l0 x7_1).toList)) = true := c11; clear c11; have H' := am H; clear H; obtain ⟨ad107, e107, hx107_0⟩ := Kd.at_string HR0.out x7_1 dT dT; cases e107; have p107 := eT (0 ≤ (x7_1 : Int)); have q107 := eT (x7_1 < (l0.length : Int))
           go_wp2_with (first | ((with_reducible refine gate_callee (f := 66) rfl ?_); refine gL (some 13) Try.func66 #[.string (rdOf ByteArray.empty l0 x7_1)] ?_; (with_reducible refine (impl_IsKey.calls k1 (rdOf ByteArray.empty l0 x7_1) true _ A5.out).mono ?_); rintro e w' ⟨rfl, ⟨nd, rfl⟩⟩; refine ⟨_, rfl, ?_⟩; have p109 : 0 ≤ ((ji8) : Int) := dT; have q109 : (ji8) < (l0.length : Int) := dT; obtain ⟨ad109, e109, hx109_0⟩ := Kd.at_string HR0.out (ji8) p109 q109; obtain rfl : ad107 = ad109 := (by injection e109); replace p109 := eq_true p109; replace q109 := eq_true q109))
           go_roundg k1
           case measure => have := HK1.out; omega
           case rel => exact ⟨(wrap64 (x7_1 + 1)), wZ, H', ⟨by have := HK1.out; omega⟩, by repeat (first | exact Drawn0.refl _ | apply Drawn0.step)⟩
          ·rw [if_neg c11] at H
           have c11b0 : (Op.bytesLess ((rdOf ByteArray.empty l0 (ji8)).toList) ((rdOf ByteArray.empty l0 x7_1).toList)) = false := by simpa using c11
           clear c11; obtain rfl := Option.some.inj H; obtain ⟨ad107, e107, hx107_0⟩ := Kd.at_string HR0.out x7_1 dT dT; cases e107; have p107 := eT (0 ≤ (x7_1 : Int)); have q107 := eT (x7_1 < (l0.length : Int))
           go_wp2_with (first | ((with_reducible refine gate_callee (f := 66) rfl ?_); refine gL (some 13) Try.func66 #[.string (rdOf ByteArray.empty l0 x7_1)] ?_; (with_reducible refine (impl_IsKey.calls k1 (rdOf ByteArray.empty l0 x7_1) true _ A5.out).mono ?_); rintro e w' ⟨rfl, ⟨nd, rfl⟩⟩; refine ⟨_, rfl, ?_⟩; have p109 : 0 ≤ ((ji8) : Int) := dT; have q109 : (ji8) < (l0.length : Int) := dT; obtain ⟨ad109, e109, hx109_0⟩ := Kd.at_string HR0.out (ji8) p109 q109; obtain rfl : ad107 = ad109 := (by injection e109); replace p109 := eq_true p109; replace q109 := eq_true q109))
           go_ret
           exact ⟨by first | rfl | (simp; done) | (simp only [← hji8] <;> (first | rfl | simp)) | (simp [*]; done), by repeat (first | exact Drawn0.refl _ | apply Drawn0.step)⟩
         ·rw [if_neg c10] at H
          exact absurd H (by simp)
        ·rw [if_neg c9] at H
         exact absurd H (by simp)
       ·rw [if_neg c7] at H
        have c7b0 : decide (0 < x7_1) = false := decide_eq_false c7; clear c7; have H' := am H; clear H; obtain ⟨ad107, e107, hx107_0⟩ := Kd.at_string HR0.out x7_1 dT dT; cases e107; have p107 := eT (0 ≤ (x7_1 : Int)); have q107 := eT (x7_1 < (l0.length : Int))
        go_wp2_with (first | ((with_reducible refine gate_callee (f := 66) rfl ?_); refine gL (some 13) Try.func66 #[.string (rdOf ByteArray.empty l0 x7_1)] ?_; (with_reducible refine (impl_IsKey.calls k1 (rdOf ByteArray.empty l0 x7_1) true _ A5.out).mono ?_); rintro e w' ⟨rfl, ⟨nd, rfl⟩⟩; refine ⟨_, rfl, ?_⟩))
        go_roundg k1
        case measure => have := HK1.out; omega
        case rel => exact ⟨(wrap64 (x7_1 + 1)), wZ, H', ⟨by have := HK1.out; omega⟩, by repeat (first | exact Drawn0.refl _ | apply Drawn0.step)⟩
      ·replace c6 := Bool.eq_false_iff.mpr c6
       subst c6
       rw [if_neg (show ¬ (false = true) by decide)] at H; obtain rfl := Option.some.inj H; obtain ⟨ad107, e107, hx107_0⟩ := Kd.at_string HR0.out x7_1 dT dT; cases e107; have p107 := eT (0 ≤ (x7_1 : Int)); have q107 := eT (x7_1 < (l0.length : Int))
       go_wp2_with (first | ((with_reducible refine gate_callee (f := 66) rfl ?_); refine gL (some 13) Try.func66 #[.string (rdOf ByteArray.empty l0 x7_1)] ?_; (with_reducible refine (impl_IsKey.calls k1 (rdOf ByteArray.empty l0 x7_1) false _ A5.out).mono ?_); rintro e w' ⟨rfl, ⟨nd, rfl⟩⟩; refine ⟨_, rfl, ?_⟩))
       go_ret
       exact ⟨by first | rfl | (simp; done) | (simp [*]; done), by repeat (first | exact Drawn0.refl _ | apply Drawn0.step)⟩
     ·rw [if_neg c4] at H
      exact absurd H (by simp)
    ·rw [if_neg c3] at H
     exact absurd H (by simp)
   ·rw [if_neg c2] at H
    have c2b0 : decide (x7_1 < (l0.length : Int)) = false := decide_eq_false c2; clear c2; obtain rfl := Option.some.inj H
    go_wp2
    go_ret
    exact ⟨by first | rfl | (simp; done) | (simp [*]; done), by repeat (first | exact Drawn0.refl _ | apply Drawn0.step)⟩

mutual
def impl_pairs.j0 : Nat → Int → List ByteArray → Int → Bool → Option ((List (List Int)) × Bool)
 | 0, _, _, _, _ => none
 | k + 1, x0, x1, x2, x25 => if x25 = true then (some (([] : List (List Int)), false)) else (impl_pairs.l0 k x0 x2 (([] : List (List Int))) x1 (x1.length : Int) 0)
def impl_pairs.l0 : Nat → Int → Int → List (List Int) → List ByteArray → Int → Int → Option ((List (List Int)) × Bool)
 | 0, _, _, _, _, _, _ => none
 | k + 1, x0, x2, x8, x27, x28, x29 => if x29 < x28 then (if 0 ≤ x29 then (if x29 < (x27.length : Int) then ((impl_cellsOf.f k x0 (rdOf ByteArray.empty x27 x29) x2).bind fun bt117 => (if x8.length < 5864062014805 then (impl_pairs.l0 k x0 x2 (x8 ++ [(([bt117.1, bt117.2] : List Int))]) x27 x28 (wrap64 (x29 + 1))) else (none))) else (none)) else (none)) else (some (x8, true))
end
def impl_pairs.f (k : Nat) (a0 : Int) (l1 : List ByteArray) (a2 : Int) : Option ((List (List Int)) × Bool) := (impl_isSeed.f a0).bind fun t110 => (if t110 = true then ((impl_AreKeys.f k l1).bind fun t111 => (if t111 = true then ((impl_cellsOk.f a2).bind fun t112 => (impl_pairs.j0 k a0 l1 a2 (!t112))) else (impl_pairs.j0 k a0 l1 a2 true))) else (impl_pairs.j0 k a0 l1 a2 true))
theorem impl_pairs.calls (k : Nat) (a0 : Int) (A1 : Option Addr) (c1 : Nat) (l1 : List ByteArray) (a2 : Int) (r1 : List (List Int)) (r2 : Bool) (w : World) (hr1 : Kd.C Kd.string w A1 l1.length l1) (hc1 : l1.length ≤ c1) (h : impl_pairs.f k a0 l1 a2 = some (r1, r2)) :
  Calls Try.prog 60 #[.int .i64 a0, .slice A1 l1.length c1, .int .i64 a2] w fun e w' => ∃ v0_ : Value, e = .returned (.tuple #[v0_, .bool r2]) ∧ Kd.S (Kd.slice 3 (Kd.int .i64)) 31 w' w.heap.size (fun _ => True) v0_ r1 ∧ Below w.heap.size w w' := by
 have HR1 := am hr1; have HC1 := am hc1; clear hr1 hc1; have HB := am (Below.refl w.heap.size w); have H : ((impl_isSeed.f a0).bind fun t110 => (if t110 = true then ((impl_AreKeys.f k l1).bind fun t111 => (if t111 = true then ((impl_cellsOk.f a2).bind fun t112 => (impl_pairs.j0 k a0 l1 a2 (!t112))) else (impl_pairs.j0 k a0 l1 a2 true))) else (impl_pairs.j0 k a0 l1 a2 true))) = some (r1, r2) := h; clear h; have HC4 := am H; clear H
 go_enter Try.func60, Try.ntmps60
 go_upto_region 1 with (fail)
 go_cut [25] (fun v25 wc => ∃ (kq : Nat) (x25_3 : Bool), v25 = .bool x25_3 ∧ Aside0 (impl_pairs.j0 kq a0 l1 a2 x25_3 = some (r1, r2)) ∧ Aside0 (kq ≤ k) ∧ Aside0 (Below w.heap.size w wc))
 case first =>
  have H := HC4.out; clear HC4; replace H := Option.bind_eq_some_iff.mp H; obtain ⟨t110, A50, H⟩ := H; (try dsimp -simprocs only at H); have A5 := am A50; clear A50
  by_cases c6 : t110 = true
  ·subst c6
   rw [if_pos rfl] at H; replace H := Option.bind_eq_some_iff.mp H; obtain ⟨t111, A70, H⟩ := H; (try dsimp -simprocs only at H); have A7 := am A70; clear A70
   by_cases c8 : t111 = true
   ·subst c8
    rw [if_pos rfl] at H; replace H := Option.bind_eq_some_iff.mp H; obtain ⟨t112, A90, H⟩ := H; (try dsimp -simprocs only at H); have A9 := am A90; clear A90; have H' := am H; clear H
    go_wp2_with (first | ((with_reducible refine gate_callee (f := 65) rfl ?_); refine gL (some 14) Try.func65 #[.int .i64 a0] ?_; (with_reducible refine (impl_isSeed.calls a0 true _ A5.out).mono ?_); rintro e w' ⟨rfl, ⟨nd, rfl⟩⟩; refine ⟨_, rfl, ?_⟩) | (go_at_call 72; (with_reducible refine (impl_AreKeys.calls k _ _ l1 true _ ?side1 ?side2 A7.out).mono ?_); (case side1 => exact Kd.C_below HR1.out (Bz HB.out)); (case side2 => exact HC1.out); rintro e w' ⟨rfl, ⟨nd, rfl⟩⟩) | (go_at_call 67; (with_reducible refine (impl_cellsOk.calls a2 t112 _ A9.out).mono ?_); rintro e w' ⟨rfl, ⟨nd, rfl⟩⟩))
    go_meet
    case rel => exact ⟨_, (!t112), wZ, H', ⟨by first | omega | exact Nat.le_refl _⟩, ⟨Bz HB.out⟩⟩
   ·replace c8 := Bool.eq_false_iff.mpr c8
    subst c8
    rw [if_neg (show ¬ (false = true) by decide)] at H; have H' := am H; clear H
    go_wp2_with (first | ((with_reducible refine gate_callee (f := 65) rfl ?_); refine gL (some 14) Try.func65 #[.int .i64 a0] ?_; (with_reducible refine (impl_isSeed.calls a0 true _ A5.out).mono ?_); rintro e w' ⟨rfl, ⟨nd, rfl⟩⟩; refine ⟨_, rfl, ?_⟩) | (go_at_call 72; (with_reducible refine (impl_AreKeys.calls k _ _ l1 false _ ?side1 ?side2 A7.out).mono ?_); (case side1 => exact Kd.C_below HR1.out (Bz HB.out)); (case side2 => exact HC1.out); rintro e w' ⟨rfl, ⟨nd, rfl⟩⟩))
    go_meet
    case rel => exact ⟨_, (true), wZ, H', ⟨by first | omega | exact Nat.le_refl _⟩, ⟨Bz HB.out⟩⟩
  ·replace c6 := Bool.eq_false_iff.mpr c6
   subst c6
   rw [if_neg (show ¬ (false = true) by decide)] at H; have H' := am H; clear H
   go_wp2_with (first | ((with_reducible refine gate_callee (f := 65) rfl ?_); refine gL (some 14) Try.func65 #[.int .i64 a0] ?_; (with_reducible refine (impl_isSeed.calls a0 false _ A5.out).mono ?_); rintro e w' ⟨rfl, ⟨nd, rfl⟩⟩; refine ⟨_, rfl, ?_⟩))
   go_meet
   case rel => exact ⟨_, (true), wZ, H', ⟨by first | omega | exact Nat.le_refl _⟩, ⟨Bz HB.out⟩⟩
 case rest =>
  clear HC4
  try clear c1
  try clear p2
  try clear c6
  try clear c8
  obtain ⟨kq, x25_3, rfl, HA, HJ3, HB⟩ := hcut; cases kq with
  | zero => exact absurd HA.out (by simp [impl_pairs.j0])
  | succ kj3 =>
   have H := HA.out; clear HA
   simp only [impl_pairs.j0] at H
   by_cases c10 : x25_3 = true
   ·subst c10
    rw [if_pos rfl] at H
    simp only [Option.some.injEq, Prod.mk.injEq] at H
    obtain ⟨rfl, rfl⟩ := H
    go_wp2
    go_ret2
    exact ⟨_, eZ, by first | exact Kd.S_nil _ _ _ _ _ | exact Kd.N_nil _ _ _ _ _ | exact Kd.V_nil _ _ _ _ _ | exact Kd.Q_nil _ _ _ _ _ | exact Kd.R_nil _ _ _ _ _, Bz HB.out⟩
   ·replace c10 := Bool.eq_false_iff.mpr c10
    subst c10
    rw [if_neg (show ¬ (false = true) by decide)] at H; obtain ⟨y113, hy113⟩ : ∃ y_ : List (List Int), y_ = (([] : List (List Int))) := ⟨_, rfl⟩
    replace H : (impl_pairs.l0 kj3 a0 a2 y113 l1 (l1.length : Int) 0) = some (r1, r2) := by first | (rw [hy113]; with_reducible exact H) | (have H2_ := (Option.bind_some _ _).symm.trans H; rw [hy113]; with_reducible exact H2_) | (have H2_ := (Option.bind_some _ _).symm.trans H; with_reducible exact H2_) | with_reducible exact H | (rw [hy113]; exact H) | exact H
    have Ny113 := am hy113; clear hy113; have H' := am H; clear H
    go_wp2_with (first | ((with_reducible refine gate_dst (N := 26) rfl ?_); refine Kd.S_lit (Kd.slice 3 (Kd.int .i64)) _ 31 ?hg (N := 26) ?hd (xs := ([] : List (List Int))) (inner := []) (ok := fun _ => True) (okp := fun _ => True) ?hr ?hp (fun _ hk => hk) trivial (Below.refl _ _) (Nat.le_refl _) (by simp) ?_; (case hd => rfl); (case hg => rfl); (case hr => first | (go_simp; done) | (go_simp; rfl)); (case hp => exact (Reps.none _ _)); intro v114 w11 ho12 hb hg_ hnew_; clear hg_ hnew_; (first | rw [← Ny113.out] at ho12 | (simp only [Int.reduceToNat] at ho12; rw [← Ny113.out] at ho12)); have n0_ := am (Kd.S_lower ho12 (below_size (Bz HB.out))); have n1_ := Bb HB hb; clear HB; revert n0_ n1_; intro HO115 HB; clear hb ho12))
    (try simp only [aP])
    go_loopg [8, 29] kj3 (fun kq v8 v29 w' => ∃ (x8_2 : List (List Int)) (x29_2 : Int), v29 = .int .i64 x29_2 ∧ Aside0 (impl_pairs.l0 kq a0 a2 x8_2 l1 (l1.length : Int) x29_2 = some (r1, r2)) ∧ Aside0 (kq ≤ kj3) ∧ Aside0 (Kd.S (Kd.slice 3 (Kd.int .i64)) 31 w' w.heap.size (fun _ => True) v8 x8_2) ∧ Aside0 (Below w.heap.size w w'))
    case atStart => exact ⟨(y113), (0), wZ, H', ⟨Nat.le_refl _⟩, ⟨by (with_reducible repeat (first | apply Kd.S_alloc | apply Kd.S_drewN | apply Kd.S_drew)); exact HO115.out⟩, ⟨Bz HB.out⟩⟩
    case round =>
     clear H'
     try clear c1
     try clear p2
     try clear c6
     try clear c8
     try clear c10
     try clear p2
     obtain ⟨x8_2, x29_2, rfl, HA, HK2, HO_8, HB⟩ := hrel; cases gk with
     | zero => exact absurd HA.out (by simp [impl_pairs.l0])
     | succ k2 =>
      have H := HA.out; clear HA
      simp only [impl_pairs.l0] at H
      by_cases c13 : x29_2 < (l1.length : Int)
      ·rw [if_pos c13] at H
       have c13b0 : decide (x29_2 < (l1.length : Int)) = true := decide_eq_true c13; clear c13
       by_cases c14 : 0 ≤ x29_2
       ·rw [if_pos c14] at H
        have c14b0 : decide (0 ≤ x29_2) = true := decide_eq_true c14; clear c14
        by_cases c15 : x29_2 < (l1.length : Int)
        ·rw [if_pos c15] at H
         have c15b0 : decide (x29_2 < (l1.length : Int)) = true := decide_eq_true c15; clear c15; replace H := Option.bind_eq_some_iff.mp H; obtain ⟨⟨t117, t118⟩, A160, H⟩ := H; (try dsimp -simprocs only at H); have A16 := am A160; clear A160; obtain ⟨y119, hy119⟩ : ∃ y_ : List Int, y_ = (([t117, t118] : List Int)) := ⟨_, rfl⟩
         replace H : (if x8_2.length < 5864062014805 then (impl_pairs.l0 k2 a0 a2 (x8_2 ++ [y119]) l1 (l1.length : Int) (wrap64 (x29_2 + 1))) else (none)) = some (r1, r2) := by first | (rw [hy119]; with_reducible exact H) | (have H2_ := (Option.bind_some _ _).symm.trans H; rw [hy119]; with_reducible exact H2_) | (have H2_ := (Option.bind_some _ _).symm.trans H; with_reducible exact H2_) | with_reducible exact H | (rw [hy119]; exact H) | exact H
         have Ny119 := am hy119; clear hy119
         by_cases c17 : x8_2.length < 5864062014805
         ·rw [if_pos c17] at H
          have LMc17 := am c17; clear c17; obtain ⟨y122, hy122⟩ : ∃ y_ : List (List Int), y_ = (x8_2 ++ [y119]) := ⟨_, rfl⟩
          replace H : (impl_pairs.l0 k2 a0 a2 y122 l1 (l1.length : Int) (wrap64 (x29_2 + 1))) = some (r1, r2) := by first | (rw [hy122]; with_reducible exact H) | (have H2_ := (Option.bind_some _ _).symm.trans H; rw [hy122]; with_reducible exact H2_) | (have H2_ := (Option.bind_some _ _).symm.trans H; with_reducible exact H2_) | with_reducible exact H | (rw [hy122]; exact H) | exact H
          have Ny122 := am hy122; clear hy122; have H' := am H; clear H; have p116 : 0 ≤ (x29_2 : Int) := dT; have q116 : x29_2 < (l1.length : Int) := dT; obtain ⟨ad116, e116, hx116_0⟩ := Kd.at_string HR1.out x29_2 p116 q116; cases e116; replace hx116_0 := (HB.out.cell (World.block_lt_of_cell? w _ hx116_0)).trans hx116_0; replace p116 := eq_true p116; replace q116 := eq_true q116
          go_wp2_with (first | ((with_reducible refine gate_callee (f := 68) rfl ?_); refine gL (some 37) Try.func68 #[.int .i64 a0, .string (rdOf ByteArray.empty l1 x29_2), .int .i64 a2] ?_; (with_reducible refine (impl_cellsOf.calls k2 a0 (rdOf ByteArray.empty l1 x29_2) a2 t117 t118 _ A16.out).mono ?_); rintro e w' ⟨rfl, ⟨nd, rfl⟩⟩; refine ⟨_, rfl, ?_⟩) | ((with_reducible refine gate_dst (N := 43) rfl ?_); refine Kd.R_lit (Kd.int .i64) _ 3 ?hg (N := 43) ?hd (xs := ([t117, t118] : List Int)) (inner := [.int .i64 t117, .int .i64 t118]) (ok := fun _ => True) (okp := fun _ => True) ?hr ?hp (fun _ hk => hk) trivial (Below.refl _ _) (Nat.le_refl _) (by simp) ?_; (case hd => rfl); (case hg => rfl); (case hr => first | (go_simp; done) | (go_simp; rfl)); (case hp => exact (Reps.one (show Kd.M (Kd.int .i64) _ _ _ t117 [.int .i64 t117] from rfl) (Reps.one (show Kd.M (Kd.int .i64) _ _ _ t118 [.int .i64 t118] from rfl) (Reps.none _ _)))); intro v120 w18 ho19 hb hg_ hnew_; clear hg_ hnew_; (first | rw [← Ny119.out] at ho19 | (simp only [Int.reduceToNat] at ho19; rw [← Ny119.out] at ho19)); have n0_ := am (Kd.S_elder' (by (with_reducible repeat (first | apply Kd.S_alloc | apply Kd.S_drewN | apply Kd.S_drew)); exact HO_8.out) (Kd.R_base ho19) hb); have n1_ := Rl ho19 HB; have n2_ := Bb HB hb; clear HO_8 HB; revert n0_ n1_ n2_; intro HO_8 HO121 HB; clear hb ho19; obtain ⟨Ao21, co21, eo21⟩ := Kd.R_slice HO121.out; subst eo21) | ((with_reducible refine gate_builtin (b := .append) (xs := #[.tmp 40, .tmp 44]) rfl ?_); at_builtin; refine Kd.S_append (Kd.slice 3 (Kd.int .i64)) (w0 := w) w.heap.size rfl (.tmp 40) (.tmp 44) 27 31 (.slice none 0 0) 24 rfl Try.underlying27 info31 rfl (by decide) (by omega) u8 x8_2 y119 [.slice Ao21 y119.length co21] (fun _ => True) (fun k_ => some k_ = (.slice Ao21 y119.length co21 : Value).ownBlock) rfl rfl ?aP (fun k_ hk_ => ((Kd.R_mono (ok' := fun k_ => ((fun _ => True)) k_ ∧ some k_ ≠ (u8 : Value).ownBlock) (Kd.R_apart' (HO121.out) (Kd.S_typed HO_8.out) (by decide)) (fun k_ hk => ⟨trivial, hk.2⟩))).1 k_ hk_.symm) ?aF ?aO ?aB ?aS ?aL ?_; (case aP => exact Kd.M_row (Kd.R_mono (Kd.R_tight rfl (Kd.R_mono (ok' := fun k_ => ((fun _ => True)) k_ ∧ some k_ ≠ (u8 : Value).ownBlock) (Kd.R_apart' (HO121.out) (Kd.S_typed HO_8.out) (by decide)) (fun k_ hk => ⟨trivial, hk.2⟩))) (fun _ h_ => h_))); (case aB => exact (Bz HB.out)); (case aF => exact (fun _ _ => trivial)); (case aO => exact (by (with_reducible repeat (first | apply Kd.S_alloc | apply Kd.S_drewN | apply Kd.S_drew)); exact Kd.S_mono HO_8.out (fun k_ hk => ⟨trivial, fun e_ => hk.2 e_⟩))); (case aS => exact (below_size (Bz HB.out))); (case aL => have := LMc17.out; omega); intro v123 w20 ho hb hg hat; rw [← Ny122.out] at ho; have n0_ := am (hb); have n1_ := am (ho); clear HB HO_8 HO121; revert n0_ n1_; intro HB HO124; clear ho hb hg hat))
          go_roundg k2
          case measure => have := HJ3.out; have := HK2.out; omega
          case rel => exact ⟨(y122), (wrap64 (x29_2 + 1)), wZ, H', ⟨by have := HJ3.out; have := HK2.out; omega⟩, ⟨by (with_reducible repeat (first | apply Kd.S_alloc | apply Kd.S_drewN | apply Kd.S_drew)); exact HO124.out⟩, ⟨Bz HB.out⟩⟩
         ·rw [if_neg c17] at H
          exact absurd H (by simp)
        ·rw [if_neg c15] at H
         exact absurd H (by simp)
       ·rw [if_neg c14] at H
        exact absurd H (by simp)
      ·rw [if_neg c13] at H
       have c13b0 : decide (x29_2 < (l1.length : Int)) = false := decide_eq_false c13; clear c13
       simp only [Option.some.injEq, Prod.mk.injEq] at H
       obtain ⟨rfl, rfl⟩ := H
       go_wp2
       go_ret2
       exact ⟨_, eZ, by (with_reducible repeat (first | apply Kd.S_alloc | apply Kd.S_drewN | apply Kd.S_drew)); exact HO_8.out, Bz HB.out⟩

-- NOT PRINTED: function 148 (slices_IndexFunc_int_int_148)

-- NOT PRINTED: function 120 (slices_ContainsFunc_int_int_120)

def slices_Index_int_int.l0 : Nat → List Int → Int → Int → Int → Option (Int)
 | 0, _, _, _, _ => none
 | k + 1, x0, x1, x7, x8 => if x8 < x7 then (if 0 ≤ x8 then (if x8 < (x0.length : Int) then (if x1 = (rd x0 x8) then (some x8) else (slices_Index_int_int.l0 k x0 x1 x7 (wrap64 (x8 + 1)))) else (none)) else (none)) else (some (-1))
def slices_Index_int_int.f (k : Nat) (l0 : List Int) (a1 : Int) : Option (Int) := slices_Index_int_int.l0 k l0 a1 (l0.length : Int) 0
theorem slices_Index_int_int.calls (k : Nat) (A0 : Option Addr) (c0 : Nat) (l0 : List Int) (a1 : Int) (r : Int) (w : World) (hr0 : Kd.C (Kd.int .i64) w A0 l0.length l0) (hc0 : l0.length ≤ c0) (h : slices_Index_int_int.f k l0 a1 = some r) :
  Calls Try.prog 133 #[.slice A0 l0.length c0, .int .i64 a1] w fun e w' => e = .returned (.int .i64 r) ∧ Drawn0 w w' := by
 have HR0 := am hr0; have HC0 := am hc0; clear hr0 hc0; have H : (slices_Index_int_int.l0 k l0 a1 (l0.length : Int) 0) = some r := h; clear h; have H' := am H; clear H
 go_enter Try.func133, Try.ntmps133
 go_wp2
 go_loopg [8] k (fun kq v8 w' => ∃ (x8_1 : Int), v8 = .int .i64 x8_1 ∧ Aside0 (slices_Index_int_int.l0 kq l0 a1 (l0.length : Int) x8_1 = some r) ∧ Aside0 (kq ≤ k) ∧ Drawn0 w w')
 case atStart => exact ⟨(0), wZ, H', ⟨Nat.le_refl _⟩, by repeat (first | exact Drawn0.refl _ | apply Drawn0.step)⟩
 case round =>
  clear H'
  try clear c1
  try clear p2
  obtain ⟨x8_1, rfl, HA, HK1, ⟨m1, rfl⟩⟩ := hrel; cases gk with
  | zero => exact absurd HA.out (by simp [slices_Index_int_int.l0])
  | succ k1 =>
   have H := HA.out; clear HA
   simp only [slices_Index_int_int.l0] at H
   by_cases c3 : x8_1 < (l0.length : Int)
   ·rw [if_pos c3] at H
    have c3b0 : decide (x8_1 < (l0.length : Int)) = true := decide_eq_true c3; clear c3
    by_cases c4 : 0 ≤ x8_1
    ·rw [if_pos c4] at H
     have c4b0 : decide (0 ≤ x8_1) = true := decide_eq_true c4; clear c4
     by_cases c5 : x8_1 < (l0.length : Int)
     ·rw [if_pos c5] at H
      have c5b0 : decide (x8_1 < (l0.length : Int)) = true := decide_eq_true c5; clear c5
      by_cases c6 : a1 = (rd l0 x8_1)
      ·rw [if_pos c6] at H
       have c6b0 : (a1 == (rd l0 x8_1)) = true := beq_iff_eq.mpr c6; have c6b1 : (a1 != (rd l0 x8_1)) = false := bne_eq_false_iff_eq.mpr c6; clear c6; obtain rfl := Option.some.inj H; obtain ⟨ad125, e125, hx125_0⟩ := Kd.at_int HR0.out x8_1 dT dT; cases e125; have p125 := eT (0 ≤ (x8_1 : Int)); have q125 := eT (x8_1 < (l0.length : Int))
       go_wp2
       go_ret
       exact ⟨by first | rfl | (simp; done) | (simp [*]; done), by repeat (first | exact Drawn0.refl _ | apply Drawn0.step)⟩
      ·rw [if_neg c6] at H
       have c6b0 : (a1 == (rd l0 x8_1)) = false := beq_eq_false_iff_ne.mpr c6; have c6b1 : (a1 != (rd l0 x8_1)) = true := bne_iff_ne.mpr c6; have H' := am H; clear H; obtain ⟨ad125, e125, hx125_0⟩ := Kd.at_int HR0.out x8_1 dT dT; cases e125; have p125 := eT (0 ≤ (x8_1 : Int)); have q125 := eT (x8_1 < (l0.length : Int))
       go_wp2
       go_roundg k1
       case measure => have := HK1.out; omega
       case rel => exact ⟨(wrap64 (x8_1 + 1)), wZ, H', ⟨by have := HK1.out; omega⟩, by repeat (first | exact Drawn0.refl _ | apply Drawn0.step)⟩
     ·rw [if_neg c5] at H
      exact absurd H (by simp)
    ·rw [if_neg c4] at H
     exact absurd H (by simp)
   ·rw [if_neg c3] at H
    have c3b0 : decide (x8_1 < (l0.length : Int)) = false := decide_eq_false c3; clear c3; obtain rfl := Option.some.inj H
    go_wp2
    go_ret
    exact ⟨by first | rfl | (simp; done) | (simp [*]; done), by repeat (first | exact Drawn0.refl _ | apply Drawn0.step)⟩

def slices_Contains_int_int.f (k : Nat) (l0 : List Int) (a1 : Int) : Option (Bool) := (slices_Index_int_int.f k l0 a1).bind fun t126 => (some (decide (t126 ≥ 0)))
theorem slices_Contains_int_int.calls (k : Nat) (A0 : Option Addr) (c0 : Nat) (l0 : List Int) (a1 : Int) (r : Bool) (w : World) (hr0 : Kd.C (Kd.int .i64) w A0 l0.length l0) (hc0 : l0.length ≤ c0) (h : slices_Contains_int_int.f k l0 a1 = some r) :
  Calls Try.prog 88 #[.slice A0 l0.length c0, .int .i64 a1] w fun e w' => e = .returned (.bool r) ∧ Drawn0 w w' := by
 have HR0 := am hr0; have HC0 := am hc0; clear hr0 hc0; have H : ((slices_Index_int_int.f k l0 a1).bind fun t126 => (some (decide (t126 ≥ 0)))) = some r := h; clear h; replace H := Option.bind_eq_some_iff.mp H; obtain ⟨t126, A30, H⟩ := H; (try dsimp -simprocs only at H); have A3 := am A30; clear A30; obtain rfl := Option.some.inj H
 go_enter Try.func88, Try.ntmps88
 go_wp2_with (first | ((with_reducible refine gate_callee (f := 133) rfl ?_); refine gL (some 7) Try.func133 #[.slice A0 l0.length c0, .int .i64 a1] ?_; (with_reducible refine (slices_Index_int_int.calls k _ _ l0 a1 t126 _ ?side1 ?side2 A3.out).mono ?_); (case side1 => exact Cz HR0.out); (case side2 => exact HC0.out); rintro e w' ⟨rfl, ⟨nd, rfl⟩⟩; refine ⟨_, rfl, ?_⟩))
 go_ret
 exact ⟨by first | rfl | (simp; done) | (simp [*]; done), by repeat (first | exact Drawn0.refl _ | apply Drawn0.step)⟩

-- NOT PRINTED: function 121 (impl_groups_1)

def impl_groups_1.f (k : Nat) (a0 : Int) (l1_0 : List (List Int)) (l2_0 : List Int) : Option (Bool) := if 0 < (l2_0.length : Int) then (if 0 ≤ (rd l2_0 0) then (if (rd l2_0 0) < (l1_0.length : Int) then ((slices_Contains_int_int.f k (rd_L3 l1_0 (rd l2_0 0)) a0).bind fun t149 => (some t149)) else (none)) else (none)) else (none)
theorem impl_groups_1.calls (k : Nat) (a0 : Int) (g1 : Nat) (A1_0 : Option Addr) (c1_0 : Nat) (l1_0 : List (List Int)) (g2 : Nat) (A2_0 : Option Addr) (c2_0 : Nat) (l2_0 : List Int) (r : Bool) (w : World) (hb1 : w.heap[g1]? = some (.cells #[.slice A1_0 l1_0.length c1_0] 27 (0, 0))) (hr1_0 : Kd.C (Kd.slice 3 (Kd.int .i64)) w A1_0 l1_0.length l1_0) (hc1_0 : l1_0.length ≤ c1_0) (hb2 : w.heap[g2]? = some (.cells #[.slice A2_0 l2_0.length c2_0] 31 (0, 0))) (hr2_0 : Kd.C (Kd.int .i64) w A2_0 l2_0.length l2_0) (hc2_0 : l2_0.length ≤ c2_0) (h : impl_groups_1.f k a0 l1_0 l2_0 = some r) :
  Calls Try.prog 121 #[.int .i64 a0, .pointer (some ⟨g1, 0, none⟩), .pointer (some ⟨g2, 0, none⟩)] w fun e w' => e = .returned (.bool r) ∧ Drawn0 w w' := by
 have HR1_0 := am hr1_0; have HC1_0 := am hc1_0; clear hr1_0 hc1_0; have HR2_0 := am hr2_0; have HC2_0 := am hc2_0; clear hr2_0 hc2_0; have BK1 := am hb1; clear hb1; have BK2 := am hb2; clear hb2; have H : (if 0 < (l2_0.length : Int) then (if 0 ≤ (rd l2_0 0) then (if (rd l2_0 0) < (l1_0.length : Int) then ((slices_Contains_int_int.f k (rd_L3 l1_0 (rd l2_0 0)) a0).bind fun t149 => (some t149)) else (none)) else (none)) else (none)) = some r := h; clear h
 by_cases c4 : 0 < (l2_0.length : Int)
 ·rw [if_pos c4] at H
  have c4b0 : decide (0 < (l2_0.length : Int)) = true := decide_eq_true c4; have c4b1 : decide (0 < l2_0.length) = true := decide_eq_true (by omega); clear c4
  by_cases c5 : 0 ≤ (rd l2_0 0)
  ·rw [if_pos c5] at H
   have c5b0 : decide (0 ≤ (rd l2_0 0)) = true := decide_eq_true c5; clear c5
   by_cases c6 : (rd l2_0 0) < (l1_0.length : Int)
   ·rw [if_pos c6] at H
    have c6b0 : decide ((rd l2_0 0) < (l1_0.length : Int)) = true := decide_eq_true c6; clear c6; replace H := Option.bind_eq_some_iff.mp H; obtain ⟨t149, A70, H⟩ := H; (try dsimp -simprocs only at H); have A7 := am A70; clear A70; obtain rfl := Option.some.inj H; obtain ⟨hcz8_0, hfz8_0⟩ := cf1 (w := w) BK1; obtain ⟨hcz9_0, hfz9_0⟩ := cf1 (w := w) BK2; have p147 : 0 ≤ (0 : Int) := (by omega); have q147 : 0 < (l2_0.length : Int) := dT; obtain ⟨ad147, e147, hx147_0⟩ := Kd.at_int HR2_0.out 0 p147 q147; cases e147; have qi147 : (0 < l2_0.length) = True := eq_true (by omega)
    (try rw [show ((0 : Int)).toNat = 0 from rfl] at hx147_0)
    (try rw [Addr.add_zero'] at hx147_0)
    replace p147 := eq_true p147; replace q147 := eq_true q147; have p148 : 0 ≤ ((rd l2_0 0) : Int) := dT; have q148 : (rd l2_0 0) < (l1_0.length : Int) := dT; obtain ⟨ad148, A148_0, c148_0, e148, hx148_0, hl148_0, hi148_0⟩ := at_L3 HR1_0.out (rd l2_0 0) p148 q148; cases e148; have HR148_0 := am hi148_0; have HC148_0 := am hl148_0; clear hi148_0 hl148_0; replace p148 := eq_true p148; replace q148 := eq_true q148
    go_enter Try.func121, Try.ntmps121
    go_wp2_with (first | (go_at_call 88; (with_reducible refine (slices_Contains_int_int.calls k _ _ (rd_L3 l1_0 (rd l2_0 0)) a0 t149 _ ?side1 ?side2 A7.out).mono ?_); (case side1 => exact Cz HR148_0.out); (case side2 => exact HC148_0.out); rintro e w' ⟨rfl, ⟨nd, rfl⟩⟩; (try exact yZ)))
    repeat (go_quiet (first | (go_at_call 88; (with_reducible refine (slices_Contains_int_int.calls k _ _ (rd_L3 l1_0 (rd l2_0 0)) a0 t149 _ ?side1 ?side2 A7.out).mono ?_); (case side1 => exact Cz HR148_0.out); (case side2 => exact HC148_0.out); rintro e w' ⟨rfl, ⟨nd, rfl⟩⟩; (try exact yZ))); try go_wp2_with (first | (go_at_call 88; (with_reducible refine (slices_Contains_int_int.calls k _ _ (rd_L3 l1_0 (rd l2_0 0)) a0 t149 _ ?side1 ?side2 A7.out).mono ?_); (case side1 => exact Cz HR148_0.out); (case side2 => exact HC148_0.out); rintro e w' ⟨rfl, ⟨nd, rfl⟩⟩; (try exact yZ))))
    go_ret
    exact ⟨by first | rfl | (simp; done) | (simp [*]; done), by repeat (first | exact Drawn0.refl _ | apply Drawn0.step)⟩
   ·rw [if_neg c6] at H
    exact absurd H (by simp)
  ·rw [if_neg c5] at H
   exact absurd H (by simp)
 ·rw [if_neg c4] at H
  exact absurd H (by simp)

def slices_IndexFunc_int_int_at_impl_groups_1.l0 : Nat → List Int → Int → Int → List (List Int) → List Int → Option (Int)
 | 0, _, _, _, _, _ => none
 | k + 1, x0, x7, x8, x3000, x4000 => if x8 < x7 then (if 0 ≤ x8 then (if x8 < (x0.length : Int) then ((impl_groups_1.f k (rd x0 x8) x3000 x4000).bind fun t151 => (if t151 = true then (some x8) else (slices_IndexFunc_int_int_at_impl_groups_1.l0 k x0 x7 (wrap64 (x8 + 1)) x3000 x4000))) else (none)) else (none)) else (some (-1))
def slices_IndexFunc_int_int_at_impl_groups_1.f (k : Nat) (l0 : List Int)  (l2_0 : List (List Int)) (l3_0 : List Int) : Option (Int) := slices_IndexFunc_int_int_at_impl_groups_1.l0 k l0 (l0.length : Int) 0 l2_0 l3_0
theorem slices_IndexFunc_int_int_at_impl_groups_1.calls (k : Nat) (A0 : Option Addr) (c0 : Nat) (l0 : List Int)  (g2 : Nat) (A2_0 : Option Addr) (c2_0 : Nat) (l2_0 : List (List Int)) (g3 : Nat) (A3_0 : Option Addr) (c3_0 : Nat) (l3_0 : List Int) (r : Int) (w : World) (hr0 : Kd.C (Kd.int .i64) w A0 l0.length l0) (hc0 : l0.length ≤ c0) (hb2 : w.heap[g2]? = some (.cells #[.slice A2_0 l2_0.length c2_0] 27 (0, 0))) (hr2_0 : Kd.C (Kd.slice 3 (Kd.int .i64)) w A2_0 l2_0.length l2_0) (hc2_0 : l2_0.length ≤ c2_0) (hb3 : w.heap[g3]? = some (.cells #[.slice A3_0 l3_0.length c3_0] 31 (0, 0))) (hr3_0 : Kd.C (Kd.int .i64) w A3_0 l3_0.length l3_0) (hc3_0 : l3_0.length ≤ c3_0) (h : slices_IndexFunc_int_int_at_impl_groups_1.f k l0 l2_0 l3_0 = some r) :
  Calls Try.prog 148 #[.slice A0 l0.length c0, .func (.func 121) #[] #[.pointer (some ⟨g2, 0, none⟩), .pointer (some ⟨g3, 0, none⟩)]] w fun e w' => e = .returned (.int .i64 r) ∧ Drawn0 w w' := by
 have HR0 := am hr0; have HC0 := am hc0; clear hr0 hc0; have HR2_0 := am hr2_0; have HC2_0 := am hc2_0; clear hr2_0 hc2_0; have HR3_0 := am hr3_0; have HC3_0 := am hc3_0; clear hr3_0 hc3_0; have BK2 := am hb2; clear hb2; have BK3 := am hb3; clear hb3; have H : (slices_IndexFunc_int_int_at_impl_groups_1.l0 k l0 (l0.length : Int) 0 l2_0 l3_0) = some r := h; clear h; have H' := am H; clear H
 go_enter Try.func148, Try.ntmps148
 go_wp2
 go_loopg [8] k (fun kq v8 w' => ∃ (x8_1 : Int), v8 = .int .i64 x8_1 ∧ Aside0 (slices_IndexFunc_int_int_at_impl_groups_1.l0 kq l0 (l0.length : Int) x8_1 l2_0 l3_0 = some r) ∧ Aside0 (kq ≤ k) ∧ Aside0 (w'.heap[g2]? = some (.cells #[(.slice A2_0 l2_0.length c2_0)] 27 (0, 0))) ∧ Aside0 (w'.heap[g3]? = some (.cells #[(.slice A3_0 l3_0.length c3_0)] 31 (0, 0))) ∧ Drawn0 w w')
 case atStart => exact ⟨(0), wZ, H', ⟨Nat.le_refl _⟩, ⟨Kz BK2.out⟩, ⟨Kz BK3.out⟩, by repeat (first | exact Drawn0.refl _ | apply Drawn0.step)⟩
 case round =>
  clear H'
  try clear c1
  try clear c2
  try clear p2
  try clear c3
  obtain ⟨x8_1, rfl, HA, HK1, BK2, BK3, ⟨m1, rfl⟩⟩ := hrel; cases gk with
  | zero => exact absurd HA.out (by simp [slices_IndexFunc_int_int_at_impl_groups_1.l0])
  | succ k1 =>
   have H := HA.out; clear HA
   simp only [slices_IndexFunc_int_int_at_impl_groups_1.l0] at H
   by_cases c5 : x8_1 < (l0.length : Int)
   ·rw [if_pos c5] at H
    have c5b0 : decide (x8_1 < (l0.length : Int)) = true := decide_eq_true c5; clear c5
    by_cases c6 : 0 ≤ x8_1
    ·rw [if_pos c6] at H
     have c6b0 : decide (0 ≤ x8_1) = true := decide_eq_true c6; clear c6
     by_cases c7 : x8_1 < (l0.length : Int)
     ·rw [if_pos c7] at H
      have c7b0 : decide (x8_1 < (l0.length : Int)) = true := decide_eq_true c7; clear c7; replace H := Option.bind_eq_some_iff.mp H; obtain ⟨t151, A80, H⟩ := H; (try dsimp -simprocs only at H); have A8 := am A80; clear A80
      by_cases c9 : t151 = true
      ·subst c9
       rw [if_pos rfl] at H; obtain rfl := Option.some.inj H; obtain ⟨ad150, e150, hx150_0⟩ := Kd.at_int HR0.out x8_1 dT dT; cases e150; have p150 := eT (0 ≤ (x8_1 : Int)); have q150 := eT (x8_1 < (l0.length : Int))
       go_wp2_with (first | (go_at_call 121; (with_reducible refine (impl_groups_1.calls k1 (rd l0 x8_1) g2 A2_0 c2_0 l2_0 g3 A3_0 c3_0 l3_0 true _ ?side1 ?side2 ?side3 ?side4 ?side5 ?side6 A8.out).mono ?_); (case side1 => exact Kz BK2.out); (case side2 => exact Cz HR2_0.out); (case side3 => exact HC2_0.out); (case side4 => exact Kz BK3.out); (case side5 => exact Cz HR3_0.out); (case side6 => exact HC3_0.out); rintro e w' ⟨rfl, ⟨nd, rfl⟩⟩))
       go_ret
       exact ⟨by first | rfl | (simp; done) | (simp [*]; done), by repeat (first | exact Drawn0.refl _ | apply Drawn0.step)⟩
      ·replace c9 := Bool.eq_false_iff.mpr c9
       subst c9
       rw [if_neg (show ¬ (false = true) by decide)] at H; have H' := am H; clear H; obtain ⟨ad150, e150, hx150_0⟩ := Kd.at_int HR0.out x8_1 dT dT; cases e150; have p150 := eT (0 ≤ (x8_1 : Int)); have q150 := eT (x8_1 < (l0.length : Int))
       go_wp2_with (first | (go_at_call 121; (with_reducible refine (impl_groups_1.calls k1 (rd l0 x8_1) g2 A2_0 c2_0 l2_0 g3 A3_0 c3_0 l3_0 false _ ?side1 ?side2 ?side3 ?side4 ?side5 ?side6 A8.out).mono ?_); (case side1 => exact Kz BK2.out); (case side2 => exact Cz HR2_0.out); (case side3 => exact HC2_0.out); (case side4 => exact Kz BK3.out); (case side5 => exact Cz HR3_0.out); (case side6 => exact HC3_0.out); rintro e w' ⟨rfl, ⟨nd, rfl⟩⟩))
       go_roundg k1
       case measure => have := HK1.out; omega
       case rel => exact ⟨(wrap64 (x8_1 + 1)), wZ, H', ⟨by have := HK1.out; omega⟩, ⟨Kz BK2.out⟩, ⟨Kz BK3.out⟩, by repeat (first | exact Drawn0.refl _ | apply Drawn0.step)⟩
     ·rw [if_neg c7] at H
      exact absurd H (by simp)
    ·rw [if_neg c6] at H
     exact absurd H (by simp)
   ·rw [if_neg c5] at H
    have c5b0 : decide (x8_1 < (l0.length : Int)) = false := decide_eq_false c5; clear c5; obtain rfl := Option.some.inj H
    go_wp2
    go_ret
    exact ⟨by first | rfl | (simp; done) | (simp [*]; done), by repeat (first | exact Drawn0.refl _ | apply Drawn0.step)⟩

def slices_ContainsFunc_int_int_at_impl_groups_1.f (k : Nat) (l0 : List Int)  (l2_0 : List (List Int)) (l3_0 : List Int) : Option (Bool) := (slices_IndexFunc_int_int_at_impl_groups_1.f k l0 l2_0 l3_0).bind fun t152 => (some (decide (t152 ≥ 0)))
theorem slices_ContainsFunc_int_int_at_impl_groups_1.calls (k : Nat) (A0 : Option Addr) (c0 : Nat) (l0 : List Int)  (g2 : Nat) (A2_0 : Option Addr) (c2_0 : Nat) (l2_0 : List (List Int)) (g3 : Nat) (A3_0 : Option Addr) (c3_0 : Nat) (l3_0 : List Int) (r : Bool) (w : World) (hr0 : Kd.C (Kd.int .i64) w A0 l0.length l0) (hc0 : l0.length ≤ c0) (hb2 : w.heap[g2]? = some (.cells #[.slice A2_0 l2_0.length c2_0] 27 (0, 0))) (hr2_0 : Kd.C (Kd.slice 3 (Kd.int .i64)) w A2_0 l2_0.length l2_0) (hc2_0 : l2_0.length ≤ c2_0) (hb3 : w.heap[g3]? = some (.cells #[.slice A3_0 l3_0.length c3_0] 31 (0, 0))) (hr3_0 : Kd.C (Kd.int .i64) w A3_0 l3_0.length l3_0) (hc3_0 : l3_0.length ≤ c3_0) (h : slices_ContainsFunc_int_int_at_impl_groups_1.f k l0 l2_0 l3_0 = some r) :
  Calls Try.prog 120 #[.slice A0 l0.length c0, .func (.func 121) #[] #[.pointer (some ⟨g2, 0, none⟩), .pointer (some ⟨g3, 0, none⟩)]] w fun e w' => e = .returned (.bool r) ∧ Drawn0 w w' := by
 have HR0 := am hr0; have HC0 := am hc0; clear hr0 hc0; have HR2_0 := am hr2_0; have HC2_0 := am hc2_0; clear hr2_0 hc2_0; have HR3_0 := am hr3_0; have HC3_0 := am hc3_0; clear hr3_0 hc3_0; have BK2 := am hb2; clear hb2; have BK3 := am hb3; clear hb3; have H : ((slices_IndexFunc_int_int_at_impl_groups_1.f k l0 l2_0 l3_0).bind fun t152 => (some (decide (t152 ≥ 0)))) = some r := h; clear h; replace H := Option.bind_eq_some_iff.mp H; obtain ⟨t152, A50, H⟩ := H; (try dsimp -simprocs only at H); have A5 := am A50; clear A50; obtain rfl := Option.some.inj H
 go_enter Try.func120, Try.ntmps120
 go_wp2_with (first | ((with_reducible refine gate_callee (f := 148) rfl ?_); refine gL (some 7) Try.func148 #[.slice A0 l0.length c0, .func (.func 121) #[] #[.pointer (some ⟨g2, 0, none⟩), .pointer (some ⟨g3, 0, none⟩)]] ?_; (with_reducible refine (slices_IndexFunc_int_int_at_impl_groups_1.calls k _ _ l0  g2 A2_0 c2_0 l2_0 g3 A3_0 c3_0 l3_0 t152 _ ?side1 ?side2 ?side3 ?side4 ?side5 ?side6 ?side7 ?side8 A5.out).mono ?_); (case side1 => exact Cz HR0.out); (case side2 => exact HC0.out); (case side3 => exact Kz BK2.out); (case side4 => exact Cz HR2_0.out); (case side5 => exact HC2_0.out); (case side6 => exact Kz BK3.out); (case side7 => exact Cz HR3_0.out); (case side8 => exact HC3_0.out); rintro e w' ⟨rfl, ⟨nd, rfl⟩⟩; refine ⟨_, rfl, ?_⟩))
 go_ret
 exact ⟨by first | rfl | (simp; done) | (simp [*]; done), by repeat (first | exact Drawn0.refl _ | apply Drawn0.step)⟩

mutual
def impl_groups.l0 : Nat → List (List Int) → List Int → Int → Int → List (List Int) → Option ((List (List Int)))
 | 0, _, _, _, _, _ => none
 | k + 1, x3, x4, x17, x18, x128000 => if x18 < x17 then (if 0 ≤ x18 then (if x18 < (x4.length : Int) then (impl_groups.l0 k x3 (x4.set (x18 : Int).toNat (-1)) x17 (wrap64 (x18 + 1)) x128000) else (none)) else (none)) else (impl_groups.l1 k x3 x4 (x128000.length : Int) 0 x128000)
def impl_groups.l1 : Nat → List (List Int) → List Int → Int → Int → List (List Int) → Option ((List (List Int)))
 | 0, _, _, _, _, _ => none
 | k + 1, x3, x4, x26, x27, x128000 => if x27 < x26 then (if 0 ≤ x27 then (if x27 < (x4.length : Int) then (if (rd x4 x27) ≥ 0 then (impl_groups.l1 k x3 x4 x26 (wrap64 (x27 + 1)) x128000) else (impl_groups.l2 k x3 (x4.set (x27 : Int).toNat (x3.length : Int)) (x3.length : Int) x26 x27 x128000 (([x27] : List Int)))) else (none)) else (none)) else (impl_groups.l4 k x3 x4 (x4.length : Int) 0)
def impl_groups.l2 : Nat → List (List Int) → List Int → Int → Int → Int → List (List Int) → List Int → Option ((List (List Int)))
 | 0, _, _, _, _, _, _, _ => none
 | k + 1, x3, x4, x7, x26, x27, x128000, x141000 => if (x141000.length : Int) > 0 then (impl_groups.l3 k x3 x4 x7 x26 x27 (x128000.length : Int) 0 x128000 x141000) else (if x3.length < 5864062014805 then (impl_groups.l1 k (x3 ++ [[]]) x4 x26 (wrap64 (x27 + 1)) x128000) else (none))
def impl_groups.l3 : Nat → List (List Int) → List Int → Int → Int → Int → Int → Int → List (List Int) → List Int → Option ((List (List Int)))
 | 0, _, _, _, _, _, _, _, _, _ => none
 | k + 1, x3, x4, x7, x26, x27, x49, x50, x128000, x141000 => if x50 < x49 then (if 0 ≤ x50 then (if x50 < (x4.length : Int) then (if (rd x4 x50) < 0 then (if x50 < (x128000.length : Int) then ((slices_ContainsFunc_int_int_at_impl_groups_1.f k (rd_L3 x128000 x50) x128000 x141000).bind fun t146 => (if t146 = true then (if x141000.length < 17592186044416 then (impl_groups.l3 k x3 (x4.set (x50 : Int).toNat x7) x7 x26 x27 x49 (wrap64 (x50 + 1)) x128000 (x141000 ++ [x50])) else (none)) else (impl_groups.l3 k x3 x4 x7 x26 x27 x49 (wrap64 (x50 + 1)) x128000 x141000))) else (none)) else (impl_groups.l3 k x3 x4 x7 x26 x27 x49 (wrap64 (x50 + 1)) x128000 x141000)) else (none)) else (none)) else (if 1 ≤ (x141000.length : Int) then (impl_groups.l2 k x3 x4 x7 x26 x27 x128000 (x141000.drop (1 : Int).toNat)) else (none))
def impl_groups.l4 : Nat → List (List Int) → List Int → Int → Int → Option ((List (List Int)))
 | 0, _, _, _, _ => none
 | k + 1, x3, x80, x81, x82 => if x82 < x81 then (if 0 ≤ x82 then (if x82 < (x80.length : Int) then (if 0 ≤ (rd x80 x82) then (if (rd x80 x82) < (x3.length : Int) then (if (rd_L3 x3 (rd x80 x82)).length < 17592186044416 then (impl_groups.l4 k (x3.set ((rd x80 x82) : Int).toNat ((rd_L3 x3 (rd x80 x82)) ++ [x82])) x80 x81 (wrap64 (x82 + 1))) else (none)) else (none)) else (none)) else (none)) else (none)) else (some x3)
end
def impl_groups.f (k : Nat) (l0 : List (List Int)) : Option ((List (List Int))) := if 0 ≤ (l0.length : Int) then (if ((l0.length : Int) : Int).toNat ≤ 35184372088832 then ((some (List.replicate ((l0.length : Int) : Int).toNat 0 : List Int)).bind fun y131 => (impl_groups.l0 k (([] : List (List Int))) y131 (y131.length : Int) 0 l0)) else (none)) else (none)
theorem impl_groups.calls (k : Nat) (A0 : Option Addr) (c0 : Nat) (l0 : List (List Int)) (r : List (List Int)) (w : World) (hr0 : Kd.C (Kd.slice 3 (Kd.int .i64)) w A0 l0.length l0) (hc0 : l0.length ≤ c0) (h : impl_groups.f k l0 = some r) :
  Calls Try.prog 61 #[.slice A0 l0.length c0] w fun e w' => ∃ v0_ : Value, e = .returned (v0_) ∧ Kd.S (Kd.slice 3 (Kd.int .i64)) 31 w' w.heap.size (fun _ => True) v0_ r ∧ Below w.heap.size w w' := by
 have HR0 := am hr0; have HC0 := am hc0; clear hr0 hc0; have HB := am (Below.refl w.heap.size w); have H : (if 0 ≤ (l0.length : Int) then (if ((l0.length : Int) : Int).toNat ≤ 35184372088832 then ((some (List.replicate ((l0.length : Int) : Int).toNat 0 : List Int)).bind fun y131 => (impl_groups.l0 k (([] : List (List Int))) y131 (y131.length : Int) 0 l0)) else (none)) else (none)) = some r := h; clear h; obtain ⟨y128, hy128⟩ : ∃ y_ : List (List Int), y_ = (([] : List (List Int))) := ⟨_, rfl⟩
 replace H : (if 0 ≤ (l0.length : Int) then (if ((l0.length : Int) : Int).toNat ≤ 35184372088832 then ((some (List.replicate ((l0.length : Int) : Int).toNat 0 : List Int)).bind fun y131 => (impl_groups.l0 k y128 y131 (y131.length : Int) 0 l0)) else (none)) else (none)) = some r := by first | (rw [hy128]; with_reducible exact H) | (have H2_ := (Option.bind_some _ _).symm.trans H; rw [hy128]; with_reducible exact H2_) | (have H2_ := (Option.bind_some _ _).symm.trans H; with_reducible exact H2_) | with_reducible exact H | (rw [hy128]; exact H) | exact H
 have Ny128 := am hy128; clear hy128
 by_cases c2 : 0 ≤ (l0.length : Int)
 ·rw [if_pos c2] at H
  have c2b0 := eq_true c2; have c2b1 : decide (0 ≤ (l0.length : Int)) = true := decide_eq_true c2; clear c2
  by_cases c3 : ((l0.length : Int) : Int).toNat ≤ 35184372088832
  ·rw [if_pos c3] at H
   have c3b0 := eq_true c3; have c3b1 : decide (((l0.length : Int) : Int).toNat ≤ 35184372088832) = true := decide_eq_true c3; clear c3; obtain ⟨y131, hy131⟩ : ∃ y_ : List Int, y_ = (List.replicate ((l0.length : Int) : Int).toNat 0) := ⟨_, rfl⟩
   replace H : (impl_groups.l0 k y128 y131 (y131.length : Int) 0 l0) = some r := by first | (rw [hy131]; with_reducible exact H) | (have H2_ := (Option.bind_some _ _).symm.trans H; rw [hy131]; with_reducible exact H2_) | (have H2_ := (Option.bind_some _ _).symm.trans H; with_reducible exact H2_) | with_reducible exact H | (rw [hy131]; exact H) | exact H
   have Ny131 := am hy131; clear hy131; have H' := am H; clear H
   go_enter Try.func61, Try.ntmps61
   try go_wp2_with (first | ((with_reducible refine gate_dst (N := 1) rfl ?_); refine bE 1 #[.slice A0 l0.length c0] 27 ?_; intro gb127 hg w4 hbox hb; have n0_ := Bb HB hb; have n1_ := am (hbox); have n2_ := Gl HB hg; have n3_ := Gl HB hg; clear HB; revert n0_ n1_ n2_ n3_; intro HB BK127 GW127 GE127; clear hb hbox hg))
   have n0_ := am (blk_drew BK127.out); have n1_ := am (below_drew1 HB.out); clear BK127 HB; revert n0_ n1_; intro BK127 HB; refine start_ (n := 6) (S := fun w' => w'.cell? ⟨gb127, 0, none⟩ = some (.slice A0 l0.length c0)) (ds := []) (bA 6 0) (by kernel_rfl) rfl rfl (cz BK127 0) (fun hHeld => ?_); generalize w4.drew = w5 at BK127 HB hHeld ⊢; refine take_ (i := 1) (N := some 13) (v := ?_) (a' := ?_) (bA 6 2) rfl rfl (by kernel_rfl) (fun _ _ _ h => h) (Or.inl ⟨by rfl, ?_⟩) hHeld ?_ ?_
   rotate_left
   ·intro w' s0
    go_simp
    with_reducible rfl
   rotate_left
   ·simp only [aP, i64_w, i32_w]
    rfl
   refine pure_ (i := 2) (N := some 14) (v := ?_) (a' := ?_) (bA 6 6) rfl rfl (by kernel_rfl) (fun _ _ _ h => h) (Or.inl ⟨by rfl, ?_⟩) ?_ ?_
   rotate_left
   ·intro w'
    go_simp
    with_reducible rfl
   rotate_left
   ·simp only [aP, i64_w, i32_w]
    rfl
   refine join_ (σ := Value × Value) 1 (bA 6 31) (fun s_ => [(12, s_.1), (15, s_.2), (3, s_.1)]) (fun s_ w' => (w'.cell? ⟨gb127, 0, none⟩ = some (.slice A0 l0.length c0)) ∧ (Kd.S (Kd.slice 3 (Kd.int .i64)) 31 w' w.heap.size (fun k_ => some k_ ≠ (s_.2 : Value).ownBlock) s_.1 y128) ∧ (Kd.R (Kd.int .i64) 3 w' w.heap.size (fun _ => True) s_.2 y131) ∧ (w'.heap[gb127]? = some (.cells #[.slice A0 l0.length c0] 27 (0, 0))) ∧ (Below w.heap.size w w')) ?_ ?_
   rotate_left
   ·intro hCont
    refine two_ (i := 0) (j := 3) (Ni := some 12) (Nj := some 15) (bA 6 7) (bA 6 14) rfl rfl rfl rfl (by kernel_rfl) (by decide) (by decide) (fun K hK => ?_) (fun K hK => ?_)
    ·skip
     refine Kd.S_lit_step (Kd.slice 3 (Kd.int .i64)) _ 31 ?hg (N := 12) ?hd (xs := ([] : List (List Int))) (inner := []) (ok := fun _ => True) (okp := fun _ => True) ?hr ?hp (fun _ hk => hk) trivial (Below.refl _ _) (Nat.le_refl _) (by simp) ?_; (case hd => rfl); (case hg => rfl); (case hr => first | (go_simp; done) | (go_simp; rfl)); (case hp => exact (Reps.none _ _)); intro v129 w6 ho7 hb hg_ hnew_; clear hg_ hnew_
     (first | rw [← Ny128.out] at ho7 | (simp only [Int.reduceToNat] at ho7; rw [← Ny128.out] at ho7))
     have n0_ := am (Kd.S_lower ho7 (below_size (w := w) (Bq))); have n1_ := Kb BK127 hb; have n2_ := Bc HB hb; clear BK127 HB; revert n0_ n1_ n2_; intro HO130 BK127 HB; clear hb ho7; refine hK.out _ _ (cz BK127 0) (fun hHeld => ?_); clear hK K; refine norm_ (a' := ?_) ?_ ?_; rotate_left; show Act.put _ (some 12) _ = _; simp only [aP, i64_w, i32_w]; rfl; refine pure_ (i := 4) (N := some 3) (v := ?_) (a' := ?_) (bA 6 23) rfl rfl (by kernel_rfl) (fun _ _ _ h => h) (Or.inl ⟨by rfl, ?_⟩) ?_ ?_
     rotate_left
     ·intro w'
      go_simp
      with_reducible rfl
     rotate_left
     ·simp only [aP, i64_w, i32_w]
      rfl
     refine one_ (i := 3) (N := some 15) (bA 6 31) rfl rfl (by kernel_rfl) (by decide) (fun K hK => ?_); refine Kd.R_make_step (Kd.int .i64) _ 3 (by rfl) (N := 15) rfl 31 _ _ rfl (l0.length : Int) rfl rfl Try.underlying31 (.int .i64 0) 8 info3 rfl (by decide) (by omega) 0 (ok := fun _ => True) (okp := fun _ => True) rfl (fun _ hk => hk) trivial (dT) (Nat.le_trans (Nat.mul_le_mul_right _ (dT : (l0.length : Int).toNat ≤ 35184372088832)) (by omega)) (Below.refl _ _) (Nat.le_refl _) ?_; intro v132 w8 ho9 hb hg_ hnew_; clear hg_ hnew_
     (first | rw [← Ny131.out] at ho9 | (simp only [Int.reduceToNat] at ho9; rw [← Ny131.out] at ho9))
     have n0_ := am (Kd.S_elder' (by (with_reducible repeat (first | apply Kd.S_alloc | apply Kd.S_drewN | apply Kd.S_drew)); exact HO130.out) (Kd.R_base ho9) hb); have n1_ := Rm ho9 HB; have n2_ := Kb BK127 hb; have n3_ := Bc HB hb; clear HO130 BK127 HB; revert n0_ n1_ n2_ n3_; intro HO130 HO133 BK127 HB; clear hb ho9; refine hK.out _ _ (cz BK127 0) (fun hHeld => ?_); clear hK K; refine norm_ (a' := ?_) ?_ ?_; rotate_left; show Act.put _ (some 15) _ = _; simp only [aP, i64_w, i32_w]; rfl; exact norm_ (by simp only [putAll, aP]) (hCont (v129, v132) _ ⟨hHeld, (by (with_reducible repeat (first | apply Kd.S_alloc | apply Kd.S_drewN | apply Kd.S_drew)); exact Kd.S_mono HO130.out (fun _ hk => hk.2)), (Rz HO133.out), (Kz BK127.out), (Bq)⟩)
    ·skip
     refine Kd.R_make_step (Kd.int .i64) _ 3 (by rfl) (N := 15) rfl 31 _ _ rfl (l0.length : Int) rfl rfl Try.underlying31 (.int .i64 0) 8 info3 rfl (by decide) (by omega) 0 (ok := fun _ => True) (okp := fun _ => True) rfl (fun _ hk => hk) trivial (dT) (Nat.le_trans (Nat.mul_le_mul_right _ (dT : (l0.length : Int).toNat ≤ 35184372088832)) (by omega)) (Below.refl _ _) (Nat.le_refl _) ?_; intro v132 w6 ho7 hb hg_ hnew_; clear hg_ hnew_
     (first | rw [← Ny131.out] at ho7 | (simp only [Int.reduceToNat] at ho7; rw [← Ny131.out] at ho7))
     have n0_ := Rm ho7 HB; have n1_ := Kb BK127 hb; have n2_ := Bc HB hb; clear BK127 HB; revert n0_ n1_ n2_; intro HO133 BK127 HB; clear hb ho7; refine hK.out _ _ (cz BK127 0) (fun hHeld => ?_); clear hK K; refine norm_ (a' := ?_) ?_ ?_; rotate_left; show Act.put _ (some 15) _ = _; simp only [aP, i64_w, i32_w]; rfl; refine one_ (i := 0) (N := some 12) (bA 6 15) rfl rfl (by kernel_rfl) (by decide) (fun K hK => ?_); refine Kd.S_lit_step (Kd.slice 3 (Kd.int .i64)) _ 31 ?hg (N := 12) ?hd (xs := ([] : List (List Int))) (inner := []) (ok := fun _ => True) (okp := fun _ => True) ?hr ?hp (fun _ hk => hk) trivial (Below.refl _ _) (Nat.le_refl _) (by simp) ?_; (case hd => rfl); (case hg => rfl); (case hr => first | (go_simp; done) | (go_simp; rfl)); (case hp => exact (Reps.none _ _)); intro v129 w8 ho9 hb hg_ hnew_; clear hg_ hnew_
     (first | rw [← Ny128.out] at ho9 | (simp only [Int.reduceToNat] at ho9; rw [← Ny128.out] at ho9))
     have n0_ := Rb HO133 hb; have n1_ := am (Kd.S_lower (Kd.S_new' ho9 (Kd.R_lt (Rz HO133.out))) (below_size (w := w) (Bq))); have n2_ := Kb BK127 hb; have n3_ := Bc HB hb; clear HO133 BK127 HB; revert n0_ n1_ n2_ n3_; intro HO133 HO130 BK127 HB; clear hb ho9; refine hK.out _ _ (cz BK127 0) (fun hHeld => ?_); clear hK K; refine norm_ (a' := ?_) ?_ ?_; rotate_left; show Act.put _ (some 12) _ = _; simp only [aP, i64_w, i32_w]; rfl; refine pure_ (i := 4) (N := some 3) (v := ?_) (a' := ?_) (bA 6 31) rfl rfl (by kernel_rfl) (fun _ _ _ h => h) (Or.inl ⟨by rfl, ?_⟩) ?_ ?_
     rotate_left
     ·intro w'
      go_simp
      with_reducible rfl
     rotate_left
     ·simp only [aP, i64_w, i32_w]
      rfl
     exact norm_ (by simp only [putAll, aP]) (hCont (v129, v132) _ ⟨hHeld, (by (with_reducible repeat (first | apply Kd.S_alloc | apply Kd.S_drewN | apply Kd.S_drew)); exact Kd.S_mono HO130.out (fun _ hk => hk.2)), (Rz HO133.out), (Kz BK127.out), (Bq)⟩)
   rintro ⟨v129, v132⟩ w10 ⟨hS_, h0_, h1_, h2_, h3_⟩; (try dsimp -simprocs only at h0_ h1_ h2_ h3_); have n0_ := am h0_; have n1_ := am h1_; have n2_ := am h2_; have n3_ : Aside0 (Below w.heap.size w w10) := ⟨h3_⟩; clear BK127 HB; clear h0_ h1_ h2_ h3_; revert n0_ n1_ n2_ n3_; intro HO130 HO133 BK127 HB; have hHeld : w10.cell? ⟨gb127, 0, none⟩ = some (.slice A0 l0.length c0) := hS_; refine norm_ (a' := ?_) ?_ ?_
   rotate_left
   ·simp only [putAll, aP]
    rfl
   refine pure_ (i := 5) (N := some 4) (v := ?_) (a' := ?_) (bA 6 63) rfl rfl (by kernel_rfl) (fun _ _ _ h => h) (Or.inl ⟨by rfl, ?_⟩) ?_ ?_
   rotate_left
   ·intro w'
    go_simp
    with_reducible rfl
   rotate_left
   ·simp only [aP, i64_w, i32_w]
    rfl
   refine done_ (by kernel_rfl) ?_; obtain ⟨Ao11, co11, eo11⟩ := Kd.R_slice HO133.out; subst eo11
   try go_wp2
   go_loopg [18] k (fun kq v18 w' => ∃ (x4_1 : List Int) (x18_1 : Int), v18 = .int .i64 x18_1 ∧ Aside0 (impl_groups.l0 kq y128 x4_1 (y131.length : Int) x18_1 l0 = some r) ∧ Aside0 (kq ≤ k) ∧ Aside0 (Kd.S (Kd.slice 3 (Kd.int .i64)) 31 w' w.heap.size (fun k_ => some k_ ≠ ((.slice Ao11 y131.length co11) : Value).ownBlock) v129 y128) ∧ Aside0 (Kd.R (Kd.int .i64) 3 w' w.heap.size (fun _ => True) (.slice Ao11 y131.length co11) x4_1) ∧ Aside0 (w'.heap[gb127]? = some (.cells #[(.slice A0 l0.length c0)] 27 (0, 0))) ∧ Aside0 (Below w.heap.size w w'))
   case atStart => exact ⟨(y131), (0), wZ, H', ⟨Nat.le_refl _⟩, ⟨by (with_reducible repeat (first | apply Kd.S_alloc | apply Kd.S_drewN | apply Kd.S_drew)); exact HO130.out⟩, ⟨Rz HO133.out⟩, ⟨Kz BK127.out⟩, ⟨Bq⟩⟩
   case round =>
    clear H'
    try clear c2
    try clear c2b0
    try clear c2b1
    try clear p2
    try clear c3
    try clear c3b0
    try clear c3b1
    try clear c6
    obtain ⟨x4_1, x18_1, rfl, HA, HK1, HO_3, HO_4, BK127, HB⟩ := hrel; have hl4_1 := (Kd.R_reads' HO_4.out).1; rw [hl4_1] at HO_4
    (try simp only [hl4_1])
    (try simp only [hl4_1] at BK127)
    (try simp only [hl4_1] at HO_3)
    cases gk with
    | zero => exact absurd HA.out (by simp [impl_groups.l0])
    | succ k1 =>
     have H := HA.out; clear HA
     simp only [impl_groups.l0] at H
     by_cases c12 : x18_1 < (y131.length : Int)
     ·rw [if_pos c12] at H
      have c12b0 : decide (x18_1 < (y131.length : Int)) = true := decide_eq_true c12; (try simp only [hl4_1] at c12b0); clear c12
      by_cases c13 : 0 ≤ x18_1
      ·rw [if_pos c13] at H
       have c13b0 : decide (0 ≤ x18_1) = true := decide_eq_true c13; clear c13
       by_cases c14 : x18_1 < (x4_1.length : Int)
       ·rw [if_pos c14] at H
        have c14b0 : decide (x18_1 < (x4_1.length : Int)) = true := decide_eq_true c14; (try simp only [hl4_1] at c14b0); clear c14; obtain ⟨y134, hy134⟩ : ∃ y_ : List Int, y_ = (x4_1.set (x18_1 : Int).toNat (-1)) := ⟨_, rfl⟩
        replace H : (impl_groups.l0 k1 y128 y134 (y131.length : Int) (wrap64 (x18_1 + 1)) l0) = some r := by first | (rw [hy134]; with_reducible exact H) | (have H2_ := (Option.bind_some _ _).symm.trans H; rw [hy134]; with_reducible exact H2_) | (have H2_ := (Option.bind_some _ _).symm.trans H; with_reducible exact H2_) | with_reducible exact H | (rw [hy134]; exact H) | exact H
        have Ny134 := am hy134; clear hy134; have H' := am H; clear H; have p15 : 0 ≤ (x18_1 : Int) := dT; have q15 : (x18_1 : Int) < ((x4_1.length : Int) : Int) := dT; obtain ⟨go15, co15, eo15, gb15, gl15, cl15, HG15⟩ := Kd.R_form HO_4.out (by omega)
        (first | cases eo15 | (injection eo15 with ea_ en_ ec_; (first | subst ea_ | (injection ea_ with ea_; subst ea_)); subst ec_; clear en_))
        have GB15 := am gb15; have GG15 := am HG15; clear gb15 gl15 HG15; obtain ⟨hx15_0, hf15_0⟩ := Kd.R_celln 0 HO_4.out (x18_1 : Int) p15 q15; replace p15 := eq_true p15; replace q15 := eq_true q15; have HP16 := Kd.R_putg HO_4.out (x18_1 : Int) (-1)
        go_wp2_with (first | ((with_reducible refine gate_store (t := 3) (p := 23) rfl ?_); refine store_event (t := 3) (p := 23) (v := ?vo_w17) (w1 := (wr.setCell ⟨go15, (x18_1 : Int).toNat, none⟩ (.int .i64 (-1)))) ?hg ?ho ?hn ?hr ?_; (case ho => rfl); (case hg => rfl); (case hn => rfl); (case hr => first | (go_simp; done) | (go_simp; rfl)); intro w17 hw; have hg : wr.grownBy w17 (some go15) := (by rw [hw]; exact HP16.2); have hp_ : Kd.R (Kd.int .i64) 3 w17 w.heap.size (fun _ => True) (.slice (some ⟨go15, 0, none⟩) x4_1.length co11) y134 := (by rw [hw, Ny134.out]; exact HP16.1); clear HP16; have n0_ := am (Kd.S_after (v := (.slice (some ⟨go15, 0, none⟩) x4_1.length co11)) (v1 := (.slice (some ⟨go15, 0, none⟩) x4_1.length co11)) (ok := (fun _ => True)) (by (with_reducible repeat (first | apply Kd.S_alloc | apply Kd.S_drewN | apply Kd.S_drew)); exact Kd.S_mono HO_3.out (fun _ hk => ⟨trivial, hk⟩)) hg (.inl rfl)); have n1_ := am (hp_); have n2_ := am (blk_grown (g := gb127) (o := .cells #[.slice A0 l0.length c0] 27 (0, 0)) (Kz BK127.out) hg (Kd.R_ne HO_4.out BK127.out (by decide))); have n3_ := am ((by rw [hw]; exact below_set (HB.out) GB15.out : Below w.heap.size w w17)); clear HO_3 HO_4 BK127 HB; revert n0_ n1_ n2_ n3_; intro HO_3 HO_4 BK127 HB; clear hg hw hp_))
        (try simp only [← hl4_1])
        go_roundg k1
        case measure => have := HK1.out; omega
        case rel => exact ⟨(y134), (wrap64 (x18_1 + 1)), wZ, H', ⟨by have := HK1.out; omega⟩, ⟨by (try simp only [hl4_1]); (with_reducible repeat (first | apply Kd.S_alloc | apply Kd.S_drewN | apply Kd.S_drew)); exact Kd.S_mono HO_3.out (fun _ hk => hk.2)⟩, ⟨by (try simp only [hl4_1]); (with_reducible repeat (first | apply Kd.R_alloc | apply Kd.R_drewN | apply Kd.R_drew)); exact HO_4.out⟩, ⟨by (try simp only [hl4_1]); (with_reducible repeat (first | refine blk_drewN ?_ _ | refine blk_drew ?_ | refine blk_alloc ?_ _)); exact BK127.out⟩, ⟨Bq⟩⟩
       ·rw [if_neg c14] at H
        exact absurd H (by simp)
      ·rw [if_neg c13] at H
       exact absurd H (by simp)
     ·rw [if_neg c12] at H
      have c12b0 : decide (x18_1 < (y131.length : Int)) = false := decide_eq_false c12; (try simp only [hl4_1] at c12b0); clear c12; have H' := am H; clear H; obtain ⟨hcz18_0, hfz18_0⟩ := cf1 (w := wr) BK127
      go_wp2
      go_loopg [3, 27] k1 (fun kq v3 v27 w' => ∃ (x3_2 : List (List Int)) (x4_2 : List Int) (x27_2 : Int), v27 = .int .i64 x27_2 ∧ Aside0 (impl_groups.l1 kq x3_2 x4_2 (l0.length : Int) x27_2 l0 = some r) ∧ Aside0 (kq ≤ k1) ∧ Aside0 (Kd.S (Kd.slice 3 (Kd.int .i64)) 31 w' w.heap.size (fun k_ => some k_ ≠ ((.slice Ao11 x4_1.length co11) : Value).ownBlock) v3 x3_2) ∧ Aside0 (Kd.R (Kd.int .i64) 3 w' w.heap.size (fun _ => True) (.slice Ao11 x4_1.length co11) x4_2) ∧ Aside0 (w'.heap[gb127]? = some (.cells #[(.slice A0 l0.length c0)] 27 (0, 0))) ∧ Aside0 (Below w.heap.size w w'))
      case atStart => exact ⟨(y128), (x4_1), (0), wZ, H', ⟨Nat.le_refl _⟩, ⟨by (try simp only [hl4_1]); (with_reducible repeat (first | apply Kd.S_alloc | apply Kd.S_drewN | apply Kd.S_drew)); exact HO_3.out⟩, ⟨by (try simp only [hl4_1]); (with_reducible repeat (first | apply Kd.R_alloc | apply Kd.R_drewN | apply Kd.R_drew)); exact HO_4.out⟩, ⟨by (try simp only [hl4_1]); (with_reducible repeat (first | refine blk_drewN ?_ _ | refine blk_drew ?_ | refine blk_alloc ?_ _)); exact BK127.out⟩, ⟨Bq⟩⟩
      case round =>
       clear H'
       try clear c1
       try clear p1
       try clear q1
       try clear hx1
       try clear hf1
       try clear c2
       try clear c2b0
       try clear c2b1
       try clear p2
       try clear c3
       try clear c3b0
       try clear c3b1
       try clear c6
       try clear p6
       try clear c12
       try clear c12b0
       try clear c13
       try clear c13b0
       try clear c14
       try clear c14b0
       try clear p15
       try clear q15
       try clear hx15
       try clear hf15
       try clear hcz18_0
       try clear hfz18_0
       try clear hx15_0
       try clear p15
       try clear p2
       try clear q15
       obtain ⟨x3_2, x4_2, x27_2, rfl, HA, HK2, HO_3, HO_4, BK127, HB⟩ := hrel; have hl4_2 := (Kd.R_reads' HO_4.out).1; rw [hl4_2] at HO_4
       (try simp only [hl4_2])
       (try simp only [hl4_2] at BK127)
       (try simp only [hl4_2] at HO_3)
       cases gk with
       | zero => exact absurd HA.out (by simp [impl_groups.l1])
       | succ k2 =>
        have H := HA.out; clear HA
        simp only [impl_groups.l1] at H
        by_cases c19 : x27_2 < (l0.length : Int)
        ·rw [if_pos c19] at H
         have c19b0 : decide (x27_2 < (l0.length : Int)) = true := decide_eq_true c19; (try simp only [hl4_1, hl4_2] at c19b0); clear c19
         by_cases c20 : 0 ≤ x27_2
         ·rw [if_pos c20] at H
          have c20b0 : decide (0 ≤ x27_2) = true := decide_eq_true c20; clear c20
          by_cases c21 : x27_2 < (x4_2.length : Int)
          ·rw [if_pos c21] at H
           have c21b0 : decide (x27_2 < (x4_2.length : Int)) = true := decide_eq_true c21; (try simp only [hl4_1, hl4_2] at c21b0); clear c21
           by_cases c22 : (rd x4_2 x27_2) ≥ 0
           ·rw [if_pos c22] at H
            have c22b0 : decide (0 ≤ (rd x4_2 x27_2)) = true := decide_eq_true c22; clear c22; have H' := am H; clear H; obtain ⟨ad135, e135, hx135_0⟩ := Kd.at_int (Kd.R_reads' HO_4.out).2.2 x27_2 dT dT; cases e135; have p135 := eT (0 ≤ (x27_2 : Int)); have q135 := eT (x27_2 < (x4_2.length : Int))
            go_wp2
            (try simp only [← hl4_2])
            go_roundg k2
            case measure => have := HK1.out; have := HK2.out; omega
            case rel => exact ⟨(x3_2), (x4_2), (wrap64 (x27_2 + 1)), wZ, H', ⟨by have := HK1.out; have := HK2.out; omega⟩, ⟨by (try simp only [hl4_1]); (try simp only [hl4_2]); (with_reducible repeat (first | apply Kd.S_alloc | apply Kd.S_drewN | apply Kd.S_drew)); exact HO_3.out⟩, ⟨by (try simp only [hl4_1]); (try simp only [hl4_2]); (with_reducible repeat (first | apply Kd.R_alloc | apply Kd.R_drewN | apply Kd.R_drew)); exact HO_4.out⟩, ⟨by (try simp only [hl4_1]); (try simp only [hl4_2]); (with_reducible repeat (first | refine blk_drewN ?_ _ | refine blk_drew ?_ | refine blk_alloc ?_ _)); exact BK127.out⟩, ⟨Bq⟩⟩
           ·rw [if_neg c22] at H
            have c22b0 : decide (0 ≤ (rd x4_2 x27_2)) = false := decide_eq_false c22; clear c22; obtain ⟨y136, hy136⟩ : ∃ y_ : List Int, y_ = (x4_2.set (x27_2 : Int).toNat (x3_2.length : Int)) := ⟨_, rfl⟩
            replace H : (impl_groups.l2 k2 x3_2 y136 (x3_2.length : Int) (l0.length : Int) x27_2 l0 (([x27_2] : List Int))) = some r := by first | (rw [hy136]; with_reducible exact H) | (have H2_ := (Option.bind_some _ _).symm.trans H; rw [hy136]; with_reducible exact H2_) | (have H2_ := (Option.bind_some _ _).symm.trans H; with_reducible exact H2_) | with_reducible exact H | (rw [hy136]; exact H) | exact H
            have Ny136 := am hy136; clear hy136; obtain ⟨y137, hy137⟩ : ∃ y_ : List Int, y_ = (([x27_2] : List Int)) := ⟨_, rfl⟩
            replace H : (impl_groups.l2 k2 x3_2 y136 (x3_2.length : Int) (l0.length : Int) x27_2 l0 y137) = some r := by first | (rw [hy137]; with_reducible exact H) | (have H2_ := (Option.bind_some _ _).symm.trans H; rw [hy137]; with_reducible exact H2_) | (have H2_ := (Option.bind_some _ _).symm.trans H; with_reducible exact H2_) | with_reducible exact H | (rw [hy137]; exact H) | exact H
            have Ny137 := am hy137; clear hy137; have H' := am H; clear H; obtain ⟨ad135, e135, hx135_0⟩ := Kd.at_int (Kd.R_reads' HO_4.out).2.2 x27_2 dT dT; cases e135; have p135 := eT (0 ≤ (x27_2 : Int)); have q135 := eT (x27_2 < (x4_2.length : Int)); obtain ⟨Ao24, co24, eo24⟩ := Kd.S_slice HO_3.out; subst eo24; have p23 : 0 ≤ (x27_2 : Int) := dT; have q23 : (x27_2 : Int) < ((x4_2.length : Int) : Int) := dT; obtain ⟨go23, co23, eo23, gb23, gl23, cl23, HG23⟩ := Kd.R_form HO_4.out (by omega)
            (first | cases eo23 | (injection eo23 with ea_ en_ ec_; (first | subst ea_ | (injection ea_ with ea_; subst ea_)); subst ec_; clear en_))
            have GB23 := am gb23; have GG23 := am HG23; clear gb23 gl23 HG23
            (first | simp only [add_plain] at hx135_0 | skip)
            obtain ⟨hx23_0, hf23_0⟩ := Kd.R_celln 0 HO_4.out (x27_2 : Int) p23 q23; replace p23 := eq_true p23; replace q23 := eq_true q23; have HP25 := Kd.R_putg HO_4.out (x27_2 : Int) (x3_2.length : Int)
            go_wp2_with (first | ((with_reducible refine gate_store (t := 3) (p := 40) rfl ?_); refine store_event (t := 3) (p := 40) (v := ?vo_w26) (w1 := (wr.setCell ⟨go23, (x27_2 : Int).toNat, none⟩ (.int .i64 (x3_2.length : Int)))) ?hg ?ho ?hn ?hr ?_; (case ho => rfl); (case hg => rfl); (case hn => rfl); (case hr => first | (go_simp; done) | (go_simp; rfl)); intro w26 hw; have hg : wr.grownBy w26 (some go23) := (by rw [hw]; exact HP25.2); have hp_ : Kd.R (Kd.int .i64) 3 w26 w.heap.size (fun _ => True) (.slice (some ⟨go23, 0, none⟩) x4_2.length co11) y136 := (by rw [hw, Ny136.out]; exact HP25.1); clear HP25; have n0_ := am (Kd.S_after (v := (.slice (some ⟨go23, 0, none⟩) x4_2.length co11)) (v1 := (.slice (some ⟨go23, 0, none⟩) x4_2.length co11)) (ok := (fun _ => True)) (by (with_reducible repeat (first | apply Kd.S_alloc | apply Kd.S_drewN | apply Kd.S_drew)); exact Kd.S_mono HO_3.out (fun _ hk => ⟨trivial, hk⟩)) hg (.inl rfl)); have n1_ := am (hp_); have n2_ := am (blk_grown (g := gb127) (o := .cells #[.slice A0 l0.length c0] 27 (0, 0)) (Kz BK127.out) hg (Kd.R_ne HO_4.out BK127.out (by decide))); have n3_ := am ((by rw [hw]; exact below_set (HB.out) GB23.out : Below w.heap.size w w26)); clear HO_3 HO_4 BK127 HB; revert n0_ n1_ n2_ n3_; intro HO_3 HO_4 BK127 HB; clear hg hw hp_) | ((with_reducible refine gate_dst (N := 42) rfl ?_); refine Kd.R_lit (Kd.int .i64) _ 3 ?hg (N := 42) ?hd (xs := ([x27_2] : List Int)) (inner := [.int .i64 x27_2]) (ok := fun _ => True) (okp := fun _ => True) ?hr ?hp (fun _ hk => hk) trivial (Below.refl _ _) (Nat.le_refl _) (by simp) ?_; (case hd => rfl); (case hg => rfl); (case hr => first | (go_simp; done) | (go_simp; rfl)); (case hp => exact (Reps.one (show Kd.M (Kd.int .i64) _ _ _ x27_2 [.int .i64 x27_2] from rfl) (Reps.none _ _))); intro v138 w27 ho28 hb hg_ hnew_; clear hg_ hnew_; (first | rw [← Ny137.out] at ho28 | (simp only [Int.reduceToNat] at ho28; rw [← Ny137.out] at ho28)); have n0_ := am (Kd.S_elder' (by (with_reducible repeat (first | apply Kd.S_alloc | apply Kd.S_drewN | apply Kd.S_drew)); exact HO_3.out) (Kd.R_base ho28) hb); have n1_ := Re HO_4 (Kd.R_base ho28) hb; have n2_ := Rm (Kd.R_new' ho28 (Kd.R_lt (Rz HO_4.out))) HB; have n3_ := Kb BK127 hb; have n4_ := Bc HB hb; clear HO_3 HO_4 BK127 HB; revert n0_ n1_ n2_ n3_ n4_; intro HO_3 HO_4 HO139 BK127 HB; clear hb ho28) | ((with_reducible refine gate_dst (N := 8) rfl ?_); refine bE 8 #[.slice none 0 0] 31 ?_; intro gb140 hg w29 hbox hb; have n0_ := am (Kd.S_below (Kd.S_elderB (by (with_reducible repeat (first | apply Kd.S_alloc | apply Kd.S_drewN | apply Kd.S_drew)); exact HO_3.out) gb140 (Nat.le_of_eq hg.symm)) hb); have n1_ := Rb HO_4 hb; have n2_ := Rb HO139 hb; have n3_ := Kb BK127 hb; have n4_ := Bc HB hb; have n5_ := am (hbox); have n6_ := Gm HB hg; have n7_ := Gm HB hg; have n8_ := Nl BK127 hg; have n9_ := Ng BK127 hg; clear HO_3 HO_4 HO139 BK127 HB; revert n0_ n1_ n2_ n3_ n4_ n5_ n6_ n7_ n8_ n9_; intro HO_3 HO_4 HO139 BK127 HB BK140 GW140 GE140 NB127_140 NB140_127; clear hb hbox hg; obtain ⟨Ao30, co30, eo30⟩ := Kd.R_slice HO139.out; subst eo30; have hnb31 := NB140_127.out; have hnc31 := NB127_140.out; obtain ⟨hcz32_0, hfz32_0⟩ := cf1 (w := w29) BK140))
            (try simp only [aP])
            go_loopg [8] k2 (fun kq v8 w' => ∃ (x4_3 : List Int) (x141000_3 : List Int) (u141000 : Value) (gb140 : Nat), v8 = .pointer (some ⟨gb140, 0, none⟩) ∧ Aside0 (impl_groups.l2 kq x3_2 x4_3 (x3_2.length : Int) (l0.length : Int) x27_2 l0 x141000_3 = some r) ∧ Aside0 (kq ≤ k2) ∧ Aside0 (Kd.S (Kd.slice 3 (Kd.int .i64)) 31 w' w.heap.size (fun k_ => some k_ ≠ ((.slice (some ⟨go23, 0, none⟩) x4_2.length co11) : Value).ownBlock ∧ some k_ ≠ (u141000 : Value).ownBlock ∧ k_ ≠ gb140) (.slice Ao24 x3_2.length co24) x3_2) ∧ Aside0 (Kd.R (Kd.int .i64) 3 w' w.heap.size (fun k_ => some k_ ≠ (u141000 : Value).ownBlock) (.slice (some ⟨go23, 0, none⟩) x4_2.length co11) x4_3) ∧ Aside0 (Kd.Q (Kd.int .i64) 3 w' w.heap.size (fun k_ => some k_ ≠ ((.slice (some ⟨go23, 0, none⟩) x4_2.length co11) : Value).ownBlock) u141000 x141000_3) ∧ Aside0 (w'.heap[gb127]? = some (.cells #[(.slice A0 l0.length c0)] 27 (0, 0))) ∧ Aside0 (w'.heap[gb140]? = some (.cells #[u141000] 31 (0, 0))) ∧ Aside0 (Below w.heap.size w w') ∧ Aside0 (w.heap.size ≤ gb140) ∧ Aside0 (gb127 ≠ gb140))
            case atStart => exact ⟨(y136), (y137), (.slice Ao30 y137.length co30), gb140, wZ, H', ⟨Nat.le_refl _⟩, ⟨by (try simp only [hl4_1]); (try simp only [hl4_2]); (with_reducible repeat (first | apply Kd.S_alloc | apply Kd.S_drewN | apply Kd.S_drew)); exact Kd.S_mono (Kd.S_far (p := ⟨gb140, 0, none⟩) (Kd.S_mono HO_3.out (fun k_ hk => (⟨hk, hk.2⟩ : _ ∧ k_ ≠ gb140))) (fun _ hk => hk.2) (.slice Ao30 y137.length co30)) (fun _ hk => ⟨hk.1.1.1.2, ⟨hk.1.1.2, hk.1.2⟩⟩)⟩, ⟨by (try simp only [hl4_1]); (try simp only [hl4_2]); (with_reducible repeat (first | apply Kd.R_alloc | apply Kd.R_drewN | apply Kd.R_drew)); exact Kd.R_mono (Kd.R_far (p := ⟨gb140, 0, none⟩) (Kd.R_types HO_4.out BK140.out (by decide)) (fun _ hk => hk.2) (.slice Ao30 y137.length co30)) (fun _ hk => hk.1.2)⟩, ⟨Kd.Q_of_R (by (try simp only [hl4_1]); (try simp only [hl4_2]); (with_reducible repeat (first | apply Kd.R_alloc | apply Kd.R_drewN | apply Kd.R_drew)); exact Kd.R_mono (Kd.R_far (p := ⟨gb140, 0, none⟩) (Kd.R_types HO139.out BK140.out (by decide)) (fun _ hk => hk.2) (.slice Ao30 y137.length co30)) (fun _ hk => hk.1.2))⟩, ⟨by (try simp only [hl4_1]); (try simp only [hl4_2]); (with_reducible repeat (first | refine blk_drewN ?_ _ | refine blk_drew ?_ | refine blk_alloc ?_ _)); refine blk_far ?_ NB127_140.out _; (with_reducible repeat (first | refine blk_drewN ?_ _ | refine blk_drew ?_ | refine blk_alloc ?_ _)); exact BK127.out⟩, ⟨by (try simp only [hl4_1]); (try simp only [hl4_2]); (with_reducible repeat (first | refine blk_drewN ?_ _ | refine blk_drew ?_ | refine blk_alloc ?_ _)); refine blk_put (cs := #[.slice none 0 0]) ?_ 0 _ rfl; (with_reducible repeat (first | refine blk_drewN ?_ _ | refine blk_drew ?_ | refine blk_alloc ?_ _)); exact BK140.out⟩, ⟨Bq⟩, GE140, NB127_140⟩
            case round =>
             clear H'
             try clear c1
             try clear p1
             try clear q1
             try clear hx1
             try clear hf1
             try clear c2
             try clear c2b0
             try clear c2b1
             try clear p2
             try clear q2
             try clear hx2
             try clear hf2
             try clear c3
             try clear c3b0
             try clear c3b1
             try clear c6
             try clear p6
             try clear c12
             try clear c12b0
             try clear c13
             try clear c13b0
             try clear p13
             try clear q13
             try clear hx13
             try clear c14
             try clear c14b0
             try clear p15
             try clear q15
             try clear hx15
             try clear hf15
             try clear c19
             try clear c19b0
             try clear c20
             try clear c20b0
             try clear c21
             try clear c21b0
             try clear c22
             try clear c22b0
             try clear p23
             try clear q23
             try clear hx23
             try clear hf23
             try clear c31
             try clear hcz18_0
             try clear hcz32_0
             try clear hfz18_0
             try clear hfz32_0
             try clear hx135_0
             try clear hx15_0
             try clear hx23_0
             try clear p1
             try clear p135
             try clear p15
             try clear p2
             try clear p23
             try clear p6
             try clear q1
             try clear q135
             try clear q15
             try clear q23
             obtain ⟨x4_3, x141000_3, u141000, gb140, rfl, HA, HK3, HO_3, HO_4, HO_141000, BK127, BK140, HB, GE140, NB127_140⟩ := hrel; have NB140_127 := am (Ne.symm NB127_140.out); have hl4_3 := (Kd.R_reads' HO_4.out).1; rw [hl4_3] at HO_4
             (try simp only [hl4_3])
             (try simp only [hl4_3] at BK127)
             (try simp only [hl4_3] at BK140)
             (try simp only [hl4_3] at HO_3)
             (try simp only [hl4_3] at HO_141000)
             cases gk with
             | zero => exact absurd HA.out (by simp [impl_groups.l2])
             | succ k3 =>
              have H := HA.out; clear HA
              simp only [impl_groups.l2] at H
              by_cases c33 : (x141000_3.length : Int) > 0
              ·rw [if_pos c33] at H
               have c33b0 : decide (0 < (x141000_3.length : Int)) = true := decide_eq_true c33; (try simp only [hl4_1, hl4_2, hl4_3] at c33b0); have c33b1 : decide (0 < x141000_3.length) = true := decide_eq_true (by omega); clear c33; have H' := am H; clear H; have hnb34 := NB140_127.out; have hnc34 := NB127_140.out; obtain ⟨hcz35_0, hfz35_0⟩ := cf1 (w := wr) BK140; obtain ⟨Ao36, co36, eo36, _⟩ := Kd.Q_slice HO_141000.out; subst eo36; obtain ⟨hcz37_0, hfz37_0⟩ := cf1 (w := wr) BK127
               go_wp2
               go_loopg [50] k3 (fun kq v50 w' => ∃ (x4_4 : List Int) (x50_4 : Int) (x141000_4 : List Int) (u141000 : Value), v50 = .int .i64 x50_4 ∧ Aside0 (impl_groups.l3 kq x3_2 x4_4 (x3_2.length : Int) (l0.length : Int) x27_2 (l0.length : Int) x50_4 l0 x141000_4 = some r) ∧ Aside0 (kq ≤ k3) ∧ Aside0 (Kd.S (Kd.slice 3 (Kd.int .i64)) 31 w' w.heap.size (fun k_ => some k_ ≠ ((.slice (some ⟨go23, 0, none⟩) x4_3.length co11) : Value).ownBlock ∧ some k_ ≠ (u141000 : Value).ownBlock ∧ k_ ≠ gb140) (.slice Ao24 x3_2.length co24) x3_2) ∧ Aside0 (Kd.R (Kd.int .i64) 3 w' w.heap.size (fun k_ => some k_ ≠ (u141000 : Value).ownBlock) (.slice (some ⟨go23, 0, none⟩) x4_3.length co11) x4_4) ∧ Aside0 (Kd.Q (Kd.int .i64) 3 w' w.heap.size (fun k_ => some k_ ≠ ((.slice (some ⟨go23, 0, none⟩) x4_3.length co11) : Value).ownBlock) u141000 x141000_4) ∧ Aside0 (w'.heap[gb127]? = some (.cells #[(.slice A0 l0.length c0)] 27 (0, 0))) ∧ Aside0 (w'.heap[gb140]? = some (.cells #[u141000] 31 (0, 0))) ∧ Aside0 (Below w.heap.size w w'))
               case atStart => exact ⟨(x4_3), (0), (x141000_3), (.slice Ao36 x141000_3.length co36), wZ, H', ⟨Nat.le_refl _⟩, ⟨by (try simp only [hl4_1]); (try simp only [hl4_2]); (try simp only [hl4_3]); (with_reducible repeat (first | apply Kd.S_alloc | apply Kd.S_drewN | apply Kd.S_drew)); exact HO_3.out⟩, ⟨by (try simp only [hl4_1]); (try simp only [hl4_2]); (try simp only [hl4_3]); (with_reducible repeat (first | apply Kd.R_alloc | apply Kd.R_drewN | apply Kd.R_drew)); exact HO_4.out⟩, ⟨by (try simp only [hl4_1]); (try simp only [hl4_2]); (try simp only [hl4_3]); (with_reducible repeat (first | apply Kd.Q_alloc | apply Kd.Q_drewN | apply Kd.Q_drew)); exact HO_141000.out⟩, ⟨by (try simp only [hl4_1]); (try simp only [hl4_2]); (try simp only [hl4_3]); (with_reducible repeat (first | refine blk_drewN ?_ _ | refine blk_drew ?_ | refine blk_alloc ?_ _)); exact BK127.out⟩, ⟨by (try simp only [hl4_1]); (try simp only [hl4_2]); (try simp only [hl4_3]); (with_reducible repeat (first | refine blk_drewN ?_ _ | refine blk_drew ?_ | refine blk_alloc ?_ _)); exact BK140.out⟩, ⟨Bq⟩⟩
               case round =>
                clear H'
                try clear c1
                try clear p1
                try clear q1
                try clear hx1
                try clear hf1
                try clear c2
                try clear c2b0
                try clear c2b1
                try clear p2
                try clear q2
                try clear hx2
                try clear hf2
                try clear c3
                try clear c3b0
                try clear c3b1
                try clear c6
                try clear p6
                try clear c12
                try clear c12b0
                try clear c13
                try clear c13b0
                try clear p13
                try clear q13
                try clear hx13
                try clear c14
                try clear c14b0
                try clear p15
                try clear q15
                try clear hx15
                try clear hf15
                try clear c19
                try clear c19b0
                try clear c20
                try clear c20b0
                try clear c21
                try clear c21b0
                try clear c22
                try clear c22b0
                try clear p23
                try clear q23
                try clear hx23
                try clear hf23
                try clear c31
                try clear c33
                try clear c33b0
                try clear c33b1
                try clear c34
                try clear hcz18_0
                try clear hcz32_0
                try clear hcz35_0
                try clear hcz37_0
                try clear hfz18_0
                try clear hfz32_0
                try clear hfz35_0
                try clear hfz37_0
                try clear hx135_0
                try clear hx15_0
                try clear hx23_0
                try clear p1
                try clear p13
                try clear p135
                try clear p15
                try clear p2
                try clear p23
                try clear p6
                try clear q1
                try clear q13
                try clear q135
                try clear q15
                try clear q2
                try clear q23
                obtain ⟨x4_4, x50_4, x141000_4, u141000, rfl, HA, HK4, HO_3, HO_4, HO_141000, BK127, BK140, HB⟩ := hrel; have hl4_4 := (Kd.R_reads' HO_4.out).1; rw [hl4_4] at HO_4
                (try simp only [hl4_4])
                (try simp only [hl4_4] at BK127)
                (try simp only [hl4_4] at BK140)
                (try simp only [hl4_4] at HO_3)
                (try simp only [hl4_4] at HO_141000)
                cases gk with
                | zero => exact absurd HA.out (by simp [impl_groups.l3])
                | succ k4 =>
                 have H := HA.out; clear HA
                 simp only [impl_groups.l3] at H
                 by_cases c38 : x50_4 < (l0.length : Int)
                 ·rw [if_pos c38] at H
                  have c38b0 : decide (x50_4 < (l0.length : Int)) = true := decide_eq_true c38; (try simp only [hl4_1, hl4_2, hl4_3, hl4_4] at c38b0); clear c38
                  by_cases c39 : 0 ≤ x50_4
                  ·rw [if_pos c39] at H
                   have c39b0 : decide (0 ≤ x50_4) = true := decide_eq_true c39; clear c39
                   by_cases c40 : x50_4 < (x4_4.length : Int)
                   ·rw [if_pos c40] at H
                    have c40b0 : decide (x50_4 < (x4_4.length : Int)) = true := decide_eq_true c40; (try simp only [hl4_1, hl4_2, hl4_3, hl4_4] at c40b0); clear c40
                    by_cases c41 : (rd x4_4 x50_4) < 0
                    ·rw [if_pos c41] at H
                     have c41b0 : decide ((rd x4_4 x50_4) < 0) = true := decide_eq_true c41; clear c41
                     by_cases c42 : x50_4 < (l0.length : Int)
                     ·rw [if_pos c42] at H
                      have c42b0 : decide (x50_4 < (l0.length : Int)) = true := decide_eq_true c42; (try simp only [hl4_1, hl4_2, hl4_3, hl4_4] at c42b0); clear c42; replace H := Option.bind_eq_some_iff.mp H; obtain ⟨t146, A430, H⟩ := H; (try dsimp -simprocs only at H); have A43 := am A430; clear A430
                      by_cases c44 : t146 = true
                      ·subst c44
                       rw [if_pos rfl] at H; obtain ⟨y147, hy147⟩ : ∃ y_ : List Int, y_ = (x4_4.set (x50_4 : Int).toNat (x3_2.length : Int)) := ⟨_, rfl⟩
                       replace H : (if x141000_4.length < 17592186044416 then (impl_groups.l3 k4 x3_2 y147 (x3_2.length : Int) (l0.length : Int) x27_2 (l0.length : Int) (wrap64 (x50_4 + 1)) l0 (x141000_4 ++ [x50_4])) else (none)) = some r := by first | (rw [hy147]; with_reducible exact H) | (have H2_ := (Option.bind_some _ _).symm.trans H; rw [hy147]; with_reducible exact H2_) | (have H2_ := (Option.bind_some _ _).symm.trans H; with_reducible exact H2_) | with_reducible exact H | (rw [hy147]; exact H) | exact H
                       have Ny147 := am hy147; clear hy147
                       by_cases c46 : x141000_4.length < 17592186044416
                       ·rw [if_pos c46] at H
                        have LMc46 := am c46; clear c46; obtain ⟨y148, hy148⟩ : ∃ y_ : List Int, y_ = (x141000_4 ++ [x50_4]) := ⟨_, rfl⟩
                        replace H : (impl_groups.l3 k4 x3_2 y147 (x3_2.length : Int) (l0.length : Int) x27_2 (l0.length : Int) (wrap64 (x50_4 + 1)) l0 y148) = some r := by first | (rw [hy148]; with_reducible exact H) | (have H2_ := (Option.bind_some _ _).symm.trans H; rw [hy148]; with_reducible exact H2_) | (have H2_ := (Option.bind_some _ _).symm.trans H; with_reducible exact H2_) | with_reducible exact H | (rw [hy148]; exact H) | exact H
                        have Ny148 := am hy148; clear hy148; have H' := am H; clear H; have p144 : 0 ≤ (x50_4 : Int) := dT; have q144 : x50_4 < (x4_4.length : Int) := dT; obtain ⟨ad144, e144, hx144_0⟩ := Kd.at_int (Kd.R_reads' HO_4.out).2.2 x50_4 p144 q144; obtain rfl : (⟨go23, 0, none⟩ : Addr) = ad144 := (by injection e144)
                        (first | simp only [add_plain] at hx144_0 | simp only [add_at] at hx144_0 | simp only [Addr.add, Nat.zero_add] at hx144_0 | skip)
                        replace p144 := eq_true p144; replace q144 := eq_true q144; have hnb47 := NB127_140.out; have hnc47 := NB140_127.out; obtain ⟨hcz48_0, hfz48_0⟩ := cf1 (w := wr) BK127; have p145 : 0 ≤ (x50_4 : Int) := dT; have q145 : x50_4 < (l0.length : Int) := dT; obtain ⟨ad145, A145_0, c145_0, e145, hx145_0, hl145_0, hi145_0⟩ := at_L3 HR0.out x50_4 p145 q145; cases e145; replace hx145_0 := (HB.out.cell (World.block_lt_of_cell? w _ hx145_0)).trans hx145_0; have HR145_0 := am hi145_0; have HC145_0 := am hl145_0; clear hi145_0 hl145_0; replace p145 := eq_true p145; replace q145 := eq_true q145; obtain ⟨Ao49, co49, eo49, _⟩ := Kd.Q_slice HO_141000.out; subst eo49
                        go_wp2_with (first | (go_at_call 120; (with_reducible refine (slices_ContainsFunc_int_int_at_impl_groups_1.calls k4 _ _ (rd_L3 l0 x50_4)  gb127 (some ad145) c0 l0 gb140 Ao49 co49 x141000_4 true _ ?side1 ?side2 ?side3 ?side4 ?side5 ?side6 ?side7 ?side8 A43.out).mono ?_); (case side1 => exact Cz (Kd.C_below HR145_0.out HB.out)); (case side2 => exact HC145_0.out); (case side3 => exact Kz BK127.out); (case side4 => exact Cz (Kd.C_below HR0.out HB.out)); (case side5 => exact HC0.out); (case side6 => exact Kz BK140.out); (case side7 => exact Cz ((Kd.Q_reads' HO_141000.out).2.2)); (case side8 => exact (Kd.Q_reads' HO_141000.out).2.1); rintro e w' ⟨rfl, ⟨nd, rfl⟩⟩; (try (rw [drewN_self wr]; generalize hq_ : World.drewN wr _ = wr; have n0_ : Aside0 (Kd.S (Kd.slice 3 (Kd.int .i64)) 31 wr w.heap.size (fun k_ => some k_ ≠ (.slice (some ⟨go23, 0, none⟩) x4_4.length co11 : Value).ownBlock ∧ some k_ ≠ (.slice Ao49 x141000_4.length co49 : Value).ownBlock ∧ k_ ≠ gb140) (.slice Ao24 x3_2.length co24) x3_2) := ⟨by rw [← hq_]; exact (by (with_reducible repeat (first | apply Kd.S_alloc | apply Kd.S_drewN | apply Kd.S_drew)); exact HO_3.out)⟩; have n1_ : Aside0 (Kd.R (Kd.int .i64) 3 wr w.heap.size (fun k_ => some k_ ≠ (.slice Ao49 x141000_4.length co49 : Value).ownBlock) (.slice (some ⟨go23, 0, none⟩) x4_4.length co11) x4_4) := ⟨by rw [← hq_]; exact (Rz HO_4.out)⟩; have n2_ : Aside0 (Kd.Q (Kd.int .i64) 3 wr w.heap.size (fun k_ => some k_ ≠ (.slice (some ⟨go23, 0, none⟩) x4_4.length co11 : Value).ownBlock) (.slice Ao49 x141000_4.length co49) x141000_4) := ⟨by rw [← hq_]; exact (by (with_reducible repeat (first | apply Kd.Q_alloc | apply Kd.Q_drewN | apply Kd.Q_drew)); exact HO_141000.out)⟩; have n3_ : Aside0 (wr.heap[gb127]? = some (.cells #[.slice (some ad145) l0.length c0] 27 (0, 0))) := ⟨by rw [← hq_]; exact (Kz BK127.out)⟩; have n4_ : Aside0 (wr.heap[gb140]? = some (.cells #[.slice Ao49 x141000_4.length co49] 31 (0, 0))) := ⟨by rw [← hq_]; exact (Kz BK140.out)⟩; have n5_ : Aside0 (Below w.heap.size w wr) := ⟨by rw [← hq_]; exact (Bq)⟩; clear HO_3 HO_4 HO_141000 BK127 BK140 HB hq_; revert n0_ n1_ n2_ n3_ n4_ n5_; intro HO_3 HO_4 HO_141000 BK127 BK140 HB)); have p45 : 0 ≤ (x50_4 : Int) := dT; have q45 : (x50_4 : Int) < ((x4_4.length : Int) : Int) := dT; obtain ⟨hx45_0, hf45_0⟩ := Kd.R_celln 0 HO_4.out (x50_4 : Int) p45 q45; replace p45 := eq_true p45; replace q45 := eq_true q45; obtain ⟨hy50_, hz50_⟩ := Kd.R_celln 0 HO_4.out (x50_4 : Int) (dT) (dT); have HP50 := Kd.R_putg HO_4.out (x50_4 : Int) (x3_2.length : Int)) | ((with_reducible refine gate_store (t := 3) (p := 69) rfl ?_); refine store_event (t := 3) (p := 69) (v := ?vo_w51) (w1 := (wr.setCell ⟨go23, (x50_4 : Int).toNat, none⟩ (.int .i64 (x3_2.length : Int)))) ?hg ?ho ?hn ?hr ?_; (case ho => rfl); (case hg => rfl); (case hn => rfl); (case hr => first | (go_simp; done) | (go_simp; rfl)); intro w51 hw; have hg : wr.grownBy w51 (some go23) := (by rw [hw]; exact HP50.2); have hp_ : Kd.R (Kd.int .i64) 3 w51 w.heap.size (fun k_ => some k_ ≠ (.slice Ao49 x141000_4.length co49 : Value).ownBlock) (.slice (some ⟨go23, 0, none⟩) x4_4.length co11) y147 := (by rw [hw, Ny147.out]; exact HP50.1); clear HP50; have n0_ := am (Kd.S_after (v := (.slice (some ⟨go23, 0, none⟩) x4_4.length co11)) (v1 := (.slice (some ⟨go23, 0, none⟩) x4_4.length co11)) (ok := (fun k_ => some k_ ≠ (.slice Ao49 x141000_4.length co49 : Value).ownBlock ∧ k_ ≠ gb140)) (by (with_reducible repeat (first | apply Kd.S_alloc | apply Kd.S_drewN | apply Kd.S_drew)); exact Kd.S_mono HO_3.out (fun _ hk => ⟨⟨hk.2.1, hk.2.2⟩, hk.1⟩)) hg (.inl rfl)); have n1_ := am (hp_); have n2_ := am (Kd.Q_after (v := (.slice (some ⟨go23, 0, none⟩) x4_4.length co11)) (v1 := (.slice (some ⟨go23, 0, none⟩) x4_4.length co11)) (ok := (fun _ => True)) (by (with_reducible repeat (first | apply Kd.Q_alloc | apply Kd.Q_drewN | apply Kd.Q_drew)); exact Kd.Q_mono HO_141000.out (fun _ hk => ⟨trivial, hk⟩)) hg (.inl rfl)); have n3_ := am (blk_grown (g := gb127) (o := .cells #[.slice (some ad145) l0.length c0] 27 (0, 0)) (Kz BK127.out) hg (Kd.R_ne HO_4.out BK127.out (by decide))); have n4_ := am (blk_grown (g := gb140) (o := .cells #[.slice Ao49 x141000_4.length co49] 31 (0, 0)) (Kz BK140.out) hg (Kd.R_ne HO_4.out BK140.out (by decide))); have n5_ := am ((by rw [hw]; exact below_set (HB.out) GB23.out : Below w.heap.size w w51)); clear HO_3 HO_4 HO_141000 BK127 BK140 HB; revert n0_ n1_ n2_ n3_ n4_ n5_; intro HO_3 HO_4 HO_141000 BK127 BK140 HB; clear hg hw hp_; obtain ⟨hcz52_0, hfz52_0⟩ := cf1 (w := w51) BK140) | ((with_reducible refine gate_builtin (b := .append) (xs := #[.tmp 70, .tmp 72]) rfl ?_); at_builtin; refine Kd.Q_append (Kd.int .i64) (w0 := w) w.heap.size rfl (.tmp 70) (.tmp 72) 31 3 (.int .i64 0) 8 rfl Try.underlying31 info3 rfl (by decide) (by omega) (.slice Ao49 x141000_4.length co49) x141000_4 x50_4 [.int .i64 x50_4] (fun k_ => some k_ ≠ (.slice (some ⟨go23, 0, none⟩) x4_4.length co11 : Value).ownBlock) (fun _ => False) rfl rfl ?aP (fun _ hk => hk.elim) ?aF ?aO ?aB ?aS ?aL ?_; (case aP => exact rfl); (case aB => exact (Bq)); (case aF => exact (fun k_ hk => Kd.fresh' (Kd.R_lt (Rz HO_4.out)) k_ hk)); (case aO => exact (by (with_reducible repeat (first | apply Kd.Q_alloc | apply Kd.Q_drewN | apply Kd.Q_drew)); exact Kd.Q_mono HO_141000.out (fun _ hk => hk.2))); (case aS => exact (below_size (w := w) (Bq))); (case aL => have := LMc46.out; omega); intro v149 w53 ho hb hg hat; rw [← Ny148.out] at ho; have n0_ := am (Kd.S_after (ok := (fun k_ => some k_ ≠ (.slice (some ⟨go23, 0, none⟩) x4_4.length co11 : Value).ownBlock ∧ k_ ≠ gb140)) (by (with_reducible repeat (first | apply Kd.S_alloc | apply Kd.S_drewN | apply Kd.S_drew)); exact Kd.S_mono HO_3.out (fun _ hk => ⟨⟨hk.2, hk.1.2⟩, hk.1.1⟩)) hg hat); have n1_ := am (Kd.R_after (ok := (fun _ => True)) (Rz (Kd.R_mono HO_4.out (fun _ hk => ⟨trivial, hk⟩))) hg hat); have n2_ := am (blk_grown (g := gb127) (o := .cells #[.slice (some ad145) l0.length c0] 27 (0, 0)) (Kz BK127.out) hg (Kd.Q_ne HO_141000.out BK127.out (by decide))); have n3_ := am (blk_grown (g := gb140) (o := .cells #[.slice Ao49 x141000_4.length co49] 31 (0, 0)) (Kz BK140.out) hg (Kd.Q_ne HO_141000.out BK140.out (by decide))); have n4_ := am (hb); have n5_ := am (ho); clear HO_3 HO_4 BK127 BK140 HB HO_141000; revert n0_ n1_ n2_ n3_ n4_ n5_; intro HO_3 HO_4 BK127 BK140 HB HO150; clear ho hb hg hat; obtain ⟨Ao54, co54, eo54, _⟩ := Kd.Q_slice HO150.out; subst eo54; obtain ⟨hcz55_0, hfz55_0⟩ := cf1 (w := w53) BK140))
                        (try simp only [← hl4_4])
                        go_roundg k4
                        case measure => have := HK1.out; have := HK2.out; have := HK3.out; have := HK4.out; omega
                        case rel => exact ⟨(y147), (wrap64 (x50_4 + 1)), (y148), (.slice Ao54 y148.length co54), wZ, H', ⟨by have := HK1.out; have := HK2.out; have := HK3.out; have := HK4.out; omega⟩, ⟨by (try simp only [hl4_1]); (try simp only [hl4_2]); (try simp only [hl4_3]); (try simp only [hl4_4]); (with_reducible repeat (first | apply Kd.S_alloc | apply Kd.S_drewN | apply Kd.S_drew)); exact Kd.S_mono (Kd.S_far (p := ⟨gb140, 0, none⟩) (Kd.S_mono HO_3.out (fun k_ hk => (⟨hk, hk.1.2⟩ : _ ∧ k_ ≠ gb140))) (fun _ hk => hk.2) (.slice Ao54 y148.length co54)) (fun _ hk => ⟨hk.1.1.1, ⟨hk.1.2, hk.1.1.2⟩⟩)⟩, ⟨by (try simp only [hl4_1]); (try simp only [hl4_2]); (try simp only [hl4_3]); (try simp only [hl4_4]); (with_reducible repeat (first | apply Kd.R_alloc | apply Kd.R_drewN | apply Kd.R_drew)); exact Kd.R_mono (Kd.R_far (p := ⟨gb140, 0, none⟩) (Kd.R_types HO_4.out BK140.out (by decide)) (fun _ hk => hk.2) (.slice Ao54 y148.length co54)) (fun _ hk => hk.1.2)⟩, ⟨by (try simp only [hl4_1]); (try simp only [hl4_2]); (try simp only [hl4_3]); (try simp only [hl4_4]); (with_reducible repeat (first | apply Kd.Q_alloc | apply Kd.Q_drewN | apply Kd.Q_drew)); exact Kd.Q_mono (Kd.Q_far (p := ⟨gb140, 0, none⟩) (Kd.Q_types HO150.out BK140.out (by decide)) (fun _ hk => hk.2) (.slice Ao54 y148.length co54)) (fun _ hk => hk.1)⟩, ⟨by (try simp only [hl4_1]); (try simp only [hl4_2]); (try simp only [hl4_3]); (try simp only [hl4_4]); (with_reducible repeat (first | refine blk_drewN ?_ _ | refine blk_drew ?_ | refine blk_alloc ?_ _)); refine blk_far ?_ NB127_140.out _; (with_reducible repeat (first | refine blk_drewN ?_ _ | refine blk_drew ?_ | refine blk_alloc ?_ _)); exact BK127.out⟩, ⟨by (try simp only [hl4_1]); (try simp only [hl4_2]); (try simp only [hl4_3]); (try simp only [hl4_4]); (with_reducible repeat (first | refine blk_drewN ?_ _ | refine blk_drew ?_ | refine blk_alloc ?_ _)); refine blk_put (cs := #[.slice Ao49 x141000_4.length co49]) ?_ 0 _ rfl; (with_reducible repeat (first | refine blk_drewN ?_ _ | refine blk_drew ?_ | refine blk_alloc ?_ _)); exact BK140.out⟩, ⟨Bq⟩⟩
                       ·rw [if_neg c46] at H
                        exact absurd H (by simp)
                      ·replace c44 := Bool.eq_false_iff.mpr c44
                       subst c44
                       rw [if_neg (show ¬ (false = true) by decide)] at H; have H' := am H; clear H; have p144 : 0 ≤ (x50_4 : Int) := dT; have q144 : x50_4 < (x4_4.length : Int) := dT; obtain ⟨ad144, e144, hx144_0⟩ := Kd.at_int (Kd.R_reads' HO_4.out).2.2 x50_4 p144 q144; obtain rfl : (⟨go23, 0, none⟩ : Addr) = ad144 := (by injection e144)
                       (first | simp only [add_plain] at hx144_0 | simp only [add_at] at hx144_0 | simp only [Addr.add, Nat.zero_add] at hx144_0 | skip)
                       replace p144 := eq_true p144; replace q144 := eq_true q144; have hnb56 := NB127_140.out; have hnc56 := NB140_127.out; obtain ⟨hcz57_0, hfz57_0⟩ := cf1 (w := wr) BK127; have p145 : 0 ≤ (x50_4 : Int) := dT; have q145 : x50_4 < (l0.length : Int) := dT; obtain ⟨ad145, A145_0, c145_0, e145, hx145_0, hl145_0, hi145_0⟩ := at_L3 HR0.out x50_4 p145 q145; cases e145; replace hx145_0 := (HB.out.cell (World.block_lt_of_cell? w _ hx145_0)).trans hx145_0; have HR145_0 := am hi145_0; have HC145_0 := am hl145_0; clear hi145_0 hl145_0; replace p145 := eq_true p145; replace q145 := eq_true q145; obtain ⟨Ao58, co58, eo58, _⟩ := Kd.Q_slice HO_141000.out; subst eo58
                       go_wp2_with (first | (go_at_call 120; (with_reducible refine (slices_ContainsFunc_int_int_at_impl_groups_1.calls k4 _ _ (rd_L3 l0 x50_4)  gb127 (some ad145) c0 l0 gb140 Ao58 co58 x141000_4 false _ ?side1 ?side2 ?side3 ?side4 ?side5 ?side6 ?side7 ?side8 A43.out).mono ?_); (case side1 => exact Cz (Kd.C_below HR145_0.out HB.out)); (case side2 => exact HC145_0.out); (case side3 => exact Kz BK127.out); (case side4 => exact Cz (Kd.C_below HR0.out HB.out)); (case side5 => exact HC0.out); (case side6 => exact Kz BK140.out); (case side7 => exact Cz ((Kd.Q_reads' HO_141000.out).2.2)); (case side8 => exact (Kd.Q_reads' HO_141000.out).2.1); rintro e w' ⟨rfl, ⟨nd, rfl⟩⟩))
                       (try simp only [← hl4_4])
                       go_roundg k4
                       case measure => have := HK1.out; have := HK2.out; have := HK3.out; have := HK4.out; omega
                       case rel => exact ⟨(x4_4), (wrap64 (x50_4 + 1)), (x141000_4), (.slice Ao58 x141000_4.length co58), wZ, H', ⟨by have := HK1.out; have := HK2.out; have := HK3.out; have := HK4.out; omega⟩, ⟨by (try simp only [hl4_1]); (try simp only [hl4_2]); (try simp only [hl4_3]); (try simp only [hl4_4]); (with_reducible repeat (first | apply Kd.S_alloc | apply Kd.S_drewN | apply Kd.S_drew)); exact HO_3.out⟩, ⟨by (try simp only [hl4_1]); (try simp only [hl4_2]); (try simp only [hl4_3]); (try simp only [hl4_4]); (with_reducible repeat (first | apply Kd.R_alloc | apply Kd.R_drewN | apply Kd.R_drew)); exact HO_4.out⟩, ⟨by (try simp only [hl4_1]); (try simp only [hl4_2]); (try simp only [hl4_3]); (try simp only [hl4_4]); (with_reducible repeat (first | apply Kd.Q_alloc | apply Kd.Q_drewN | apply Kd.Q_drew)); exact HO_141000.out⟩, ⟨by (try simp only [hl4_1]); (try simp only [hl4_2]); (try simp only [hl4_3]); (try simp only [hl4_4]); (with_reducible repeat (first | refine blk_drewN ?_ _ | refine blk_drew ?_ | refine blk_alloc ?_ _)); exact BK127.out⟩, ⟨by (try simp only [hl4_1]); (try simp only [hl4_2]); (try simp only [hl4_3]); (try simp only [hl4_4]); (with_reducible repeat (first | refine blk_drewN ?_ _ | refine blk_drew ?_ | refine blk_alloc ?_ _)); exact BK140.out⟩, ⟨Bq⟩⟩
                     ·rw [if_neg c42] at H
                      exact absurd H (by simp)
                    ·rw [if_neg c41] at H
                     have c41b0 : decide ((rd x4_4 x50_4) < 0) = false := decide_eq_false c41; clear c41; have H' := am H; clear H; have p144 : 0 ≤ (x50_4 : Int) := dT; have q144 : x50_4 < (x4_4.length : Int) := dT; obtain ⟨ad144, e144, hx144_0⟩ := Kd.at_int (Kd.R_reads' HO_4.out).2.2 x50_4 p144 q144; obtain rfl : (⟨go23, 0, none⟩ : Addr) = ad144 := (by injection e144)
                     (first | simp only [add_plain] at hx144_0 | simp only [add_at] at hx144_0 | simp only [Addr.add, Nat.zero_add] at hx144_0 | skip)
                     replace p144 := eq_true p144; replace q144 := eq_true q144
                     go_wp2
                     (try simp only [← hl4_4])
                     go_roundg k4
                     case measure => have := HK1.out; have := HK2.out; have := HK3.out; have := HK4.out; omega
                     case rel => exact ⟨(x4_4), (wrap64 (x50_4 + 1)), (x141000_4), (u141000), wZ, H', ⟨by have := HK1.out; have := HK2.out; have := HK3.out; have := HK4.out; omega⟩, ⟨by (try simp only [hl4_1]); (try simp only [hl4_2]); (try simp only [hl4_3]); (try simp only [hl4_4]); (with_reducible repeat (first | apply Kd.S_alloc | apply Kd.S_drewN | apply Kd.S_drew)); exact HO_3.out⟩, ⟨by (try simp only [hl4_1]); (try simp only [hl4_2]); (try simp only [hl4_3]); (try simp only [hl4_4]); (with_reducible repeat (first | apply Kd.R_alloc | apply Kd.R_drewN | apply Kd.R_drew)); exact HO_4.out⟩, ⟨by (try simp only [hl4_1]); (try simp only [hl4_2]); (try simp only [hl4_3]); (try simp only [hl4_4]); (with_reducible repeat (first | apply Kd.Q_alloc | apply Kd.Q_drewN | apply Kd.Q_drew)); exact HO_141000.out⟩, ⟨by (try simp only [hl4_1]); (try simp only [hl4_2]); (try simp only [hl4_3]); (try simp only [hl4_4]); (with_reducible repeat (first | refine blk_drewN ?_ _ | refine blk_drew ?_ | refine blk_alloc ?_ _)); exact BK127.out⟩, ⟨by (try simp only [hl4_1]); (try simp only [hl4_2]); (try simp only [hl4_3]); (try simp only [hl4_4]); (with_reducible repeat (first | refine blk_drewN ?_ _ | refine blk_drew ?_ | refine blk_alloc ?_ _)); exact BK140.out⟩, ⟨Bq⟩⟩
                   ·rw [if_neg c40] at H
                    exact absurd H (by simp)
                  ·rw [if_neg c39] at H
                   exact absurd H (by simp)
                 ·rw [if_neg c38] at H
                  have c38b0 : decide (x50_4 < (l0.length : Int)) = false := decide_eq_false c38; (try simp only [hl4_1, hl4_2, hl4_3, hl4_4] at c38b0); clear c38
                  by_cases c59 : 1 ≤ (x141000_4.length : Int)
                  ·rw [if_pos c59] at H
                   have c59b0 := eq_true c59; have c59b1 : decide (1 ≤ (x141000_4.length : Int)) = true := decide_eq_true c59; (try simp only [hl4_1, hl4_2, hl4_3, hl4_4] at c59b1); clear c59; obtain ⟨y151, hy151⟩ : ∃ y_ : List Int, y_ = (x141000_4.drop (1 : Int).toNat) := ⟨_, rfl⟩
                   replace H : (impl_groups.l2 k4 x3_2 x4_4 (x3_2.length : Int) (l0.length : Int) x27_2 l0 y151) = some r := by first | (rw [hy151]; with_reducible exact H) | (have H2_ := (Option.bind_some _ _).symm.trans H; rw [hy151]; with_reducible exact H2_) | (have H2_ := (Option.bind_some _ _).symm.trans H; with_reducible exact H2_) | with_reducible exact H | (rw [hy151]; exact H) | exact H
                   have Ny151 := am hy151; clear hy151; have H' := am H; clear H; have hnb60 := NB140_127.out; have hnc60 := NB127_140.out; obtain ⟨hcz61_0, hfz61_0⟩ := cf1 (w := wr) BK140; obtain ⟨Ao62, co62, eo62, _⟩ := Kd.Q_slice HO_141000.out; subst eo62
                   go_wp2_with (first | ((with_reducible refine gate_dst (N := 8) rfl ?_); refine bE 8 #[.slice none 0 0] 31 ?_; intro gb91409 hg wN91409 hbox hb; have n0_ := am (Kd.S_below (Kd.S_elderB (by (with_reducible repeat (first | apply Kd.S_alloc | apply Kd.S_drewN | apply Kd.S_drew)); exact HO_3.out) gb91409 (Nat.le_of_eq hg.symm)) hb); have n1_ := Rb HO_4 hb; have n2_ := am (Kd.Q_below (by (with_reducible repeat (first | apply Kd.Q_alloc | apply Kd.Q_drewN | apply Kd.Q_drew)); exact HO_141000.out) hb); have n3_ := Kb BK127 hb; have n4_ := Bc HB hb; have n5_ := am (hbox); have n6_ := Gm HB hg; have n8_ := Nl BK127 hg; have n9_ := Ng BK127 hg; clear HO_3 HO_4 HO_141000 BK127 HB; revert n0_ n1_ n2_ n3_ n4_ n5_ n6_ n8_ n9_; intro HO_3 HO_4 HO_141000 BK127 HB BK91409 GE91409 NB127_91409 NB91409_127; clear hb hbox hg; have hnb90 := NB91409_127.out; have hnc90 := NB127_91409.out; obtain ⟨hcz90_0, hfz90_0⟩ := cf1 (w := wN91409) BK91409) | ((with_reducible refine gate_store (t := 31) (p := 8) rfl ?_); refine store_event (t := 31) (p := 8) (v := ?vo_w63) (w1 := (wN91409.setCell ⟨gb91409, 0, none⟩ (.slice Ao62 x141000_4.length co62))) ?hg ?ho ?hn ?hr ?_; (case ho => rfl); (case hg => rfl); (case hn => rfl); (case hr => first | (go_simp; done) | (go_simp; rfl)); intro w63 hw; have n0_ : Aside0 (Kd.S (Kd.slice 3 (Kd.int .i64)) 31 w63 w.heap.size (fun k_ => some k_ ≠ (.slice (some ⟨go23, 0, none⟩) x4_4.length co11 : Value).ownBlock ∧ some k_ ≠ (.slice Ao62 x141000_4.length co62 : Value).ownBlock ∧ k_ ≠ gb91409) (.slice Ao24 x3_2.length co24) x3_2) := ⟨(by rw [hw]; exact (by (with_reducible repeat (first | apply Kd.S_alloc | apply Kd.S_drewN | apply Kd.S_drew)); exact Kd.S_mono (Kd.S_far (p := ⟨gb91409, 0, none⟩) (Kd.S_mono HO_3.out (fun k_ hk => (⟨hk, hk.2⟩ : _ ∧ k_ ≠ gb91409))) (fun _ hk => hk.2) (.slice Ao62 x141000_4.length co62)) (fun _ hk => ⟨hk.1.1.1, ⟨hk.1.1.2.1, hk.1.2⟩⟩)))⟩; have n1_ : Aside0 (Kd.R (Kd.int .i64) 3 w63 w.heap.size (fun k_ => some k_ ≠ (.slice Ao62 x141000_4.length co62 : Value).ownBlock) (.slice (some ⟨go23, 0, none⟩) x4_4.length co11) x4_4) := ⟨(by rw [hw]; exact (Rz (Kd.R_mono (Kd.R_far (p := ⟨gb91409, 0, none⟩) (Kd.R_types HO_4.out BK91409.out (by decide)) (fun _ hk => hk.2) (.slice Ao62 x141000_4.length co62)) (fun _ hk => hk.1))))⟩; have n2_ : Aside0 (Kd.Q (Kd.int .i64) 3 w63 w.heap.size (fun k_ => some k_ ≠ (.slice (some ⟨go23, 0, none⟩) x4_4.length co11 : Value).ownBlock) (.slice Ao62 x141000_4.length co62) x141000_4) := ⟨(by rw [hw]; exact (by (with_reducible repeat (first | apply Kd.Q_alloc | apply Kd.Q_drewN | apply Kd.Q_drew)); exact Kd.Q_mono (Kd.Q_far (p := ⟨gb91409, 0, none⟩) (Kd.Q_types HO_141000.out BK91409.out (by decide)) (fun _ hk => hk.2) (.slice Ao62 x141000_4.length co62)) (fun _ hk => hk.1)))⟩; have n3_ : Aside0 (w63.heap[gb127]? = some (.cells #[.slice A0 l0.length c0] 27 (0, 0))) := ⟨(by rw [hw]; exact (by (with_reducible repeat (first | refine blk_drewN ?_ _ | refine blk_drew ?_ | refine blk_alloc ?_ _)); refine blk_far ?_ NB127_91409.out _; exact Kz BK127.out))⟩; have n4_ : Aside0 (w63.heap[gb91409]? = some (.cells #[.slice Ao62 x141000_4.length co62] 31 (0, 0))) := ⟨(by rw [hw]; exact (by (with_reducible repeat (first | refine blk_drewN ?_ _ | refine blk_drew ?_ | refine blk_alloc ?_ _)); refine blk_put (cs := #[.slice none 0 0]) ?_ 0 _ rfl; exact Kz BK91409.out))⟩; have n5_ : Aside0 (Below w.heap.size w w63) := ⟨(by rw [hw]; exact (Bq))⟩; clear hw HO_3 HO_4 HO_141000 BK127 BK91409 HB; revert n0_ n1_ n2_ n3_ n4_ n5_; intro HO_3 HO_4 HO_141000 BK127 BK91409 HB; obtain ⟨hcz64_0, hfz64_0⟩ := cf1 (w := w63) BK91409; have q65 : (1 : Int) ≤ ((x141000_4.length : Int) : Int) := dT; obtain ⟨i065, hi065, _, hsz65, _⟩ := info_parts info3; have hcut65 := cut_from (P := Try.prog) 31 3 .i64 Try.underlying31 hi065 1 hsz65 Ao62 x141000_4.length co62 1 (by omega) q65; have hr65 := Kd.Q_drop (k := (1 : Int).toNat) HO_141000.out (by omega); obtain ⟨A65, hA65⟩ : ∃ A1, A1 = (if co62 = (1 : Int).toNat then Ao62 else (Ao62 : Option Addr).map (·.add ((1 : Int).toNat * 1))) := ⟨_, rfl⟩; obtain ⟨c65, hc65⟩ : ∃ c1, c1 = co62 - (1 : Int).toNat := ⟨_, rfl⟩; have hy65 : y151.length = x141000_4.length - (1 : Int).toNat := (by rw [Ny151.out, List.length_drop]); rw [← Ny151.out] at hr65; rw [← hy65, ← hA65, ← hc65] at hcut65; replace hr65 : Kd.Q (Kd.int .i64) 3 w63 w.heap.size (fun k_ => some k_ ≠ (.slice (some ⟨go23, 0, none⟩) x4_4.length co11 : Value).ownBlock) (.slice A65 y151.length c65) y151 := (by rw [hA65, hc65, hy65]; exact hr65); have HE65 : Aside0 ((Value.slice A65 y151.length c65).ownBlock = (.slice Ao62 x141000_4.length co62 : Value).ownBlock) := ⟨by rw [hA65]; split <;> (cases (Ao62 : Option Addr) <;> rfl)⟩; clear hy65 hi065 hsz65 HO_141000 hA65 hc65; have HO153 := am hr65; clear hr65; replace q65 := eq_true q65; have n_ := am (Kd.S_mono (ok' := fun k_ => (some k_ ≠ (.slice (some ⟨go23, 0, none⟩) x4_4.length co11 : Value).ownBlock ∧ (some k_ ≠ (.slice A65 y151.length c65 : Value).ownBlock ∧ k_ ≠ gb91409))) HO_3.out (fun k_ hk => ⟨hk.1, ⟨(by rw [HE65.out]; exact hk.2.1), hk.2.2⟩⟩)); clear HO_3; have HO_3 := n_; clear n_; have n_ := am (Kd.R_mono (ok' := fun k_ => some k_ ≠ (.slice A65 y151.length c65 : Value).ownBlock) HO_4.out (fun k_ hk => (by rw [HE65.out]; exact hk))); clear HO_4; have HO_4 := n_; clear n_))
                   (try simp only [← hl4_3, ← hl4_4])
                   go_roundg k4
                   case measure => have := HK1.out; have := HK2.out; have := HK3.out; have := HK4.out; omega
                   case rel => exact ⟨(x4_4), (y151), (.slice A65 y151.length c65), gb91409, wZ, H', ⟨by have := HK1.out; have := HK2.out; have := HK3.out; have := HK4.out; omega⟩, ⟨by (try simp only [hl4_1]); (try simp only [hl4_2]); (try simp only [hl4_3]); (try simp only [hl4_4]); (with_reducible repeat (first | apply Kd.S_alloc | apply Kd.S_drewN | apply Kd.S_drew)); exact Kd.S_mono (Kd.S_far (p := ⟨gb91409, 0, none⟩) (Kd.S_mono HO_3.out (fun k_ hk => (⟨hk, hk.2.2⟩ : _ ∧ k_ ≠ gb91409))) (fun _ hk => hk.2) (.slice A65 y151.length c65)) (fun _ hk => ⟨hk.1.1, ⟨hk.1.2.1, hk.1.2.2⟩⟩)⟩, ⟨by (try simp only [hl4_1]); (try simp only [hl4_2]); (try simp only [hl4_3]); (try simp only [hl4_4]); (with_reducible repeat (first | apply Kd.R_alloc | apply Kd.R_drewN | apply Kd.R_drew)); exact Kd.R_mono (Kd.R_far (p := ⟨gb91409, 0, none⟩) (Kd.R_types HO_4.out BK91409.out (by decide)) (fun _ hk => hk.2) (.slice A65 y151.length c65)) (fun _ hk => hk.1)⟩, ⟨by (try simp only [hl4_1]); (try simp only [hl4_2]); (try simp only [hl4_3]); (try simp only [hl4_4]); (with_reducible repeat (first | apply Kd.Q_alloc | apply Kd.Q_drewN | apply Kd.Q_drew)); exact Kd.Q_mono (Kd.Q_far (p := ⟨gb91409, 0, none⟩) (Kd.Q_types HO153.out BK91409.out (by decide)) (fun _ hk => hk.2) (.slice A65 y151.length c65)) (fun _ hk => hk.1)⟩, ⟨by (try simp only [hl4_1]); (try simp only [hl4_2]); (try simp only [hl4_3]); (try simp only [hl4_4]); (with_reducible repeat (first | refine blk_drewN ?_ _ | refine blk_drew ?_ | refine blk_alloc ?_ _)); refine blk_far ?_ NB127_91409.out _; (with_reducible repeat (first | refine blk_drewN ?_ _ | refine blk_drew ?_ | refine blk_alloc ?_ _)); exact BK127.out⟩, ⟨by (try simp only [hl4_1]); (try simp only [hl4_2]); (try simp only [hl4_3]); (try simp only [hl4_4]); (with_reducible repeat (first | refine blk_drewN ?_ _ | refine blk_drew ?_ | refine blk_alloc ?_ _)); refine blk_put (cs := #[.slice Ao62 x141000_4.length co62]) ?_ 0 _ rfl; (with_reducible repeat (first | refine blk_drewN ?_ _ | refine blk_drew ?_ | refine blk_alloc ?_ _)); exact BK91409.out⟩, ⟨Bq⟩, GE91409, NB127_91409⟩
                  ·rw [if_neg c59] at H
                   exact absurd H (by simp)
              ·rw [if_neg c33] at H
               have c33b0 : decide (0 < (x141000_3.length : Int)) = false := decide_eq_false c33; (try simp only [hl4_1, hl4_2, hl4_3] at c33b0); have c33b1 : decide (0 < x141000_3.length) = false := decide_eq_false (by omega); clear c33
               by_cases c66 : x3_2.length < 5864062014805
               ·rw [if_pos c66] at H
                have LMc66 := am c66; clear c66; obtain ⟨y141, hy141⟩ : ∃ y_ : List (List Int), y_ = (x3_2 ++ [[]]) := ⟨_, rfl⟩
                replace H : (impl_groups.l1 k3 y141 x4_3 (l0.length : Int) (wrap64 (x27_2 + 1)) l0) = some r := by first | (rw [hy141]; with_reducible exact H) | (have H2_ := (Option.bind_some _ _).symm.trans H; rw [hy141]; with_reducible exact H2_) | (have H2_ := (Option.bind_some _ _).symm.trans H; with_reducible exact H2_) | with_reducible exact H | (rw [hy141]; exact H) | exact H
                have Ny141 := am hy141; clear hy141; have H' := am H; clear H; have hnb67 := NB140_127.out; have hnc67 := NB127_140.out; obtain ⟨hcz68_0, hfz68_0⟩ := cf1 (w := wr) BK140; obtain ⟨Ao69, co69, eo69, _⟩ := Kd.Q_slice HO_141000.out; subst eo69
                go_wp2_with (first | ((with_reducible refine gate_builtin (b := .append) (xs := #[.tmp 76, .tmp 77]) rfl ?_); at_builtin; refine Kd.S_append (Kd.slice 3 (Kd.int .i64)) (w0 := w) w.heap.size rfl (.tmp 76) (.tmp 77) 27 31 (.slice none 0 0) 24 rfl Try.underlying27 info31 rfl (by decide) (by omega) (.slice Ao24 x3_2.length co24) x3_2 [] [.slice none 0 0] (fun k_ => some k_ ≠ (.slice (some ⟨go23, 0, none⟩) x4_3.length co11 : Value).ownBlock ∧ some k_ ≠ (.slice Ao69 x141000_3.length co69 : Value).ownBlock ∧ k_ ≠ gb140) (fun _ => False) rfl rfl ?aP (fun _ hk => hk.elim) ?aF ?aO ?aB ?aS ?aL ?_; (case aP => exact ⟨.slice none 0 0, rfl, Kd.R_nil _ _ _ _ _⟩); (case aB => exact (Bq)); (case aF => exact (fun k_ hk => ⟨Kd.fresh' (Kd.R_lt (Rz HO_4.out)) k_ hk, Kd.fresh' (Kd.Q_lt (by (with_reducible repeat (first | apply Kd.Q_alloc | apply Kd.Q_drewN | apply Kd.Q_drew)); exact HO_141000.out)) k_ hk, Kd.freshB (g := gb140) (o := .cells #[.slice Ao69 x141000_3.length co69] 31 (0, 0)) (Kz BK140.out) k_ hk⟩)); (case aO => exact (by (with_reducible repeat (first | apply Kd.S_alloc | apply Kd.S_drewN | apply Kd.S_drew)); exact Kd.S_mono HO_3.out (fun k_ hk => ⟨⟨hk.1, ⟨hk.2.1, hk.2.2⟩⟩, fun e_ => e_⟩))); (case aS => exact (below_size (w := w) (Bq))); (case aL => have := LMc66.out; omega); intro v142 w70 ho hb hg hat; rw [← Ny141.out] at ho; have n0_ := am (Kd.R_over' (Rz HO_4.out) (Kd.S_typed (by (with_reducible repeat (first | apply Kd.S_alloc | apply Kd.S_drewN | apply Kd.S_drew)); exact HO_3.out)) (by decide) hg); have n1_ := am (Kd.Q_over' (by (with_reducible repeat (first | apply Kd.Q_alloc | apply Kd.Q_drewN | apply Kd.Q_drew)); exact HO_141000.out) (Kd.S_typed (by (with_reducible repeat (first | apply Kd.S_alloc | apply Kd.S_drewN | apply Kd.S_drew)); exact HO_3.out)) (by decide) hg); have n2_ := am (blk_grown (g := gb127) (o := .cells #[.slice A0 l0.length c0] 27 (0, 0)) (Kz BK127.out) hg (Kd.S_ne HO_3.out BK127.out (by decide))); have n3_ := am (blk_grown (g := gb140) (o := .cells #[.slice Ao69 x141000_3.length co69] 31 (0, 0)) (Kz BK140.out) hg (Kd.S_away HO_3.out (fun _ hk => hk.2.2))); have n4_ := am (hb); have n5_ := am (ho); clear HO_4 HO_141000 BK127 BK140 HB HO_3; revert n0_ n1_ n2_ n3_ n4_ n5_; intro HO_4 HO_141000 BK127 BK140 HB HO143; clear ho hb hg hat))
                (try simp only [← hl4_2, ← hl4_3])
                go_roundg k3
                case measure => have := HK1.out; have := HK2.out; have := HK3.out; omega
                case rel => exact ⟨(y141), (x4_3), (wrap64 (x27_2 + 1)), wZ, H', ⟨by have := HK1.out; have := HK2.out; have := HK3.out; omega⟩, ⟨by (try simp only [hl4_1]); (try simp only [hl4_2]); (try simp only [hl4_3]); (with_reducible repeat (first | apply Kd.S_alloc | apply Kd.S_drewN | apply Kd.S_drew)); exact Kd.S_mono HO143.out (fun _ hk => hk.1)⟩, ⟨by (try simp only [hl4_1]); (try simp only [hl4_2]); (try simp only [hl4_3]); (with_reducible repeat (first | apply Kd.R_alloc | apply Kd.R_drewN | apply Kd.R_drew)); exact Kd.R_mono HO_4.out (fun _ hk => trivial)⟩, ⟨by (try simp only [hl4_1]); (try simp only [hl4_2]); (try simp only [hl4_3]); (with_reducible repeat (first | refine blk_drewN ?_ _ | refine blk_drew ?_ | refine blk_alloc ?_ _)); exact BK127.out⟩, ⟨Bq⟩⟩
               ·rw [if_neg c66] at H
                exact absurd H (by simp)
          ·rw [if_neg c21] at H
           exact absurd H (by simp)
         ·rw [if_neg c20] at H
          exact absurd H (by simp)
        ·rw [if_neg c19] at H
         have c19b0 : decide (x27_2 < (l0.length : Int)) = false := decide_eq_false c19; (try simp only [hl4_1, hl4_2] at c19b0); clear c19; have H' := am H; clear H
         go_wp2
         go_loopg [82] k2 (fun kq v82 w' => ∃ (x3_3 : List (List Int)) (x82_3 : Int), v82 = .int .i64 x82_3 ∧ Aside0 (impl_groups.l4 kq x3_3 x4_2 (x4_2.length : Int) x82_3 = some r) ∧ Aside0 (kq ≤ k2) ∧ Aside0 (Kd.S (Kd.slice 3 (Kd.int .i64)) 31 w' w.heap.size (fun k_ => some k_ ≠ ((.slice Ao11 x4_2.length co11) : Value).ownBlock) u3 x3_3) ∧ Aside0 (Kd.R (Kd.int .i64) 3 w' w.heap.size (fun _ => True) (.slice Ao11 x4_2.length co11) x4_2) ∧ Aside0 (w'.heap[gb127]? = some (.cells #[(.slice A0 l0.length c0)] 27 (0, 0))) ∧ Aside0 (Below w.heap.size w w'))
         case atStart => exact ⟨(x3_2), (0), wZ, H', ⟨Nat.le_refl _⟩, ⟨by (try simp only [hl4_1]); (try simp only [hl4_2]); (with_reducible repeat (first | apply Kd.S_alloc | apply Kd.S_drewN | apply Kd.S_drew)); exact HO_3.out⟩, ⟨by (try simp only [hl4_1]); (try simp only [hl4_2]); (with_reducible repeat (first | apply Kd.R_alloc | apply Kd.R_drewN | apply Kd.R_drew)); exact HO_4.out⟩, ⟨by (try simp only [hl4_1]); (try simp only [hl4_2]); (with_reducible repeat (first | refine blk_drewN ?_ _ | refine blk_drew ?_ | refine blk_alloc ?_ _)); exact BK127.out⟩, ⟨Bq⟩⟩
         case round =>
          clear H'
          try clear c1
          try clear p1
          try clear q1
          try clear hx1
          try clear hf1
          try clear c2
          try clear c2b0
          try clear c2b1
          try clear p2
          try clear q2
          try clear hx2
          try clear hf2
          try clear c3
          try clear c3b0
          try clear c3b1
          try clear c4
          try clear p4
          try clear q4
          try clear hx4
          try clear hf4
          try clear c5
          try clear c6
          try clear p6
          try clear q6
          try clear c12
          try clear c12b0
          try clear c13
          try clear c13b0
          try clear p13
          try clear q13
          try clear hx13
          try clear c14
          try clear c14b0
          try clear p14
          try clear q14
          try clear hx14
          try clear p15
          try clear q15
          try clear hx15
          try clear hf15
          try clear c19
          try clear c19b0
          try clear c20
          try clear c20b0
          try clear c21
          try clear c21b0
          try clear c22
          try clear c22b0
          try clear p23
          try clear q23
          try clear hx23
          try clear hf23
          try clear c31
          try clear c33
          try clear c33b0
          try clear c33b1
          try clear c34
          try clear c38
          try clear c38b0
          try clear c39
          try clear c39b0
          try clear c40
          try clear c40b0
          try clear c41
          try clear c41b0
          try clear c42
          try clear c42b0
          try clear c44
          try clear p45
          try clear q45
          try clear hx45
          try clear hf45
          try clear c46
          try clear c47
          try clear c56
          try clear c59
          try clear c59b0
          try clear c59b1
          try clear c60
          try clear p64
          try clear c65
          try clear q65
          try clear c66
          try clear c67
          try clear hcz18_0
          try clear hcz32_0
          try clear hcz35_0
          try clear hcz37_0
          try clear hcz48_0
          try clear hcz52_0
          try clear hcz55_0
          try clear hcz57_0
          try clear hcz61_0
          try clear hcz64_0
          try clear hcz68_0
          try clear hfz18_0
          try clear hfz32_0
          try clear hfz35_0
          try clear hfz37_0
          try clear hfz48_0
          try clear hfz52_0
          try clear hfz55_0
          try clear hfz57_0
          try clear hfz61_0
          try clear hfz64_0
          try clear hfz68_0
          try clear hx135_0
          try clear hx144_0
          try clear hx145_0
          try clear hx15_0
          try clear hx23_0
          try clear hx45_0
          try clear p1
          try clear p13
          try clear p135
          try clear p144
          try clear p145
          try clear p15
          try clear p2
          try clear p23
          try clear p45
          try clear p6
          try clear q1
          try clear q13
          try clear q135
          try clear q144
          try clear q145
          try clear q15
          try clear q2
          try clear q23
          try clear q45
          try clear q65
          obtain ⟨x3_3, x82_3, rfl, HA, HK3, HO_3, HO_80, BK127, HB⟩ := hrel; cases gk with
          | zero => exact absurd HA.out (by simp [impl_groups.l4])
          | succ k3 =>
           have H := HA.out; clear HA
           simp only [impl_groups.l4] at H
           by_cases c71 : x82_3 < (x4_2.length : Int)
           ·rw [if_pos c71] at H
            have c71b0 : decide (x82_3 < (x4_2.length : Int)) = true := decide_eq_true c71; (try simp only [hl4_1, hl4_2] at c71b0); clear c71
            by_cases c72 : 0 ≤ x82_3
            ·rw [if_pos c72] at H
             have c72b0 : decide (0 ≤ x82_3) = true := decide_eq_true c72; clear c72
             by_cases c73 : x82_3 < (x4_2.length : Int)
             ·rw [if_pos c73] at H
              have c73b0 : decide (x82_3 < (x4_2.length : Int)) = true := decide_eq_true c73; (try simp only [hl4_1, hl4_2] at c73b0); clear c73
              by_cases c74 : 0 ≤ (rd x4_2 x82_3)
              ·rw [if_pos c74] at H
               have c74b0 : decide (0 ≤ (rd x4_2 x82_3)) = true := decide_eq_true c74; clear c74
               by_cases c75 : (rd x4_2 x82_3) < (x3_3.length : Int)
               ·rw [if_pos c75] at H
                have c75b0 : decide ((rd x4_2 x82_3) < (x3_3.length : Int)) = true := decide_eq_true c75; (try simp only [hl4_1, hl4_2] at c75b0); clear c75
                by_cases c76 : (rd_L3 x3_3 (rd x4_2 x82_3)).length < 17592186044416
                ·rw [if_pos c76] at H
                 have LMc76 := am c76; clear c76; obtain ⟨y156, hy156⟩ : ∃ y_ : List Int, y_ = ((rd_L3 x3_3 (rd x4_2 x82_3)) ++ [x82_3]) := ⟨_, rfl⟩
                 replace H : (impl_groups.l4 k3 (x3_3.set ((rd x4_2 x82_3) : Int).toNat y156) x4_2 (x4_2.length : Int) (wrap64 (x82_3 + 1))) = some r := by first | (rw [hy156]; with_reducible exact H) | (have H2_ := (Option.bind_some _ _).symm.trans H; rw [hy156]; with_reducible exact H2_) | (have H2_ := (Option.bind_some _ _).symm.trans H; with_reducible exact H2_) | with_reducible exact H | (rw [hy156]; exact H) | exact H
                 have Ny156 := am hy156; clear hy156; obtain ⟨y159, hy159⟩ : ∃ y_ : List (List Int), y_ = (x3_3.set ((rd x4_2 x82_3) : Int).toNat y156) := ⟨_, rfl⟩
                 replace H : (impl_groups.l4 k3 y159 x4_2 (x4_2.length : Int) (wrap64 (x82_3 + 1))) = some r := by first | (rw [hy159]; with_reducible exact H) | (have H2_ := (Option.bind_some _ _).symm.trans H; rw [hy159]; with_reducible exact H2_) | (have H2_ := (Option.bind_some _ _).symm.trans H; with_reducible exact H2_) | with_reducible exact H | (rw [hy159]; exact H) | exact H
                 have Ny159 := am hy159; clear hy159; have H' := am H; clear H; obtain ⟨ad154, e154, hx154_0⟩ := Kd.at_int (Kd.R_reads' HO_80.out).2.2 x82_3 dT dT; cases e154; have p154 := eT (0 ≤ (x82_3 : Int)); have q154 := eT (x82_3 < (x4_2.length : Int)); obtain ⟨Ao78, co78, eo78⟩ := Kd.S_slice HO_3.out; subst eo78; have p155 : 0 ≤ ((rd x4_2 x82_3) : Int) := dT; have q155 : (rd x4_2 x82_3) < (x3_3.length : Int) := dT; obtain ⟨ad155, A155_0, c155_0, e155, hx155_0, hl155_0, hi155_0⟩ := at_L3 (Kd.S_reads' HO_3.out).2.2 (rd x4_2 x82_3) p155 q155; cases e155; obtain ⟨ce155, hce155, hMe155, hcc155⟩ := Kd.S_get HO_3.out [] (rd x4_2 x82_3) p155 (by first | exact q155 | exact dT | (have e_ := (Kd.S_reads' HO_3.out).1; omega)); obtain ⟨ve155_0, rfl, ge155_0⟩ := hMe155; have hv155_0 := hcc155 0 _ rfl; rw [Nat.add_zero, show ((Kd.slice 3 (Kd.int .i64))).sz = 1 from rfl, Nat.mul_one] at hv155_0; replace hv155_0 := Option.some.inj (hv155_0.symm.trans hx155_0); rw [hv155_0] at ge155_0; have HL155_0 := am (show Kd.R (Kd.int .i64) 3 _ _ _ _ (rd_L3 x3_3 (rd x4_2 x82_3)) from ge155_0); clear hv155_0 ge155_0; have HX155_0 := am hx155_0; clear hcc155 hce155; have HR155_0 := am hi155_0; have HC155_0 := am hl155_0; clear hi155_0 hl155_0; replace p155 := eq_true p155; replace q155 := eq_true q155; obtain ⟨go79, co79, eo79, gb79, gl79, cl79, HG79⟩ := Kd.S_form HO_3.out (by have h_ : ((rd x4_2 x82_3) : Int) < ((x3_3.length : Int) : Int) := dT; have h2_ : 0 ≤ ((rd x4_2 x82_3) : Int) := (dT); omega)
                 (first | cases eo79 | (injection eo79 with ea_ en_ ec_; (first | subst ea_ | (injection ea_ with ea_; subst ea_)); subst ec_; clear en_))
                 have GB79 := am gb79; have GG79 := am HG79; clear gb79 gl79 HG79
                 (first | simp only [add_plain] at hx155_0 | skip)
                 obtain ⟨oki79, ce79, hcl79, hM79, hcc79, _, _, hH79⟩ := Kd.S_elem HO_3.out [] ((rd x4_2 x82_3) : Int) (dT) (by have h_ : ((rd x4_2 x82_3) : Int) < ((x3_3.length : Int) : Int) := dT; first | exact h_ | (have e_ := (Kd.S_reads' HO_3.out).1; omega) | simpa using h_); obtain ⟨ve79_0, rfl, ge79_0⟩ := hM79; have hv79 := hcc79 0 _ rfl; have hX79 := HX155_0.out
                 (try simp only [add_plain] at hX79)
                 (try simp only [Nat.add_zero] at hv79)
                 (try rw [show ((Kd.slice 3 (Kd.int .i64))).sz = 1 from rfl, Nat.mul_one] at hv79)
                 replace hv79 := Option.some.inj (hv79.symm.trans hX79); subst hv79; clear hX79 hcc79 hcl79; have UU79 := am (show Kd.R (Kd.int .i64) 3 _ w.heap.size oki79 (.slice A155_0 (rd_L3 x3_3 (rd x4_2 x82_3)).length c155_0) (rd_L3 x3_3 (rd x4_2 x82_3)) from ge79_0); have HH79 := am hH79; have HN79 := am (Kd.S_reads' HO_3.out).1; clear hH79 ge79_0
                 go_wp2_with (first | ((with_reducible refine gate_builtin (b := .append) (xs := #[.tmp 92, .tmp 94]) rfl ?_); at_builtin; refine Kd.R_append (Kd.int .i64) (w0 := w) w.heap.size rfl (.tmp 92) (.tmp 94) 31 3 (.int .i64 0) 8 rfl Try.underlying31 info3 rfl (by decide) (by omega) (.slice A155_0 (rd_L3 x3_3 (rd x4_2 x82_3)).length c155_0) (rd_L3 x3_3 (rd x4_2 x82_3)) x82_3 [.int .i64 x82_3] (fun k_ => oki79 k_ ∨ ((fun k_ => some k_ ≠ (.slice (some ad154) x4_2.length co11 : Value).ownBlock)) k_ ∧ wr.heap.size ≤ k_) (fun _ => False) rfl rfl ?aP (fun _ hk => hk.elim) ?aF ?aO ?aB ?aS ?aL ?_; (case aP => exact rfl); (case aB => exact (Bq)); (case aF => exact (fun k_ hk => .inr ⟨Kd.fresh' (Kd.R_lt (Rz HO_80.out)) k_ hk, hk⟩)); (case aO => exact (Rz (Kd.R_mono UU79.out (fun _ hk => .inl hk)))); (case aS => exact (below_size (w := w) (Bq))); (case aL => have := LMc76.out; omega); intro v157 w80 ho hb hg hat; rw [← Ny156.out] at ho; have n0_ := am (Kd.R_grown2 (Rz HO_80.out) rfl hg (fun k_ e_ => (HL155_0.out.1 k_ e_).1)); have n1_ := am (blk_grown (g := gb127) (o := .cells #[.slice A0 l0.length c0] 27 (0, 0)) (Kz BK127.out) hg (Kd.R_ne HL155_0.out BK127.out (by decide))); have n2_ := am (hb); have n3_ := am (Kd.H_grown (Kd.H_widen (by repeat (first | exact HH79.out | refine Kd.H_alloc ?_ _ | refine Kd.H_drewN ?_ _ | refine Kd.H_drew ?_))) hg (fun k_ e_ => .inl (UU79.out.1 k_ e_))); have n4_ := am (ho); clear HO_80 BK127 HB HH79 HO_3 UU79 HL155_0; revert n0_ n1_ n2_ n3_ n4_; intro HO_80 BK127 HB HH79 HO158; clear ho hb hg hat; have p77 : 0 ≤ ((rd x4_2 x82_3) : Int) := dT; have q77 : ((rd x4_2 x82_3) : Int) < ((x3_3.length : Int) : Int) := dT; replace p77 := eq_true p77; replace q77 := eq_true q77; obtain ⟨Ao83, co83, eo83⟩ := Kd.R_slice HO158.out; subst eo83; obtain ⟨_, _, hraw81, _, _, hcc81, _⟩ := Kd.H_raw HH79.out (dT) (by have h_ : ((rd x4_2 x82_3) : Int) < ((x3_3.length : Int) : Int) := dT; first | exact h_ | (have e_ := (HN79.out); omega) | simpa using h_); obtain ⟨_, hfr81⟩ := Kd.H_at HH79.out (dT) (by have h_ : ((rd x4_2 x82_3) : Int) < ((x3_3.length : Int) : Int) := dT; first | exact h_ | (have e_ := (HN79.out); omega) | simpa using h_); have hx81_0 := hcc81 0 _ rfl; have hf81_0 := hfr81 0; (try simp only [Nat.add_zero] at hx81_0 hf81_0); (try rw [show ((Kd.slice 3 (Kd.int .i64))).sz = 1 from rfl, Nat.mul_one] at hx81_0); (try rw [show ((Kd.slice 3 (Kd.int .i64))).sz = 1 from rfl, Nat.mul_one] at hf81_0); have HP81 := Kd.S_seg0 HH79.out (dT) (by have h_ : ((rd x4_2 x82_3) : Int) < ((x3_3.length : Int) : Int) := dT; first | exact h_ | (have e_ := (HN79.out); omega) | simpa using h_) (seg := [.slice Ao83 y156.length co83]) (j := 0) (show 1 ≤ 1 from by decide) (x' := y156) (Kd.M_row HO158.out) (fun _ hk => hk); (try simp only [show ((Kd.slice 3 (Kd.int .i64))).sz = 1 from rfl, Nat.mul_one, Nat.add_zero] at HP81); clear hcc81 hfr81) | ((with_reducible refine gate_store (t := 31) (p := 96) rfl ?_); refine store_event (t := 31) (p := 96) (v := ?vo_w82) (w1 := (w80.setCell ⟨go79, ((rd x4_2 x82_3) : Int).toNat, none⟩ (.slice Ao83 y156.length co83))) ?hg ?ho ?hn ?hr ?_; (case ho => rfl); (case hg => rfl); (case hn => rfl); (case hr => first | (go_simp; done) | (go_simp; rfl)); intro w82 hw; have hg : w80.grownBy w82 (some go79) := (by rw [hw]; exact HP81.2); have hp_ : Kd.S (Kd.slice 3 (Kd.int .i64)) 31 w82 w.heap.size (fun k_ => some k_ ≠ (.slice (some ad154) x4_2.length co11 : Value).ownBlock) (.slice (some ⟨go79, 0, none⟩) x3_3.length co78) y159 := (by rw [hw, Ny159.out]; exact HP81.1); clear HP81; have n0_ := am (Kd.R_over' (v := (.slice (some ⟨go79, 0, none⟩) x3_3.length co78)) (Rz HO_80.out) (Kd.R_typed hraw81) (by decide) hg); have n1_ := am (blk_grown (g := gb127) (o := .cells #[.slice A0 l0.length c0] 27 (0, 0)) (Kz BK127.out) hg (Kd.R_ne hraw81 BK127.out (by decide))); have n2_ := am ((by rw [hw]; exact below_set HB.out GB79.out : Below w.heap.size w w82)); have n3_ := am (hp_); clear HO_80 BK127 HB HO158 HH79; revert n0_ n1_ n2_ n3_; intro HO_80 BK127 HB HO_3; clear hg hw hp_ hraw81))
                 go_roundg k3
                 case measure => have := HK1.out; have := HK2.out; have := HK3.out; omega
                 case rel => exact ⟨(y159), (wrap64 (x82_3 + 1)), wZ, H', ⟨by have := HK1.out; have := HK2.out; have := HK3.out; omega⟩, ⟨by (try simp only [hl4_1]); (try simp only [hl4_2]); (with_reducible repeat (first | apply Kd.S_alloc | apply Kd.S_drewN | apply Kd.S_drew)); exact HO_3.out⟩, ⟨by (try simp only [hl4_1]); (try simp only [hl4_2]); (with_reducible repeat (first | apply Kd.R_alloc | apply Kd.R_drewN | apply Kd.R_drew)); exact HO_80.out⟩, ⟨by (try simp only [hl4_1]); (try simp only [hl4_2]); (with_reducible repeat (first | refine blk_drewN ?_ _ | refine blk_drew ?_ | refine blk_alloc ?_ _)); exact BK127.out⟩, ⟨Bq⟩⟩
                ·rw [if_neg c76] at H
                 exact absurd H (by simp)
               ·rw [if_neg c75] at H
                exact absurd H (by simp)
              ·rw [if_neg c74] at H
               exact absurd H (by simp)
             ·rw [if_neg c73] at H
              exact absurd H (by simp)
            ·rw [if_neg c72] at H
             exact absurd H (by simp)
           ·rw [if_neg c71] at H
            have c71b0 : decide (x82_3 < (x4_2.length : Int)) = false := decide_eq_false c71; (try simp only [hl4_1, hl4_2] at c71b0); clear c71; obtain rfl := Option.some.inj H
            go_wp2
            go_ret
            exact ⟨_, eZ, by (with_reducible repeat (first | apply Kd.S_alloc | apply Kd.S_drewN | apply Kd.S_drew)); exact Kd.S_mono HO_3.out (fun _ hk => trivial), Bq⟩
  ·rw [if_neg c3] at H
   exact absurd H (by simp)
 ·rw [if_neg c2] at H
  exact absurd H (by simp)

end Go.Proofs.Ytephjmmkggcmeaa.PP
