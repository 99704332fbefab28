import Derived.Laws.Strings
import Derived.Tactics
import Derived.Lib.LazyBuf
import Derived.Test.YtpkpjikkfikejaaCSH0
import Derived.WalkKit
import Derived.KernelRfl
import Derived.Maps.Own
import Derived.Maps.OwnOps
import Derived.Maps.Views
import Derived.Maps.OwnSet
import Derived.Test.YtpkpjikkfikejaaProg
import Derived.Below
import Derived.Deep.Draws
import Derived.Deep.AppendLies
import Derived.Maps.AppendAt
import Derived.OwnWalk
import Derived.Laws.BytesArg
import Derived.Laws.MakeOwn
import Derived.Laws.OwnMore
import Derived.Deep.OwnRows
import Derived.Lib.ConvBytes
import Derived.Laws.Slices
import Derived.RowKit3
import Derived.Deep.LoopGhost
import Derived.Deep.QuietTactic
import Derived.BigQuiet
import Derived.WideLaws
import Derived.Deep.DeepCutAuto
import Derived.Deep.CutBlock
import Derived.Deep.RegionHeld3
import Derived.Laws.Rows
import Derived.Lib.AppendStr
import Derived.ArgAppend
import Derived.Laws.IdiomCopy
import Derived.OrdersHeld
import Derived.Laws.BitsLemmas
import Derived.RowKit
namespace Go.Proofs.YtpkpjikkfikejaaGp
open Go

theorem str_geq (t : TypeId) (a b : ByteArray) : binOp .geq t (.string a) (.string b) = pure (.bool !(Op.bytesLess a.toList b.toList)) := by simp [binOp, Op.stringOp]

theorem bl_total : ∀ a b : List UInt8, (Op.bytesLess a b || a == b) = !(Op.bytesLess b a)
  | [], [] => by simp [Op.bytesLess]
  | [], b :: l => by simp [Op.bytesLess]
  | a :: l, [] => by simp [Op.bytesLess]
  | a :: l, b :: m => by
    have ih := bl_total l m
    simp only [Op.bytesLess, List.cons_beq_cons]
    by_cases h1 : a < b
    · have h2 : ¬ b < a := fun h => absurd (UInt8.lt_iff_toNat_lt.mp h1) (by have := UInt8.lt_iff_toNat_lt.mp h; omega)
      have h3 : ¬ b = a := fun h => by subst h; exact h2 h1
      simp [h1, h2, h3]
    · by_cases h2 : b < a
      · have h3 : ¬ a = b := fun h => by subst h; exact h1 h2
        simp [h1, h2, h3]
      · have h3 : a = b := by
          apply UInt8.toNat_inj.mp
          have := mt UInt8.lt_iff_toNat_lt.mpr h1; have := mt UInt8.lt_iff_toNat_lt.mpr h2; omega
        subst h3
        simpa using ih

theorem str_gtr (t : TypeId) (a b : ByteArray) : binOp .gtr t (.string a) (.string b) = pure (.bool (Op.bytesLess b.toList a.toList)) := by
  have h := bl_total a.toList b.toList
  have e : binOp .gtr t (.string a) (.string b) = pure (.bool !(Op.bytesLess a.toList b.toList || a.toList == b.toList)) := by simp [binOp, Op.stringOp]
  rw [e, h, Bool.not_not]
theorem str_leq (t : TypeId) (a b : ByteArray) : binOp .leq t (.string a) (.string b) = pure (.bool !(Op.bytesLess b.toList a.toList)) := by
  have h := bl_total a.toList b.toList
  have e : binOp .leq t (.string a) (.string b) = pure (.bool (Op.bytesLess a.toList b.toList || a.toList == b.toList)) := by simp [binOp, Op.stringOp]
  rw [e, h]

section
open Go.Proofs.YtpkpjikkfikejaaW.PrintLast
variable {P : Program} {ops : Array Oper} {Q : Exit → Act → World → Prop}
end

section
open Go.Proofs.YtpkpjikkfikejaaW.PrintWords
end

end Go.Proofs.YtpkpjikkfikejaaGp
namespace Go.Proofs.YtpkpjikkfikejaaSq
open Go Go.RowKit Go.Proofs.YtpkpjikkfikejaaW.PrintWords Go.Proofs.YtpkpjikkfikejaaW.PrintLast

class Stp (W W' : World) : Prop where
  out : Below W.heap.size W W'
instance Stp.rfl_ (W : World) : Stp W W := ⟨Below.refl _ _⟩
instance Stp.alloc_ (W W' : World) (o : Obj) [h : Stp W W'] : Stp W (W'.alloc o) := ⟨below_alloc h.out o⟩
instance Stp.drewN_ (W W' : World) (n : Nat) [h : Stp W W'] : Stp W (W'.drewN n) := ⟨pw_below_drewN h.out n⟩
instance Stp.drewA_ (W w : World) (k n : Nat) [h : Stp W (w.drewN k)] : Stp W (w.drewN (k + n)) := ⟨by rw [← World.drewN_drewN]; exact pw_below_drewN h.out n⟩
instance Stp.drew_ (W W' : World) [h : Stp W W'] : Stp W W'.drew := ⟨below_drew h.out⟩
section
variable {α : Type} {d : Kd α} {e base n : Nat} {ok : Nat → Prop} {u v : Value} {xs : List α} {w W0 W W1 : World} {A : Option Addr} {g : Nat} {o : Obj}
theorem Rz [h' : Stp W0 W] (h : d.R e W0 base ok v xs) : d.R e W base ok v xs := Kd.R_below h h'.out
theorem Kz [h' : Stp W0 W] (h : W0.heap[g]? = some o) : W.heap[g]? = some o := blk_below h h'.out
theorem Bz [h' : Stp W0 W] (h : Below w.heap.size w W0) : Below w.heap.size w W := below_step h h'.out
theorem Bq (h : Below w.heap.size w W := by repeat (first | (with_reducible (refine Aside0.out ?_; assumption)) | (with_reducible apply below_alloc) | (with_reducible apply pw_below_drewN) | (with_reducible apply below_drew1) | ((with_reducible refine below_set ?_ ?_); rotate_left; (with_reducible (refine Aside0.out ?_; assumption))))) : Below w.heap.size w W := h
theorem Cz [h' : Stp W0 W] (h : d.C W0 A n xs) : d.C W A n xs := Kd.C_below h h'.out
theorem Rb [Stp W0 W] (h : Aside0 (d.R e W0 base ok v xs)) (hb : Below W.heap.size W W1) : Aside0 (d.R e W1 base ok v xs) := ⟨Kd.R_below (Rz h.out) hb⟩
theorem Kb [Stp W0 W] (h : Aside0 (W0.heap[g]? = some o)) (hb : Below W.heap.size W W1) : Aside0 (W1.heap[g]? = some o) := ⟨blk_below (Kz h.out) hb⟩
theorem Bb [Stp W0 W] (h : Aside0 (Below w.heap.size w W0)) (hb : Below W.heap.size W W1) : Aside0 (Below w.heap.size w W1) := ⟨below_step (Bz h.out) hb⟩
theorem Re [Stp W0 W] (h : Aside0 (d.R e W0 base ok u xs)) (hv : ∀ k, v.ownBlock = some k → W.heap.size ≤ k) (hb : Below W.heap.size W W1) : Aside0 (d.R e W1 base (fun k => ok k ∧ some k ≠ v.ownBlock) u xs) := ⟨Kd.R_elder' (Rz h.out) hv hb⟩
theorem Rl [Stp W0 W] (h : d.R e W1 W.heap.size ok v xs) (hb : Aside0 (Below w.heap.size w W0)) : Aside0 (d.R e W1 w.heap.size ok v xs) := ⟨Kd.R_lower h (below_size (Bz hb.out))⟩
theorem Gl [Stp W0 W] (hb : Aside0 (Below w.heap.size w W0)) (hg : g = W.heap.size) : Aside0 (w.heap.size ≤ g) := ⟨by rw [hg]; exact below_size (Bz hb.out)⟩
theorem Bc (_h : Aside0 (Below w.heap.size w W0)) (hb : Below W.heap.size W W1) (h : Below w.heap.size w W := by repeat (first | (with_reducible (refine Aside0.out ?_; assumption)) | (with_reducible apply below_alloc) | (with_reducible apply pw_below_drewN) | (with_reducible apply below_drew1) | ((with_reducible refine below_set ?_ ?_); rotate_left; (with_reducible (refine Aside0.out ?_; assumption))))) : Aside0 (Below w.heap.size w W1) := ⟨below_step h hb⟩
theorem Rm (h' : d.R e W1 W.heap.size ok v xs) (_h : Aside0 (Below w.heap.size w W0)) (h : Below w.heap.size w W := by repeat (first | (with_reducible (refine Aside0.out ?_; assumption)) | (with_reducible apply below_alloc) | (with_reducible apply pw_below_drewN) | (with_reducible apply below_drew1) | ((with_reducible refine below_set ?_ ?_); rotate_left; (with_reducible (refine Aside0.out ?_; assumption))))) : Aside0 (d.R e W1 w.heap.size ok v xs) := ⟨Kd.R_lower h' (below_size h)⟩
theorem Gm (_h : Aside0 (Below w.heap.size w W0)) (hg : g = W.heap.size) (h : Below w.heap.size w W := by repeat (first | (with_reducible (refine Aside0.out ?_; assumption)) | (with_reducible apply below_alloc) | (with_reducible apply pw_below_drewN) | (with_reducible apply below_drew1) | ((with_reducible refine below_set ?_ ?_); rotate_left; (with_reducible (refine Aside0.out ?_; assumption))))) : Aside0 (w.heap.size ≤ g) := ⟨by rw [hg]; exact below_size h⟩
theorem Nl [Stp W0 W] {g' : Nat} (h : Aside0 (W0.heap[g]? = some o)) (hg : g' = W.heap.size) : Aside0 (g ≠ g') := ⟨by rw [hg]; exact Nat.ne_of_lt (blk_lt (Kz (W := W) h.out))⟩
theorem Ng [Stp W0 W] {g' : Nat} (h : Aside0 (W0.heap[g]? = some o)) (hg : g' = W.heap.size) : Aside0 (g' ≠ g) := ⟨by rw [hg]; exact Nat.ne_of_gt (blk_lt (Kz (W := W) h.out))⟩
end

theorem aP : (∀ (a : Act) (d : Tmp) (v : Value), a.put (some d) v = { a with tmps := a.tmps.setIfInBounds d v }) ∧ (∀ (a : Act) (v : Value), a.put none v = a) ∧ (∀ (l : List Value) (i : Nat) (x : Value), l.toArray.setIfInBounds i x = (l.set i x).toArray) ∧ (∀ (x : Value) (xs : List Value) (b : Value), (x :: xs).set 0 b = b :: xs) ∧ (∀ (x : Value) (xs : List Value) (n : Nat) (b : Value), (x :: xs).set (n + 1) b = x :: xs.set n b) := ⟨fun _ _ _ => rfl, fun _ _ => rfl, fun _ _ _ => List.setIfInBounds_toArray _ _ _, fun _ _ _ => List.set_cons_zero, fun _ _ _ _ => List.set_cons_succ⟩
theorem wZ {p : Prop} (h : p := by first | rfl | (simp; done) | (simp [*]; done)) : p := h
theorem eZ {p : Prop} (h : p := by first | rfl | (simp [errW_none, errW_some] <;> rfl) | (simp [*, errW_none, errW_some] <;> rfl)) : p := h
theorem nZ {p : Prop} (h : p := by first | exact Kd.R_nil _ _ _ _ _ | exact Kd.N_nil _ _ _ _ _ | exact Kd.V_nil _ _ _ _ _ | exact Kd.Q_nil _ _ _ _ _ | exact Kd.S_nil _ _ _ _ _) : p := h
theorem yZ {p : Prop} (h : p := by first | exact ⟨rfl, _, World.drewN_drewN _ _ _⟩ | exact ⟨rfl, _, Eq.trans (World.drewN_drewN _ _ _) (congrArg (World.drewN _) (Nat.add_assoc _ _ _))⟩) : p := h
theorem eT (p : Prop) [Decidable p] (h : decide p = true := by first | (with_reducible assumption) | assumption) : p = True := eq_true (of_decide_eq_true h)
theorem am {p : Prop} (h : p) : Aside0 p := ⟨h⟩

section
variable {w : World} {g : Nat} {t : TypeId}
theorem dT {p : Prop} [Decidable p] (h : decide p = true := by first | (with_reducible assumption) | assumption) : p := of_decide_eq_true h
theorem cz {cs : Array Value} {v : Value} (h : Aside0 (w.heap[g]? = some (.cells cs t (0, 0)))) (i : Nat) (hv : cs[i]? = some v := by exact rfl) : w.cell? ⟨g, i, none⟩ = some v := (blk_cell h.out i).trans hv
theorem cf2 {v0 v1 : Value} (h : Aside0 (w.heap[g]? = some (.cells #[v0, v1] t (0, 0)))) : w.cell? ⟨g, 0, none⟩ = some v0 ∧ w.cell? ⟨g, 1, none⟩ = some v1 ∧ w.frozen? ⟨g, 0, none⟩ = false ∧ w.frozen? ⟨g, 1, none⟩ = false := ⟨cz h 0, cz h 1, blk_frozen h.out 0, blk_frozen h.out 1⟩
theorem cf4 {v0 v1 v2 v3 : Value} (h : Aside0 (w.heap[g]? = some (.cells #[v0, v1, v2, v3] t (0, 0)))) : w.cell? ⟨g, 0, none⟩ = some v0 ∧ w.cell? ⟨g, 1, none⟩ = some v1 ∧ w.cell? ⟨g, 2, none⟩ = some v2 ∧ w.cell? ⟨g, 3, none⟩ = some v3 ∧ w.frozen? ⟨g, 0, none⟩ = false ∧ w.frozen? ⟨g, 1, none⟩ = false ∧ w.frozen? ⟨g, 2, none⟩ = false ∧ w.frozen? ⟨g, 3, none⟩ = false := ⟨cz h 0, cz h 1, cz h 2, cz h 3, blk_frozen h.out 0, blk_frozen h.out 1, blk_frozen h.out 2, blk_frozen h.out 3⟩
end

theorem bE {P : Program} {ops : Array Oper} {rest : List Oper} {o : Oper} {a : Act} {Q : Exit → Act → World → Prop} {W : World} (N : Tmp) (cs : Array Value) (t : TypeId)
    (h : ∀ g, g = W.heap.size → ∀ w1, w1.heap[g]? = some (.cells cs t (0, 0)) → Below W.heap.size W w1 → wpList P ops Q rest (a.put o.dst (.pointer (some ⟨g, 0, none⟩))) w1)
    (hg : o.guard = none := by exact rfl) (hd : o.dst = some N := by exact rfl)
    (hr : (execOp a.eval o).run P W = .ok (.value (.pointer (some ⟨W.heap.size, 0, none⟩))) (W.alloc (.cells cs t (0, 0))) := by first | (go_simp; done) | (go_simp; rfl)) : wpList P ops Q (o :: rest) a W := box_event hg hd hr h

def bL : Nat → Nat → List Bool
  | 0, _ => []
  | n + 1, m => (m % 2 == 1) :: bL n (m / 2)
def bA (n m : Nat) : Array Bool := ⟨bL n m⟩

section
variable {P : Program} {md : Region.Mode} {ops : Array Oper} {Q : Exit → Act → World → Prop} {S : World → Prop} {ds : List Nat} {T : Bool × List (List Nat × List Nat)}
theorem pZ (i : Nat) (N : Option Tmp) {oi : Oper} {v : Value} {fuel : Nat} {l : Array Bool} {a a' : Act} {w : World} (l' : Array Bool) (hT : rtab md ops = T) (h : wpAnyLast P md ops Q S ds fuel l' a' w)
    (hi : ops[i]? = some oi := by exact rfl) (hN : oi.dst = N := by exact rfl) (hc : anyT T l.toList l'.toList i = true := by kernel_rfl) (hQ : ∀ c a w, Q (.panic c) (a.put oi.dst v) w → Q (.panic c) a w := by exact fun _ _ _ h => h)
    (hw : Region.wanted oi (yielded ops a.tmps) = true := by exact rfl) (hy : ∀ w, (execOp a.eval oi).run P w = .ok (.value v) w := by intro w'; go_simp; with_reducible rfl)
    (ha : a.put N v = a' := by simp only [Act.put, List.setIfInBounds_toArray, List.set_cons_zero, List.set_cons_succ, i64_w, i32_w]; rfl) : wpAnyLast P md ops Q S ds (fuel + 1) l a w :=
  pure_ l' hi hN (any_of hT hc) hQ (Or.inl ⟨hw, hy⟩) ha h
theorem tZ4 (i : Nat) (N : Option Tmp) {oi : Oper} {v : Value} {fuel : Nat} {l : Array Bool} {a a' : Act} {w : World} (l' : Array Bool) (hT : rtab md ops = T) {B : List Nat} (hB : waitsOk T.2 B = true) (hS : S w) (h : wpAnyLast P md ops Q S ds fuel l' a' w)
    (hi : ops[i]? = some oi := by exact rfl) (hN : oi.dst = N := by exact rfl) (hc : takeW T B ds l.toList l'.toList i = true := by kernel_rfl) (hQ : ∀ c a w, Q (.panic c) (a.put oi.dst v) w → Q (.panic c) a w := by exact fun _ _ _ h => h)
    (hw : Region.wanted oi (yielded ops a.tmps) = true := by exact rfl) (hy : ∀ w, S w → (execOp a.eval oi).run P w = .ok (.value v) w := by rintro w' ⟨s0, s1, s2, s3⟩; go_simp; with_reducible rfl)
    (ha : a.put N v = a' := by simp only [Act.put, List.setIfInBounds_toArray, List.set_cons_zero, List.set_cons_succ, i64_w, i32_w]; rfl) : wpAnyLast P md ops Q S ds (fuel + 1) l a w :=
  take_ l' hi hN (take_ofW hT hB hc) hQ (Or.inl ⟨hw, hy⟩) hS ha h
theorem oZ (i : Nat) (N : Option Tmp) {oi : Oper} {fuel : Nat} {l : Array Bool} {a : Act} {w : World} (l' : Array Bool) (hT : rtab md ops = T)
    (h : ∀ K : Act → World → Prop, Shut (∀ a' w', S w' → (S w' → wpAnyLast P md ops Q S ds fuel l' a' w') → K a' w') → if Region.wanted oi (yielded ops a.tmps) = true then Oper.wp P oi a w K Q else K (a.put N undef) w)
    (hi : ops[i]? = some oi := by exact rfl) (hN : oi.dst = N := by exact rfl) (hc : (readyT T.2 l.toList == [i] && l.toList.set i true == l'.toList) = true := by kernel_rfl) (hd : i ∉ ds := by decide) : wpAnyLast P md ops Q S ds (fuel + 1) l a w :=
  one_ l' hi hN (one_of hT hc) hd h
theorem gZ {oi : Oper} {N : Option Tmp} {a : Act} {w : World} {K : Act → World → Prop} {f : FuncId} {fn : Func} {as_ : Array Operand} {ts : Array TypeId} (hf : P.funcs[f]? = some fn) (args : Array Value)
    (h : Calls P f args w fun e w' => ∃ v, e = .returned v ∧ K (a.put N v) w') (hname : (fn.name == "runtime.NumGoroutine") = false := by kernel_rfl) (hb : fn.body.isSome = true := by exact rfl)
    (hw : Region.wanted oi (yielded ops a.tmps) = true := by rfl) (hN : oi.dst = N := by exact rfl) (hop : oi.op = .call { callee := .value (.func f), args := as_, argTypes := ts } := by exact rfl)
    (hargs : as_.map a.eval = args := by (try simp only [List.map_toArray, List.map_cons, List.map_nil]); first | done | rfl | (simp only [List.length_drop, List.length_take]; rfl)) :
    if Region.wanted oi (yielded ops a.tmps) = true then Oper.wp P oi a w K Q else K (a.put N undef) w :=
  goes_ hf hname hb args hw hN hop hargs h
theorem gL {rest : List Oper} {oi : Oper} {a : Act} {w : World} (N : Option Tmp) {f : FuncId} {fn : Func} {as_ : Array Operand} {ts : Array TypeId} (hf : P.funcs[f]? = some fn) (args : Array Value)
    (h : Calls P f args w fun e w' => ∃ v, e = .returned v ∧ wpList P ops Q rest (a.put N v) w') (hd : oi.dst = N := by exact rfl) (hg : oi.guard = none := by exact rfl) (hname : (fn.name == "runtime.NumGoroutine") = false := by kernel_rfl) (hb : fn.body.isSome = true := by exact rfl)
    (hop : oi.op = .call { callee := .value (.func f), args := as_, argTypes := ts } := by exact rfl)
    (hargs : as_.map a.eval = args := by (try simp only [List.map_toArray, List.map_cons, List.map_nil]); first | done | rfl | (simp only [List.length_drop, List.length_take]; rfl)) : wpList P ops Q (oi :: rest) a w :=
  goesL_ N hd hg hf hname hb args hop hargs h
end
end Go.Proofs.YtpkpjikkfikejaaSq
namespace Go.Proofs.YtpkpjikkfikejaaGp
open Go Go.Maps

theorem plainBool_inv {H : Type} {P : Program} {e : TypeId} (he : P.underlying e = some .bool) {v : Value} {z : DataW H × List MemPlace} (h : plainElem P e v = some z) : ∃ a, v = .bool a ∧ z = (.lit (.bool a), []) := by
  unfold plainElem at h
  rw [he] at h
  cases v <;> simp at h
  exact ⟨_, rfl, h.symm⟩
theorem lookB {H : Type} {P : Program} (w : World) {ops : Array Oper} {rest : List Oper} {o : Oper} {a : Act} {Q : Exit → Act → World → Prop}
    (hg : o.guard = none) (m x : Operand) (t : TypeId) (hop : o.op = Op.lookup t m x false)
    (k e : TypeId) (K : Keyed P k) (ht : P.underlying t = some (.map k e)) (he : P.underlying e = some .bool) (hz : (zeroValue e).run P w = .ok (.bool false) w) (b n : Nat) (D : DataW H)
    (hm : a.eval m = .map (some b)) (hown : w.ownsMap P k (plainElem P e) b n D) (key : Value) (kl : Lit) (hx : a.eval x = key) (hkey : keyOf P k key = some kl) (r : Bool)
    (hr : D.atKey kl (.lit (.bool false)) = .lit (.bool r))
    (hK : wpList P ops Q rest (a.put o.dst (.bool r)) w) :
    wpList P ops Q (o :: rest) a w := by
  refine wpList_plain hg fun K' hK' => ?_
  obtain ⟨v, ps, hrun, hv⟩ := hown.lookup K ht hz (plainElem_bool he false) hkey
  obtain ⟨c, rfl, hc⟩ := plainBool_inv he hv
  simp only [Prod.mk.injEq] at hc
  have hcr : c = r := by
    have := hc.1.symm.trans hr
    simpa using this
  subst hcr
  unfold Oper.wp
  simp [execOp, hop, hm, hx, hrun, Result.andThen]
  exact hK' _ _ hK
def nubI : List Int → List Int
  | [] => []
  | x :: t => if t.contains x then nubI t else x :: nubI t
def SetIs (q : IntKind) (D : DataW Unit) (S : List Int) : Prop :=
  Tidy D ∧ (∀ x : Int, D.atKey (.int q x) (.lit (.bool false)) = .lit (.bool (S.contains x))) ∧ (∀ x : Int, Maps.has D (.int q x) = S.contains x) ∧ Maps.size D = (nubI S).length
theorem SetIs.empty (q : IntKind) : SetIs q (.map []) [] := ⟨tidy_empty, fun _ => rfl, fun _ => rfl, rfl⟩
theorem SetIs.put {q : IntKind} {D : DataW Unit} {S : List Int} (h : SetIs q D S) (x : Int) : SetIs q (D.put (.int q x) (.lit (.bool true))) (x :: S) := by
  obtain ⟨h1, h2, h3, h4⟩ := h
  have hk : WideAt.IsKeyLit (.int q x) := by simp [WideAt.IsKeyLit]
  refine ⟨h1.put hk _, fun y => ?_, fun y => ?_, ?_⟩
  · by_cases c : y = x
    · subst c
      rw [atKey_put_same h1.isMap hk]
      simp
    · rw [atKey_put_other (by simpa using c), h2]
      simp [c]
  · by_cases c : y = x
    · subst c
      rw [has_put_same h1.isMap hk]
      simp
    · rw [has_put_other (by simpa using c), h3]
      simp [c]
  · rw [size_put h1, h3, h4]
    show _ = (if S.contains x then nubI S else x :: nubI S).length
    split <;> simp
end Go.Proofs.YtpkpjikkfikejaaGp
-- printed by a program of this session (wip/gp) out of the translation; Lean checks it
namespace Go.Proofs.Ytpkpjikkfikejaa.PB
open Go.RowKit Go.Proofs.YtpkpjikkfikejaaW.PrintWords Go.Proofs.YtpkpjikkfikejaaW.PrintLast Go.Proofs.YtpkpjikkfikejaaW.PrintMore Go.Proofs.YtpkpjikkfikejaaSq
attribute [local go_sem] max2_int min2_int max_two min_two max_three min_three max_four min_four   -- for this text's walks alone
attribute [local go_sem] Go.Proofs.YtpkpjikkfikejaaGp.str_geq Go.Proofs.YtpkpjikkfikejaaGp.str_gtr Go.Proofs.YtpkpjikkfikejaaGp.str_leq
set_option linter.unusedVariables false
set_option linter.unusedSimpArgs false



def errW : Option Int → Value
 | none => .nilIface
 | some c => .iface 0 (.int .i64 c)
theorem errW_none : errW none = .nilIface := rfl
theorem errW_some (c : Int) : errW (some c) = .iface 0 (.int .i64 c) := rfl

theorem info3 : (Try.prog.info? 3).map (fun i => (i.zero, i.size, i.bytes)) = some (some (.int .i64 0), 1, 8) := by kernel_rfl
theorem info9 : (Try.prog.info? 9).map (fun i => (i.zero, i.size, i.bytes)) = some (some (.string ⟨#[]⟩), 1, 16) := by kernel_rfl
-- the values' own types

end Go.Proofs.Ytpkpjikkfikejaa.PB
-- printed by a program of this session (wip/gp) out of the translation; Lean checks it
namespace Go.Proofs.Ytpkpjikkfikejaa.PB
open Go.RowKit Go.Proofs.YtpkpjikkfikejaaW.PrintWords Go.Proofs.YtpkpjikkfikejaaW.PrintLast Go.Proofs.YtpkpjikkfikejaaW.PrintMore Go.Proofs.YtpkpjikkfikejaaSq
attribute [local go_sem] max2_int min2_int max_two min_two max_three min_three max_four min_four   -- for this text's walks alone
attribute [local go_sem] Go.Proofs.YtpkpjikkfikejaaGp.str_geq Go.Proofs.YtpkpjikkfikejaaGp.str_gtr Go.Proofs.YtpkpjikkfikejaaGp.str_leq
set_option linter.unusedVariables false
set_option linter.unusedSimpArgs false

set_option maxHeartbeats 8000000
set_option maxRecDepth 100000
def spec_l1In.f (a0 : Int) (a1 : Int) (a2 : Int) : Option (Bool) := if a0 ≥ a1 then (some (decide (a0 ≤ a2))) else (some false)
theorem spec_l1In.calls (a0 : Int) (a1 : Int) (a2 : Int) (r : Bool) (w : World) (h : spec_l1In.f a0 a1 a2 = some r) :
  Calls Try.prog 151 #[.int .i64 a0, .int .i64 a1, .int .i64 a2] w fun e w' => e = .returned (.bool r) ∧ Drawn0 w w' := by
 have H : (if a0 ≥ a1 then (some (decide (a0 ≤ a2))) else (some false)) = some r := h; clear h
 by_cases c4 : a0 ≥ a1
 ·rw [if_pos c4] at H
  have c4b0 : decide (a1 ≤ a0) = true := decide_eq_true c4; clear c4; obtain rfl := Option.some.inj H
  go_enter Try.func151, Try.ntmps151
  go_wp2
  go_ret
  exact ⟨by first | rfl | (simp; done) | (simp [*]; done), by repeat (first | exact Drawn0.refl _ | apply Drawn0.step)⟩
 ·rw [if_neg c4] at H
  have c4b0 : decide (a1 ≤ a0) = false := decide_eq_false c4; clear c4; obtain rfl := Option.some.inj H
  go_enter Try.func151, Try.ntmps151
  go_wp2
  go_ret
  exact ⟨by first | rfl | (simp; done) | (simp [*]; done), by repeat (first | exact Drawn0.refl _ | apply Drawn0.step)⟩

def spec_fiSize.f (a0 : Int) (a1 : Int) (a2 : Int) : Option (Bool) := (spec_l1In.f a0 0 9999).bind fun t131 => (if t131 = true then ((spec_l1In.f a1 1 8).bind fun t132 => (if t132 = true then ((spec_l1In.f a2 1 512).bind fun t133 => (some t133)) else (some false))) else (some false))
theorem spec_fiSize.calls (a0 : Int) (a1 : Int) (a2 : Int) (r : Bool) (w : World) (h : spec_fiSize.f a0 a1 a2 = some r) :
  Calls Try.prog 83 #[.int .i64 a0, .int .i64 a1, .int .i64 a2] w fun e w' => e = .returned (.bool r) ∧ Drawn0 w w' := by
 have H : ((spec_l1In.f a0 0 9999).bind fun t131 => (if t131 = true then ((spec_l1In.f a1 1 8).bind fun t132 => (if t132 = true then ((spec_l1In.f a2 1 512).bind fun t133 => (some t133)) else (some false))) else (some false))) = some r := h; clear h; replace H := Option.bind_eq_some_iff.mp H; obtain ⟨t131, A40, H⟩ := H; (try dsimp -simprocs only at H); have A4 := am A40; clear A40
 by_cases c5 : t131 = true
 ·subst c5
  rw [if_pos rfl] at H; replace H := Option.bind_eq_some_iff.mp H; obtain ⟨t132, A60, H⟩ := H; (try dsimp -simprocs only at H); have A6 := am A60; clear A60
  by_cases c7 : t132 = true
  ·subst c7
   rw [if_pos rfl] at H; replace H := Option.bind_eq_some_iff.mp H; obtain ⟨t133, A80, H⟩ := H; (try dsimp -simprocs only at H); have A8 := am A80; clear A80; obtain rfl := Option.some.inj H
   go_enter Try.func83, Try.ntmps83
   go_wp2_with (first | ((with_reducible refine gate_callee (f := 151) rfl ?_); refine gL (some 8) Try.func151 #[.int .i64 a0, .int .i64 0, .int .i64 9999] ?_; (with_reducible refine (spec_l1In.calls a0 0 9999 true _ A4.out).mono ?_); rintro e w' ⟨rfl, ⟨nd, rfl⟩⟩; refine ⟨_, rfl, ?_⟩) | (go_at_call 151; (with_reducible refine (spec_l1In.calls a1 1 8 true _ A6.out).mono ?_); rintro e w' ⟨rfl, ⟨nd, rfl⟩⟩) | (go_at_call 151; (with_reducible refine (spec_l1In.calls a2 1 512 t133 _ A8.out).mono ?_); rintro e w' ⟨rfl, ⟨nd, rfl⟩⟩))
   go_ret
   exact ⟨by first | rfl | (simp; done) | (simp [*]; done), by repeat (first | exact Drawn0.refl _ | apply Drawn0.step)⟩
  ·replace c7 := Bool.eq_false_iff.mpr c7
   subst c7
   rw [if_neg (show ¬ (false = true) by decide)] at H; obtain rfl := Option.some.inj H
   go_enter Try.func83, Try.ntmps83
   go_wp2_with (first | ((with_reducible refine gate_callee (f := 151) rfl ?_); refine gL (some 8) Try.func151 #[.int .i64 a0, .int .i64 0, .int .i64 9999] ?_; (with_reducible refine (spec_l1In.calls a0 0 9999 true _ A4.out).mono ?_); rintro e w' ⟨rfl, ⟨nd, rfl⟩⟩; refine ⟨_, rfl, ?_⟩) | (go_at_call 151; (with_reducible refine (spec_l1In.calls a1 1 8 false _ A6.out).mono ?_); rintro e w' ⟨rfl, ⟨nd, rfl⟩⟩))
   go_ret
   exact ⟨by first | rfl | (simp; done) | (simp [*]; done), by repeat (first | exact Drawn0.refl _ | apply Drawn0.step)⟩
 ·replace c5 := Bool.eq_false_iff.mpr c5
  subst c5
  rw [if_neg (show ¬ (false = true) by decide)] at H; obtain rfl := Option.some.inj H
  go_enter Try.func83, Try.ntmps83
  go_wp2_with (first | ((with_reducible refine gate_callee (f := 151) rfl ?_); refine gL (some 8) Try.func151 #[.int .i64 a0, .int .i64 0, .int .i64 9999] ?_; (with_reducible refine (spec_l1In.calls a0 0 9999 false _ A4.out).mono ?_); rintro e w' ⟨rfl, ⟨nd, rfl⟩⟩; refine ⟨_, rfl, ?_⟩))
  go_ret
  exact ⟨by first | rfl | (simp; done) | (simp [*]; done), by repeat (first | exact Drawn0.refl _ | apply Drawn0.step)⟩

def spec_l1All.l0 : Nat → Int → Int → List Int → Int → Int → Option (Bool)
 | 0, _, _, _, _, _ => none
 | k + 1, x1, x2, x9, x10, x11 => if x11 < x10 then (if 0 ≤ x11 then (if x11 < (x9.length : Int) then ((spec_l1In.f (rd x9 x11) x1 x2).bind fun t135 => (if t135 = true then (spec_l1All.l0 k x1 x2 x9 x10 (wrap64 (x11 + 1))) else (some false))) else (none)) else (none)) else (some true)
def spec_l1All.f (k : Nat) (l0 : List Int) (a1 : Int) (a2 : Int) : Option (Bool) := spec_l1All.l0 k a1 a2 l0 (l0.length : Int) 0
theorem spec_l1All.calls (k : Nat) (A0 : Option Addr) (c0 : Nat) (l0 : List Int) (a1 : Int) (a2 : Int) (r : Bool) (w : World) (hr0 : Kd.C (Kd.int .i64) w A0 l0.length l0) (hc0 : l0.length ≤ c0) (h : spec_l1All.f k l0 a1 a2 = some r) :
  Calls Try.prog 161 #[.slice A0 l0.length c0, .int .i64 a1, .int .i64 a2] w fun e w' => e = .returned (.bool r) ∧ Drawn0 w w' := by
 have HR0 := am hr0; have HC0 := am hc0; clear hr0 hc0; have H : (spec_l1All.l0 k a1 a2 l0 (l0.length : Int) 0) = some r := h; clear h; have H' := am H; clear H
 go_enter Try.func161, Try.ntmps161
 go_wp2
 go_loopg [11] k (fun kq v11 w' => ∃ (x11_1 : Int), v11 = .int .i64 x11_1 ∧ Aside0 (spec_l1All.l0 kq a1 a2 l0 (l0.length : Int) x11_1 = some r) ∧ Aside0 (kq ≤ k) ∧ Drawn0 w w')
 case atStart => exact ⟨(0), wZ, H', ⟨Nat.le_refl _⟩, by repeat (first | exact Drawn0.refl _ | apply Drawn0.step)⟩
 case round =>
  clear H'
  try clear c1
  try clear p2
  obtain ⟨x11_1, rfl, HA, HK1, ⟨m1, rfl⟩⟩ := hrel; cases gk with
  | zero => exact absurd HA.out (by simp [spec_l1All.l0])
  | succ k1 =>
   have H := HA.out; clear HA
   simp only [spec_l1All.l0] at H
   by_cases c4 : x11_1 < (l0.length : Int)
   ·rw [if_pos c4] at H
    have c4b0 : decide (x11_1 < (l0.length : Int)) = true := decide_eq_true c4; clear c4
    by_cases c5 : 0 ≤ x11_1
    ·rw [if_pos c5] at H
     have c5b0 : decide (0 ≤ x11_1) = true := decide_eq_true c5; clear c5
     by_cases c6 : x11_1 < (l0.length : Int)
     ·rw [if_pos c6] at H
      have c6b0 : decide (x11_1 < (l0.length : Int)) = true := decide_eq_true c6; clear c6; replace H := Option.bind_eq_some_iff.mp H; obtain ⟨t135, A70, H⟩ := H; (try dsimp -simprocs only at H); have A7 := am A70; clear A70
      by_cases c8 : t135 = true
      ·subst c8
       rw [if_pos rfl] at H; have H' := am H; clear H; obtain ⟨ad134, e134, hx134_0⟩ := Kd.at_int HR0.out x11_1 dT dT; cases e134; have p134 := eT (0 ≤ (x11_1 : Int)); have q134 := eT (x11_1 < (l0.length : Int))
       go_wp2_with (first | ((with_reducible refine gate_callee (f := 151) rfl ?_); refine gL (some 18) Try.func151 #[.int .i64 (rd l0 x11_1), .int .i64 a1, .int .i64 a2] ?_; (with_reducible refine (spec_l1In.calls (rd l0 x11_1) a1 a2 true _ A7.out).mono ?_); rintro e w' ⟨rfl, ⟨nd, rfl⟩⟩; refine ⟨_, rfl, ?_⟩))
       go_roundg k1
       case measure => have := HK1.out; omega
       case rel => exact ⟨(wrap64 (x11_1 + 1)), wZ, H', ⟨by have := HK1.out; omega⟩, by repeat (first | exact Drawn0.refl _ | apply Drawn0.step)⟩
      ·replace c8 := Bool.eq_false_iff.mpr c8
       subst c8
       rw [if_neg (show ¬ (false = true) by decide)] at H; obtain rfl := Option.some.inj H; obtain ⟨ad134, e134, hx134_0⟩ := Kd.at_int HR0.out x11_1 dT dT; cases e134; have p134 := eT (0 ≤ (x11_1 : Int)); have q134 := eT (x11_1 < (l0.length : Int))
       go_wp2_with (first | ((with_reducible refine gate_callee (f := 151) rfl ?_); refine gL (some 18) Try.func151 #[.int .i64 (rd l0 x11_1), .int .i64 a1, .int .i64 a2] ?_; (with_reducible refine (spec_l1In.calls (rd l0 x11_1) a1 a2 false _ A7.out).mono ?_); rintro e w' ⟨rfl, ⟨nd, rfl⟩⟩; refine ⟨_, rfl, ?_⟩))
       go_ret
       exact ⟨by first | rfl | (simp; done) | (simp [*]; done), by repeat (first | exact Drawn0.refl _ | apply Drawn0.step)⟩
     ·rw [if_neg c6] at H
      exact absurd H (by simp)
    ·rw [if_neg c5] at H
     exact absurd H (by simp)
   ·rw [if_neg c4] at H
    have c4b0 : decide (x11_1 < (l0.length : Int)) = false := decide_eq_false c4; clear c4; obtain rfl := Option.some.inj H
    go_wp2
    go_ret
    exact ⟨by first | rfl | (simp; done) | (simp [*]; done), by repeat (first | exact Drawn0.refl _ | apply Drawn0.step)⟩

def spec_biGood.f (k : Nat) (a0_0 : Int) (l0_1 : List Int) : Option (Bool) := (spec_l1In.f a0_0 0 4096).bind fun t137 => (if t137 = true then (if (l0_1.length : Int) = (wrap64 (Int.tdiv (wrap64 (a0_0 + 15)) 16)) then ((spec_l1All.f k l0_1 0 65535).bind fun t138 => (if t138 = true then (if (Int.tmod a0_0 16) = 0 then (some true) else (if 0 ≤ (wrap64 ((l0_1.length : Int) - 1)) then (if (wrap64 ((l0_1.length : Int) - 1)) < (l0_1.length : Int) then (if 0 ≤ (Int.tmod a0_0 16) then (some ((shr .i64 (rd l0_1 (wrap64 ((l0_1.length : Int) - 1))) (Int.tmod a0_0 16)) == 0)) else (none)) else (none)) else (none))) else (some false))) else (some false)) else (some false))
theorem spec_biGood.calls (k : Nat) (a0_0 : Int) (A0_1 : Option Addr) (c0_1 : Nat) (l0_1 : List Int) (r : Bool) (w : World) (hr0_1 : Kd.C (Kd.int .i64) w A0_1 l0_1.length l0_1) (hc0_1 : l0_1.length ≤ c0_1) (h : spec_biGood.f k a0_0 l0_1 = some r) :
  Calls Try.prog 156 #[.agg #[.int .i64 a0_0, .slice A0_1 l0_1.length c0_1]] w fun e w' => e = .returned (.bool r) ∧ Below w.heap.size w w' := by
 have hu26 := Try.underlying26; have HR0_1 := am hr0_1; have HC0_1 := am hc0_1; clear hr0_1 hc0_1; have HB := am (Below.refl w.heap.size w); have H : ((spec_l1In.f a0_0 0 4096).bind fun t137 => (if t137 = true then (if (l0_1.length : Int) = (wrap64 (Int.tdiv (wrap64 (a0_0 + 15)) 16)) then ((spec_l1All.f k l0_1 0 65535).bind fun t138 => (if t138 = true then (if (Int.tmod a0_0 16) = 0 then (some true) else (if 0 ≤ (wrap64 ((l0_1.length : Int) - 1)) then (if (wrap64 ((l0_1.length : Int) - 1)) < (l0_1.length : Int) then (if 0 ≤ (Int.tmod a0_0 16) then (some ((shr .i64 (rd l0_1 (wrap64 ((l0_1.length : Int) - 1))) (Int.tmod a0_0 16)) == 0)) else (none)) else (none)) else (none))) else (some false))) else (some false)) else (some false))) = some r := h; clear h; replace H := Option.bind_eq_some_iff.mp H; obtain ⟨t137, A20, H⟩ := H; (try dsimp -simprocs only at H); have A2 := am A20; clear A20
 by_cases c3 : t137 = true
 ·subst c3
  rw [if_pos rfl] at H
  by_cases c4 : (l0_1.length : Int) = (wrap64 (Int.tdiv (wrap64 (a0_0 + 15)) 16))
  ·rw [if_pos c4] at H
   have c4b0 : ((l0_1.length : Int) == (wrap64 (Int.tdiv (wrap64 (a0_0 + 15)) 16))) = true := beq_iff_eq.mpr c4; have c4b1 : ((l0_1.length : Int) != (wrap64 (Int.tdiv (wrap64 (a0_0 + 15)) 16))) = false := bne_eq_false_iff_eq.mpr c4; clear c4; replace H := Option.bind_eq_some_iff.mp H; obtain ⟨t138, A50, H⟩ := H; (try dsimp -simprocs only at H); have A5 := am A50; clear A50
   by_cases c6 : t138 = true
   ·subst c6
    rw [if_pos rfl] at H
    by_cases c7 : (Int.tmod a0_0 16) = 0
    ·rw [if_pos c7] at H
     have c7b0 : ((Int.tmod a0_0 16) == 0) = true := beq_iff_eq.mpr c7; have c7b1 : ((Int.tmod a0_0 16) != 0) = false := bne_eq_false_iff_eq.mpr c7; clear c7; obtain rfl := Option.some.inj H
     go_enter Try.func156, Try.ntmps156
     go_wp2_with (first | ((with_reducible refine gate_dst (N := 1) rfl ?_); (try (refine gate_guard (by rfl) ?_; dsimp only)); refine bE 1 #[.int .i64 a0_0, .slice A0_1 l0_1.length c0_1] 26 ?_; intro gb136 hg w8 hbox hb; have n0_ := Bb HB hb; have n1_ := am (hbox); have n2_ := Gl HB hg; have n3_ := Gl HB hg; clear HB; revert n0_ n1_ n2_ n3_; intro HB BK136 GW136 GE136; clear hb hbox hg; obtain ⟨hcz9_0, hcz9_1, hfz9_0, hfz9_1⟩ := cf2 (w := w8) BK136) | (go_at_call 151; (with_reducible refine (spec_l1In.calls a0_0 0 4096 true _ A2.out).mono ?_); rintro e w' ⟨rfl, ⟨nd, rfl⟩⟩; (try exact yZ)) | (go_at_call 161; (with_reducible refine (spec_l1All.calls k _ _ l0_1 0 65535 true _ ?side1 ?side2 A5.out).mono ?_); (case side1 => exact Cz (Kd.C_below HR0_1.out (Bq))); (case side2 => exact HC0_1.out); rintro e w' ⟨rfl, ⟨nd, rfl⟩⟩; (try exact yZ)))
     repeat (go_quiet (first | ((with_reducible refine gate_dst (N := 1) rfl ?_); (try (refine gate_guard (by rfl) ?_; dsimp only)); refine bE 1 #[.int .i64 a0_0, .slice A0_1 l0_1.length c0_1] 26 ?_; intro gb136 hg w8 hbox hb; have n0_ := Bb HB hb; have n1_ := am (hbox); have n2_ := Gl HB hg; have n3_ := Gl HB hg; clear HB; revert n0_ n1_ n2_ n3_; intro HB BK136 GW136 GE136; clear hb hbox hg; obtain ⟨hcz9_0, hcz9_1, hfz9_0, hfz9_1⟩ := cf2 (w := w8) BK136) | (go_at_call 151; (with_reducible refine (spec_l1In.calls a0_0 0 4096 true _ A2.out).mono ?_); rintro e w' ⟨rfl, ⟨nd, rfl⟩⟩; (try exact yZ)) | (go_at_call 161; (with_reducible refine (spec_l1All.calls k _ _ l0_1 0 65535 true _ ?side1 ?side2 A5.out).mono ?_); (case side1 => exact Cz (Kd.C_below HR0_1.out (Bq))); (case side2 => exact HC0_1.out); rintro e w' ⟨rfl, ⟨nd, rfl⟩⟩; (try exact yZ))); try go_wp2_with (first | ((with_reducible refine gate_dst (N := 1) rfl ?_); (try (refine gate_guard (by rfl) ?_; dsimp only)); refine bE 1 #[.int .i64 a0_0, .slice A0_1 l0_1.length c0_1] 26 ?_; intro gb136 hg w8 hbox hb; have n0_ := Bb HB hb; have n1_ := am (hbox); have n2_ := Gl HB hg; have n3_ := Gl HB hg; clear HB; revert n0_ n1_ n2_ n3_; intro HB BK136 GW136 GE136; clear hb hbox hg; obtain ⟨hcz9_0, hcz9_1, hfz9_0, hfz9_1⟩ := cf2 (w := w8) BK136) | (go_at_call 151; (with_reducible refine (spec_l1In.calls a0_0 0 4096 true _ A2.out).mono ?_); rintro e w' ⟨rfl, ⟨nd, rfl⟩⟩; (try exact yZ)) | (go_at_call 161; (with_reducible refine (spec_l1All.calls k _ _ l0_1 0 65535 true _ ?side1 ?side2 A5.out).mono ?_); (case side1 => exact Cz (Kd.C_below HR0_1.out (Bq))); (case side2 => exact HC0_1.out); rintro e w' ⟨rfl, ⟨nd, rfl⟩⟩; (try exact yZ))))
     go_ret
     exact ⟨eZ, Bq⟩
    ·rw [if_neg c7] at H
     have c7b0 : ((Int.tmod a0_0 16) == 0) = false := beq_eq_false_iff_ne.mpr c7; have c7b1 : ((Int.tmod a0_0 16) != 0) = true := bne_iff_ne.mpr c7; obtain ⟨ji10, hji10⟩ : ∃ j_ : Int, (wrap64 ((l0_1.length : Int) - 1)) = j_ := ⟨_, rfl⟩
     replace H : (if 0 ≤ (ji10) then (if (ji10) < (l0_1.length : Int) then (if 0 ≤ (Int.tmod a0_0 16) then (some ((shr .i64 (rd l0_1 (ji10)) (Int.tmod a0_0 16)) == 0)) else (none)) else (none)) else (none)) = some r := by first | (rw [hji10] at H; exact H) | (simp only [hji10] at H ⊢; exact H)
     (try rw [hji10] at A2)
     (try rw [hji10] at A5)
     have hji10w : (IntKind.i64.wrap ((l0_1.length : Int) - 1)) = ji10 := (i64_w _).trans hji10
     by_cases c11 : 0 ≤ (ji10)
     ·rw [if_pos c11] at H
      have c11b0 : decide (0 ≤ (ji10)) = true := decide_eq_true c11; clear c11
      by_cases c12 : (ji10) < (l0_1.length : Int)
      ·rw [if_pos c12] at H
       have c12b0 : decide ((ji10) < (l0_1.length : Int)) = true := decide_eq_true c12; clear c12; obtain ⟨ji13, hji13⟩ : ∃ j_ : Int, (Int.tmod a0_0 16) = j_ := ⟨_, rfl⟩
       replace H : (if 0 ≤ (ji13) then (some ((shr .i64 (rd l0_1 (ji10)) (ji13)) == 0)) else (none)) = some r := by first | (rw [hji13] at H; exact H) | (simp only [hji13] at H ⊢; exact H)
       (try rw [hji13] at c7b0)
       (try rw [hji13] at c7b1)
       (try rw [hji13] at A2)
       (try rw [hji13] at A5)
       by_cases c14 : 0 ≤ (ji13)
       ·rw [if_pos c14] at H
        have c14b0 := eq_true c14; have c14b1 : decide (0 ≤ (ji13)) = true := decide_eq_true c14; clear c14; obtain ⟨ji15, hji15⟩ : ∃ j_ : Int, (shr .i64 (rd l0_1 (ji10)) (ji13)) = j_ := ⟨_, rfl⟩
        replace H : (some ((ji15) == 0)) = some r := by first | (rw [hji15] at H; exact H) | (simp only [hji15] at H ⊢; exact H)
        (try rw [hji15] at A2)
        (try rw [hji15] at A5)
        have hji15_ : ((rd l0_1 (ji10)) / 2 ^ min (ji13).toNat 64) = ji15 := hji15; have hji15z : (ji13) ≤ 64 → ((rd l0_1 (ji10)) / 2 ^ (ji13).toNat) = ji15 := shr_small hji15; obtain rfl := Option.some.inj H
        go_enter Try.func156, Try.ntmps156
        go_wp2_with (first | ((with_reducible refine gate_dst (N := 1) rfl ?_); (try (refine gate_guard (by rfl) ?_; dsimp only)); refine bE 1 #[.int .i64 a0_0, .slice A0_1 l0_1.length c0_1] 26 ?_; intro gb136 hg w16 hbox hb; have n0_ := Bb HB hb; have n1_ := am (hbox); have n2_ := Gl HB hg; have n3_ := Gl HB hg; clear HB; revert n0_ n1_ n2_ n3_; intro HB BK136 GW136 GE136; clear hb hbox hg; obtain ⟨hcz17_0, hcz17_1, hfz17_0, hfz17_1⟩ := cf2 (w := w16) BK136) | (go_at_call 151; (with_reducible refine (spec_l1In.calls a0_0 0 4096 true _ A2.out).mono ?_); rintro e w' ⟨rfl, ⟨nd, rfl⟩⟩; (try exact yZ)) | (go_at_call 161; (with_reducible refine (spec_l1All.calls k _ _ l0_1 0 65535 true _ ?side1 ?side2 A5.out).mono ?_); (case side1 => exact Cz (Kd.C_below HR0_1.out (Bq))); (case side2 => exact HC0_1.out); rintro e w' ⟨rfl, ⟨nd, rfl⟩⟩; (try exact yZ); have p139 : 0 ≤ ((ji10) : Int) := dT; have q139 : (ji10) < (l0_1.length : Int) := dT; obtain ⟨ad139, e139, hx139_0⟩ := Kd.at_int HR0_1.out (ji10) p139 q139; cases e139; replace hx139_0 := (HB.out.cell (World.block_lt_of_cell? w _ hx139_0)).trans hx139_0; replace p139 := eq_true p139; replace q139 := eq_true q139))
        repeat (go_quiet (first | ((with_reducible refine gate_dst (N := 1) rfl ?_); (try (refine gate_guard (by rfl) ?_; dsimp only)); refine bE 1 #[.int .i64 a0_0, .slice A0_1 l0_1.length c0_1] 26 ?_; intro gb136 hg w16 hbox hb; have n0_ := Bb HB hb; have n1_ := am (hbox); have n2_ := Gl HB hg; have n3_ := Gl HB hg; clear HB; revert n0_ n1_ n2_ n3_; intro HB BK136 GW136 GE136; clear hb hbox hg; obtain ⟨hcz17_0, hcz17_1, hfz17_0, hfz17_1⟩ := cf2 (w := w16) BK136) | (go_at_call 151; (with_reducible refine (spec_l1In.calls a0_0 0 4096 true _ A2.out).mono ?_); rintro e w' ⟨rfl, ⟨nd, rfl⟩⟩; (try exact yZ)) | (go_at_call 161; (with_reducible refine (spec_l1All.calls k _ _ l0_1 0 65535 true _ ?side1 ?side2 A5.out).mono ?_); (case side1 => exact Cz (Kd.C_below HR0_1.out (Bq))); (case side2 => exact HC0_1.out); rintro e w' ⟨rfl, ⟨nd, rfl⟩⟩; (try exact yZ); have p139 : 0 ≤ ((ji10) : Int) := dT; have q139 : (ji10) < (l0_1.length : Int) := dT; obtain ⟨ad139, e139, hx139_0⟩ := Kd.at_int HR0_1.out (ji10) p139 q139; cases e139; replace hx139_0 := (HB.out.cell (World.block_lt_of_cell? w _ hx139_0)).trans hx139_0; replace p139 := eq_true p139; replace q139 := eq_true q139)); try go_wp2_with (first | ((with_reducible refine gate_dst (N := 1) rfl ?_); (try (refine gate_guard (by rfl) ?_; dsimp only)); refine bE 1 #[.int .i64 a0_0, .slice A0_1 l0_1.length c0_1] 26 ?_; intro gb136 hg w16 hbox hb; have n0_ := Bb HB hb; have n1_ := am (hbox); have n2_ := Gl HB hg; have n3_ := Gl HB hg; clear HB; revert n0_ n1_ n2_ n3_; intro HB BK136 GW136 GE136; clear hb hbox hg; obtain ⟨hcz17_0, hcz17_1, hfz17_0, hfz17_1⟩ := cf2 (w := w16) BK136) | (go_at_call 151; (with_reducible refine (spec_l1In.calls a0_0 0 4096 true _ A2.out).mono ?_); rintro e w' ⟨rfl, ⟨nd, rfl⟩⟩; (try exact yZ)) | (go_at_call 161; (with_reducible refine (spec_l1All.calls k _ _ l0_1 0 65535 true _ ?side1 ?side2 A5.out).mono ?_); (case side1 => exact Cz (Kd.C_below HR0_1.out (Bq))); (case side2 => exact HC0_1.out); rintro e w' ⟨rfl, ⟨nd, rfl⟩⟩; (try exact yZ); have p139 : 0 ≤ ((ji10) : Int) := dT; have q139 : (ji10) < (l0_1.length : Int) := dT; obtain ⟨ad139, e139, hx139_0⟩ := Kd.at_int HR0_1.out (ji10) p139 q139; cases e139; replace hx139_0 := (HB.out.cell (World.block_lt_of_cell? w _ hx139_0)).trans hx139_0; replace p139 := eq_true p139; replace q139 := eq_true q139)))
        go_ret
        exact ⟨by first | rfl | (simp [errW_none, errW_some] <;> rfl) | (simp only [← hji10, ← hji13, ← hji15]; first | rfl | (simp [errW_none, errW_some] <;> rfl)) | (simp [*, errW_none, errW_some] <;> rfl), Bq⟩
       ·rw [if_neg c14] at H
        exact absurd H (by simp)
      ·rw [if_neg c12] at H
       exact absurd H (by simp)
     ·rw [if_neg c11] at H
      exact absurd H (by simp)
   ·replace c6 := Bool.eq_false_iff.mpr c6
    subst c6
    rw [if_neg (show ¬ (false = true) by decide)] at H; obtain rfl := Option.some.inj H
    go_enter Try.func156, Try.ntmps156
    go_wp2_with (first | ((with_reducible refine gate_dst (N := 1) rfl ?_); (try (refine gate_guard (by rfl) ?_; dsimp only)); refine bE 1 #[.int .i64 a0_0, .slice A0_1 l0_1.length c0_1] 26 ?_; intro gb136 hg w18 hbox hb; have n0_ := Bb HB hb; have n1_ := am (hbox); have n2_ := Gl HB hg; have n3_ := Gl HB hg; clear HB; revert n0_ n1_ n2_ n3_; intro HB BK136 GW136 GE136; clear hb hbox hg; obtain ⟨hcz19_0, hcz19_1, hfz19_0, hfz19_1⟩ := cf2 (w := w18) BK136) | (go_at_call 151; (with_reducible refine (spec_l1In.calls a0_0 0 4096 true _ A2.out).mono ?_); rintro e w' ⟨rfl, ⟨nd, rfl⟩⟩; (try exact yZ)) | (go_at_call 161; (with_reducible refine (spec_l1All.calls k _ _ l0_1 0 65535 false _ ?side1 ?side2 A5.out).mono ?_); (case side1 => exact Cz (Kd.C_below HR0_1.out (Bq))); (case side2 => exact HC0_1.out); rintro e w' ⟨rfl, ⟨nd, rfl⟩⟩; (try exact yZ)))
    repeat (go_quiet (first | ((with_reducible refine gate_dst (N := 1) rfl ?_); (try (refine gate_guard (by rfl) ?_; dsimp only)); refine bE 1 #[.int .i64 a0_0, .slice A0_1 l0_1.length c0_1] 26 ?_; intro gb136 hg w18 hbox hb; have n0_ := Bb HB hb; have n1_ := am (hbox); have n2_ := Gl HB hg; have n3_ := Gl HB hg; clear HB; revert n0_ n1_ n2_ n3_; intro HB BK136 GW136 GE136; clear hb hbox hg; obtain ⟨hcz19_0, hcz19_1, hfz19_0, hfz19_1⟩ := cf2 (w := w18) BK136) | (go_at_call 151; (with_reducible refine (spec_l1In.calls a0_0 0 4096 true _ A2.out).mono ?_); rintro e w' ⟨rfl, ⟨nd, rfl⟩⟩; (try exact yZ)) | (go_at_call 161; (with_reducible refine (spec_l1All.calls k _ _ l0_1 0 65535 false _ ?side1 ?side2 A5.out).mono ?_); (case side1 => exact Cz (Kd.C_below HR0_1.out (Bq))); (case side2 => exact HC0_1.out); rintro e w' ⟨rfl, ⟨nd, rfl⟩⟩; (try exact yZ))); try go_wp2_with (first | ((with_reducible refine gate_dst (N := 1) rfl ?_); (try (refine gate_guard (by rfl) ?_; dsimp only)); refine bE 1 #[.int .i64 a0_0, .slice A0_1 l0_1.length c0_1] 26 ?_; intro gb136 hg w18 hbox hb; have n0_ := Bb HB hb; have n1_ := am (hbox); have n2_ := Gl HB hg; have n3_ := Gl HB hg; clear HB; revert n0_ n1_ n2_ n3_; intro HB BK136 GW136 GE136; clear hb hbox hg; obtain ⟨hcz19_0, hcz19_1, hfz19_0, hfz19_1⟩ := cf2 (w := w18) BK136) | (go_at_call 151; (with_reducible refine (spec_l1In.calls a0_0 0 4096 true _ A2.out).mono ?_); rintro e w' ⟨rfl, ⟨nd, rfl⟩⟩; (try exact yZ)) | (go_at_call 161; (with_reducible refine (spec_l1All.calls k _ _ l0_1 0 65535 false _ ?side1 ?side2 A5.out).mono ?_); (case side1 => exact Cz (Kd.C_below HR0_1.out (Bq))); (case side2 => exact HC0_1.out); rintro e w' ⟨rfl, ⟨nd, rfl⟩⟩; (try exact yZ))))
    go_ret
    exact ⟨eZ, Bq⟩
  ·rw [if_neg c4] at H
   have c4b0 : ((l0_1.length : Int) == (wrap64 (Int.tdiv (wrap64 (a0_0 + 15)) 16))) = false := beq_eq_false_iff_ne.mpr c4; have c4b1 : ((l0_1.length : Int) != (wrap64 (Int.tdiv (wrap64 (a0_0 + 15)) 16))) = true := bne_iff_ne.mpr c4; obtain rfl := Option.some.inj H
   go_enter Try.func156, Try.ntmps156
   go_wp2_with (first | ((with_reducible refine gate_dst (N := 1) rfl ?_); (try (refine gate_guard (by rfl) ?_; dsimp only)); refine bE 1 #[.int .i64 a0_0, .slice A0_1 l0_1.length c0_1] 26 ?_; intro gb136 hg w20 hbox hb; have n0_ := Bb HB hb; have n1_ := am (hbox); have n2_ := Gl HB hg; have n3_ := Gl HB hg; clear HB; revert n0_ n1_ n2_ n3_; intro HB BK136 GW136 GE136; clear hb hbox hg; obtain ⟨hcz21_0, hcz21_1, hfz21_0, hfz21_1⟩ := cf2 (w := w20) BK136) | (go_at_call 151; (with_reducible refine (spec_l1In.calls a0_0 0 4096 true _ A2.out).mono ?_); rintro e w' ⟨rfl, ⟨nd, rfl⟩⟩; (try exact yZ)))
   repeat (go_quiet (first | ((with_reducible refine gate_dst (N := 1) rfl ?_); (try (refine gate_guard (by rfl) ?_; dsimp only)); refine bE 1 #[.int .i64 a0_0, .slice A0_1 l0_1.length c0_1] 26 ?_; intro gb136 hg w20 hbox hb; have n0_ := Bb HB hb; have n1_ := am (hbox); have n2_ := Gl HB hg; have n3_ := Gl HB hg; clear HB; revert n0_ n1_ n2_ n3_; intro HB BK136 GW136 GE136; clear hb hbox hg; obtain ⟨hcz21_0, hcz21_1, hfz21_0, hfz21_1⟩ := cf2 (w := w20) BK136) | (go_at_call 151; (with_reducible refine (spec_l1In.calls a0_0 0 4096 true _ A2.out).mono ?_); rintro e w' ⟨rfl, ⟨nd, rfl⟩⟩; (try exact yZ))); try go_wp2_with (first | ((with_reducible refine gate_dst (N := 1) rfl ?_); (try (refine gate_guard (by rfl) ?_; dsimp only)); refine bE 1 #[.int .i64 a0_0, .slice A0_1 l0_1.length c0_1] 26 ?_; intro gb136 hg w20 hbox hb; have n0_ := Bb HB hb; have n1_ := am (hbox); have n2_ := Gl HB hg; have n3_ := Gl HB hg; clear HB; revert n0_ n1_ n2_ n3_; intro HB BK136 GW136 GE136; clear hb hbox hg; obtain ⟨hcz21_0, hcz21_1, hfz21_0, hfz21_1⟩ := cf2 (w := w20) BK136) | (go_at_call 151; (with_reducible refine (spec_l1In.calls a0_0 0 4096 true _ A2.out).mono ?_); rintro e w' ⟨rfl, ⟨nd, rfl⟩⟩; (try exact yZ))))
   go_ret
   exact ⟨eZ, Bq⟩
 ·replace c3 := Bool.eq_false_iff.mpr c3
  subst c3
  rw [if_neg (show ¬ (false = true) by decide)] at H; obtain rfl := Option.some.inj H
  go_enter Try.func156, Try.ntmps156
  go_wp2_with (first | ((with_reducible refine gate_dst (N := 1) rfl ?_); (try (refine gate_guard (by rfl) ?_; dsimp only)); refine bE 1 #[.int .i64 a0_0, .slice A0_1 l0_1.length c0_1] 26 ?_; intro gb136 hg w22 hbox hb; have n0_ := Bb HB hb; have n1_ := am (hbox); have n2_ := Gl HB hg; have n3_ := Gl HB hg; clear HB; revert n0_ n1_ n2_ n3_; intro HB BK136 GW136 GE136; clear hb hbox hg; obtain ⟨hcz23_0, hcz23_1, hfz23_0, hfz23_1⟩ := cf2 (w := w22) BK136) | (go_at_call 151; (with_reducible refine (spec_l1In.calls a0_0 0 4096 false _ A2.out).mono ?_); rintro e w' ⟨rfl, ⟨nd, rfl⟩⟩; (try exact yZ)))
  repeat (go_quiet (first | ((with_reducible refine gate_dst (N := 1) rfl ?_); (try (refine gate_guard (by rfl) ?_; dsimp only)); refine bE 1 #[.int .i64 a0_0, .slice A0_1 l0_1.length c0_1] 26 ?_; intro gb136 hg w22 hbox hb; have n0_ := Bb HB hb; have n1_ := am (hbox); have n2_ := Gl HB hg; have n3_ := Gl HB hg; clear HB; revert n0_ n1_ n2_ n3_; intro HB BK136 GW136 GE136; clear hb hbox hg; obtain ⟨hcz23_0, hcz23_1, hfz23_0, hfz23_1⟩ := cf2 (w := w22) BK136) | (go_at_call 151; (with_reducible refine (spec_l1In.calls a0_0 0 4096 false _ A2.out).mono ?_); rintro e w' ⟨rfl, ⟨nd, rfl⟩⟩; (try exact yZ))); try go_wp2_with (first | ((with_reducible refine gate_dst (N := 1) rfl ?_); (try (refine gate_guard (by rfl) ?_; dsimp only)); refine bE 1 #[.int .i64 a0_0, .slice A0_1 l0_1.length c0_1] 26 ?_; intro gb136 hg w22 hbox hb; have n0_ := Bb HB hb; have n1_ := am (hbox); have n2_ := Gl HB hg; have n3_ := Gl HB hg; clear HB; revert n0_ n1_ n2_ n3_; intro HB BK136 GW136 GE136; clear hb hbox hg; obtain ⟨hcz23_0, hcz23_1, hfz23_0, hfz23_1⟩ := cf2 (w := w22) BK136) | (go_at_call 151; (with_reducible refine (spec_l1In.calls a0_0 0 4096 false _ A2.out).mono ?_); rintro e w' ⟨rfl, ⟨nd, rfl⟩⟩; (try exact yZ))))
  go_ret
  exact ⟨eZ, Bq⟩

def spec_fiGood.f (k : Nat) (a0_0 : Int) (a0_1 : Int) (a0_2 : Int) (l0_3 : List Int) : Option (Bool) := (spec_biGood.f k a0_2 l0_3).bind fun t141 => (if t141 = true then ((spec_fiSize.f a0_0 a0_1 a0_2).bind fun t142 => (some t142)) else (some false))
theorem spec_fiGood.calls (k : Nat) (a0_0 : Int) (a0_1 : Int) (a0_2 : Int) (A0_3 : Option Addr) (c0_3 : Nat) (l0_3 : List Int) (r : Bool) (w : World) (hr0_3 : Kd.C (Kd.int .i64) w A0_3 l0_3.length l0_3) (hc0_3 : l0_3.length ≤ c0_3) (h : spec_fiGood.f k a0_0 a0_1 a0_2 l0_3 = some r) :
  Calls Try.prog 94 #[.agg #[.int .i64 a0_0, .int .i64 a0_1, .int .i64 a0_2, .slice A0_3 l0_3.length c0_3]] w fun e w' => e = .returned (.bool r) ∧ Below w.heap.size w w' := by
 have hu28 := Try.underlying28; have hu26 := Try.underlying26; have HR0_3 := am hr0_3; have HC0_3 := am hc0_3; clear hr0_3 hc0_3; have HB := am (Below.refl w.heap.size w); have H : ((spec_biGood.f k a0_2 l0_3).bind fun t141 => (if t141 = true then ((spec_fiSize.f a0_0 a0_1 a0_2).bind fun t142 => (some t142)) else (some false))) = some r := h; clear h; replace H := Option.bind_eq_some_iff.mp H; obtain ⟨t141, A20, H⟩ := H; (try dsimp -simprocs only at H); have A2 := am A20; clear A20
 by_cases c3 : t141 = true
 ·subst c3
  rw [if_pos rfl] at H; replace H := Option.bind_eq_some_iff.mp H; obtain ⟨t142, A40, H⟩ := H; (try dsimp -simprocs only at H); have A4 := am A40; clear A40; obtain rfl := Option.some.inj H
  go_enter Try.func94, Try.ntmps94
  go_wp2_with (first | ((with_reducible refine gate_dst (N := 1) rfl ?_); refine bE 1 #[.int .i64 a0_0, .int .i64 a0_1, .int .i64 a0_2, .slice A0_3 l0_3.length c0_3] 28 ?_; intro gb140 hg w5 hbox hb; have n0_ := Bb HB hb; have n1_ := am (hbox); have n2_ := Gl HB hg; have n3_ := Gl HB hg; clear HB; revert n0_ n1_ n2_ n3_; intro HB BK140 GW140 GE140; clear hb hbox hg; obtain ⟨hcz6_0, hcz6_1, hcz6_2, hcz6_3, hfz6_0, hfz6_1, hfz6_2, hfz6_3⟩ := cf4 (w := w5) BK140) | ((with_reducible refine gate_callee (f := 156) rfl ?_); refine gL (some 5) Try.func156 #[.agg #[.int .i64 a0_2, .slice A0_3 l0_3.length c0_3]] ?_; (with_reducible refine (spec_biGood.calls k a0_2 _ _ l0_3 true _ ?side1 ?side2 A2.out).mono ?_); (case side1 => exact Cz (Kd.C_below HR0_3.out HB.out)); (case side2 => exact HC0_3.out); rintro e w7 ⟨rfl, hb⟩; refine ⟨_, rfl, ?_⟩; have n0_ := Kb BK140 hb; have n1_ := Bc HB hb; clear BK140 HB; revert n0_ n1_; intro BK140 HB; (try clear hb); (try clear hb2); (try clear hk); (try clear hi); obtain ⟨hcz8_0, hcz8_1, hcz8_2, hcz8_3, hfz8_0, hfz8_1, hfz8_2, hfz8_3⟩ := cf4 (w := w7) BK140) | (go_at_call 83; (with_reducible refine (spec_fiSize.calls a0_0 a0_1 a0_2 t142 _ A4.out).mono ?_); rintro e w' ⟨rfl, ⟨nd, rfl⟩⟩))
  go_ret
  exact ⟨eZ, Bq⟩
 ·replace c3 := Bool.eq_false_iff.mpr c3
  subst c3
  rw [if_neg (show ¬ (false = true) by decide)] at H; obtain rfl := Option.some.inj H
  go_enter Try.func94, Try.ntmps94
  go_wp2_with (first | ((with_reducible refine gate_dst (N := 1) rfl ?_); refine bE 1 #[.int .i64 a0_0, .int .i64 a0_1, .int .i64 a0_2, .slice A0_3 l0_3.length c0_3] 28 ?_; intro gb140 hg w9 hbox hb; have n0_ := Bb HB hb; have n1_ := am (hbox); have n2_ := Gl HB hg; have n3_ := Gl HB hg; clear HB; revert n0_ n1_ n2_ n3_; intro HB BK140 GW140 GE140; clear hb hbox hg; obtain ⟨hcz10_0, hcz10_1, hcz10_2, hcz10_3, hfz10_0, hfz10_1, hfz10_2, hfz10_3⟩ := cf4 (w := w9) BK140) | ((with_reducible refine gate_callee (f := 156) rfl ?_); refine gL (some 5) Try.func156 #[.agg #[.int .i64 a0_2, .slice A0_3 l0_3.length c0_3]] ?_; (with_reducible refine (spec_biGood.calls k a0_2 _ _ l0_3 false _ ?side1 ?side2 A2.out).mono ?_); (case side1 => exact Cz (Kd.C_below HR0_3.out HB.out)); (case side2 => exact HC0_3.out); rintro e w11 ⟨rfl, hb⟩; refine ⟨_, rfl, ?_⟩; have n0_ := Kb BK140 hb; have n1_ := Bc HB hb; clear BK140 HB; revert n0_ n1_; intro BK140 HB; (try clear hb); (try clear hb2); (try clear hk); (try clear hi)))
  go_ret
  exact ⟨eZ, Bq⟩

def spec_biAt.f (a0_0 : Int) (l0_1 : List Int) (a1 : Int) : Option (Bool) := if 0 ≤ (wrap64 (Int.tdiv a1 16)) then (if (wrap64 (Int.tdiv a1 16)) < (l0_1.length : Int) then (if 0 ≤ (Int.tmod a1 16) then (some ((Go.bits .and .i64 (shr .i64 (rd l0_1 (wrap64 (Int.tdiv a1 16))) (Int.tmod a1 16)) 1) == 1)) else (none)) else (none)) else (none)
theorem spec_biAt.calls (a0_0 : Int) (A0_1 : Option Addr) (c0_1 : Nat) (l0_1 : List Int) (a1 : Int) (r : Bool) (w : World) (hr0_1 : Kd.C (Kd.int .i64) w A0_1 l0_1.length l0_1) (hc0_1 : l0_1.length ≤ c0_1) (h : spec_biAt.f a0_0 l0_1 a1 = some r) :
  Calls Try.prog 144 #[.agg #[.int .i64 a0_0, .slice A0_1 l0_1.length c0_1], .int .i64 a1] w fun e w' => e = .returned (.bool r) ∧ Below w.heap.size w w' := by
 have hu26 := Try.underlying26; have HR0_1 := am hr0_1; have HC0_1 := am hc0_1; clear hr0_1 hc0_1; have HB := am (Below.refl w.heap.size w); have H : (if 0 ≤ (wrap64 (Int.tdiv a1 16)) then (if (wrap64 (Int.tdiv a1 16)) < (l0_1.length : Int) then (if 0 ≤ (Int.tmod a1 16) then (some ((Go.bits .and .i64 (shr .i64 (rd l0_1 (wrap64 (Int.tdiv a1 16))) (Int.tmod a1 16)) 1) == 1)) else (none)) else (none)) else (none)) = some r := h; clear h; obtain ⟨ji3, hji3⟩ : ∃ j_ : Int, (wrap64 (Int.tdiv a1 16)) = j_ := ⟨_, rfl⟩
 replace H : (if 0 ≤ (ji3) then (if (ji3) < (l0_1.length : Int) then (if 0 ≤ (Int.tmod a1 16) then (some ((Go.bits .and .i64 (shr .i64 (rd l0_1 (ji3)) (Int.tmod a1 16)) 1) == 1)) else (none)) else (none)) else (none)) = some r := by first | (rw [hji3] at H; exact H) | (simp only [hji3] at H ⊢; exact H)
 have hji3w : (IntKind.i64.wrap (Int.tdiv a1 16)) = ji3 := (i64_w _).trans hji3
 by_cases c4 : 0 ≤ (ji3)
 ·rw [if_pos c4] at H
  have c4b0 : decide (0 ≤ (ji3)) = true := decide_eq_true c4; clear c4
  by_cases c5 : (ji3) < (l0_1.length : Int)
  ·rw [if_pos c5] at H
   have c5b0 : decide ((ji3) < (l0_1.length : Int)) = true := decide_eq_true c5; clear c5; obtain ⟨ji6, hji6⟩ : ∃ j_ : Int, (Int.tmod a1 16) = j_ := ⟨_, rfl⟩
   replace H : (if 0 ≤ (ji6) then (some ((Go.bits .and .i64 (shr .i64 (rd l0_1 (ji3)) (ji6)) 1) == 1)) else (none)) = some r := by first | (rw [hji6] at H; exact H) | (simp only [hji6] at H ⊢; exact H)
   by_cases c7 : 0 ≤ (ji6)
   ·rw [if_pos c7] at H
    have c7b0 := eq_true c7; have c7b1 : decide (0 ≤ (ji6)) = true := decide_eq_true c7; clear c7; obtain ⟨ji8, hji8⟩ : ∃ j_ : Int, (shr .i64 (rd l0_1 (ji3)) (ji6)) = j_ := ⟨_, rfl⟩
    replace H : (some ((Go.bits .and .i64 (ji8) 1) == 1)) = some r := by first | (rw [hji8] at H; exact H) | (simp only [hji8] at H ⊢; exact H)
    have hji8_ : ((rd l0_1 (ji3)) / 2 ^ min (ji6).toNat 64) = ji8 := hji8; have hji8z : (ji6) ≤ 64 → ((rd l0_1 (ji3)) / 2 ^ (ji6).toNat) = ji8 := shr_small hji8; obtain rfl := Option.some.inj H
    go_enter Try.func144, Try.ntmps144
    go_wp2_with (first | ((with_reducible refine gate_dst (N := 2) rfl ?_); refine bE 2 #[.int .i64 a0_0, .slice A0_1 l0_1.length c0_1] 26 ?_; intro gb143 hg w9 hbox hb; have n0_ := Bb HB hb; have n1_ := am (hbox); have n2_ := Gl HB hg; have n3_ := Gl HB hg; clear HB; revert n0_ n1_ n2_ n3_; intro HB BK143 GW143 GE143; clear hb hbox hg; obtain ⟨hcz10_0, hcz10_1, hfz10_0, hfz10_1⟩ := cf2 (w := w9) BK143; have p144 : 0 ≤ ((ji3) : Int) := dT; have q144 : (ji3) < (l0_1.length : Int) := dT; obtain ⟨ad144, e144, hx144_0⟩ := Kd.at_int HR0_1.out (ji3) p144 q144; cases e144; replace hx144_0 := (HB.out.cell (World.block_lt_of_cell? w _ hx144_0)).trans hx144_0; replace p144 := eq_true p144; replace q144 := eq_true q144))
    go_ret
    exact ⟨by first | rfl | (simp [errW_none, errW_some] <;> rfl) | (simp only [← hji3, ← hji6, ← hji8]; first | rfl | (simp [errW_none, errW_some] <;> rfl)) | (simp [*, errW_none, errW_some] <;> rfl), Bq⟩
   ·rw [if_neg c7] at H
    exact absurd H (by simp)
  ·rw [if_neg c5] at H
   exact absurd H (by simp)
 ·rw [if_neg c4] at H
  exact absurd H (by simp)

def spec_biHash.l0 : Nat → ByteArray → Int → Int → Option (Int)
 | 0, _, _, _ => none
 | k + 1, x2, x7, x8 => if x8 < (x2.size : Int) then (if 0 ≤ x8 then (spec_biHash.l0 k x2 (Int.tmod (wrap64 ((wrap64 (263 * x7)) + (wrap64 (bt x2 x8)))) 65521) (wrap64 (x8 + 1))) else (none)) else (some (Int.tmod (wrap64 ((Int.tmod (wrap64 ((Int.tmod (wrap64 ((Int.tmod (wrap64 ((Int.tmod (wrap64 (x7 * x7)) 65521) * (Int.tmod (wrap64 (x7 * x7)) 65521))) 65521) * x7)) 65521) * (Int.tmod (wrap64 ((Int.tmod (wrap64 ((Int.tmod (wrap64 (x7 * x7)) 65521) * (Int.tmod (wrap64 (x7 * x7)) 65521))) 65521) * x7)) 65521))) 65521) * x7)) 65521))
def spec_biHash.f (k : Nat) (a0 : Int) (a1 : Int) (a2 : ByteArray) : Option (Int) := spec_biHash.l0 k a2 (Int.tmod (wrap64 ((wrap64 ((wrap64 (31 * a0)) + (wrap64 (977 * a1)))) + 7)) 65521) 0
theorem spec_biHash.calls (k : Nat) (a0 : Int) (a1 : Int) (a2 : ByteArray) (r : Int) (w : World) (h : spec_biHash.f k a0 a1 a2 = some r) :
  Calls Try.prog 191 #[.int .i64 a0, .int .i64 a1, .string a2] w fun e w' => e = .returned (.int .i64 r) ∧ Drawn0 w w' := by
 have H : (spec_biHash.l0 k a2 (Int.tmod (wrap64 ((wrap64 ((wrap64 (31 * a0)) + (wrap64 (977 * a1)))) + 7)) 65521) 0) = some r := h; clear h; have H' := am H; clear H
 go_enter Try.func191, Try.ntmps191
 go_wp2
 go_loopg [7, 8] k (fun kq v7 v8 w' => ∃ (x7_1 : Int) (x8_1 : Int), v7 = .int .i64 x7_1 ∧ v8 = .int .i64 x8_1 ∧ Aside0 (spec_biHash.l0 kq a2 x7_1 x8_1 = some r) ∧ Aside0 (kq ≤ k) ∧ Drawn0 w w')
 case atStart => exact ⟨(Int.tmod (wrap64 ((wrap64 ((wrap64 (31 * a0)) + (wrap64 (977 * a1)))) + 7)) 65521), (0), wZ, wZ, H', ⟨Nat.le_refl _⟩, by repeat (first | exact Drawn0.refl _ | apply Drawn0.step)⟩
 case round =>
  clear H'
  try clear c1
  try clear p2
  obtain ⟨x7_1, x8_1, rfl, rfl, HA, HK1, ⟨m1, rfl⟩⟩ := hrel; cases gk with
  | zero => exact absurd HA.out (by simp [spec_biHash.l0])
  | succ k1 =>
   have H := HA.out; clear HA
   simp only [spec_biHash.l0] at H
   by_cases c4 : x8_1 < (a2.size : Int)
   ·rw [if_pos c4] at H
    have c4b0 : decide (x8_1 < (a2.size : Int)) = true := decide_eq_true c4; clear c4
    by_cases c5 : 0 ≤ x8_1
    ·rw [if_pos c5] at H
     have c5b0 : decide (0 ≤ x8_1) = true := decide_eq_true c5; clear c5; have H' := am H; clear H; have p6 : 0 ≤ (x8_1 : Int) := dT; have q6 : x8_1 < (a2.size : Int) := dT; have hx6 := bt_at a2 x8_1; replace p6 := eq_true p6; replace q6 := eq_true q6
     go_wp2
     go_roundg k1
     case measure => have := HK1.out; omega
     case rel => exact ⟨(Int.tmod (wrap64 ((wrap64 (263 * x7_1)) + (wrap64 (bt a2 x8_1)))) 65521), (wrap64 (x8_1 + 1)), wZ, wZ, H', ⟨by have := HK1.out; omega⟩, by repeat (first | exact Drawn0.refl _ | apply Drawn0.step)⟩
    ·rw [if_neg c5] at H
     exact absurd H (by simp)
   ·rw [if_neg c4] at H
    have c4b0 : decide (x8_1 < (a2.size : Int)) = false := decide_eq_false c4; clear c4; obtain rfl := Option.some.inj H
    go_wp2
    go_ret
    exact ⟨by first | rfl | (simp; done) | (simp [*]; done), by repeat (first | exact Drawn0.refl _ | apply Drawn0.step)⟩

def spec_biPlace.f (k : Nat) (a0 : Int) (a1 : Int) (a2 : ByteArray) (a3 : Int) : Option (Int) := (spec_biHash.f k a0 a1 a2).bind fun t145 => (some (wrap64 (Int.tdiv (wrap64 (t145 * a3)) 65521)))
theorem spec_biPlace.calls (k : Nat) (a0 : Int) (a1 : Int) (a2 : ByteArray) (a3 : Int) (r : Int) (w : World) (h : spec_biPlace.f k a0 a1 a2 a3 = some r) :
  Calls Try.prog 183 #[.int .i64 a0, .int .i64 a1, .string a2, .int .i64 a3] w fun e w' => e = .returned (.int .i64 r) ∧ Drawn0 w w' := by
 have H : ((spec_biHash.f k a0 a1 a2).bind fun t145 => (some (wrap64 (Int.tdiv (wrap64 (t145 * a3)) 65521)))) = some r := h; clear h; replace H := Option.bind_eq_some_iff.mp H; obtain ⟨t145, A50, H⟩ := H; (try dsimp -simprocs only at H); have A5 := am A50; clear A50; obtain rfl := Option.some.inj H
 go_enter Try.func183, Try.ntmps183
 go_wp2_with (first | ((with_reducible refine gate_callee (f := 191) rfl ?_); refine gL (some 12) Try.func191 #[.int .i64 a0, .int .i64 a1, .string a2] ?_; (with_reducible refine (spec_biHash.calls k a0 a1 a2 t145 _ A5.out).mono ?_); rintro e w' ⟨rfl, ⟨nd, rfl⟩⟩; refine ⟨_, rfl, ?_⟩))
 go_ret
 exact ⟨by first | rfl | (simp; done) | (simp [*]; done), by repeat (first | exact Drawn0.refl _ | apply Drawn0.step)⟩

def spec_fiProbes.l0 : Nat → Int → Int → Int → ByteArray → List Int → Int → Option (List Int)
 | 0, _, _, _, _, _, _ => none
 | k + 1, x0, x1, x2, x3, x9, x10 => if x10 < x1 then ((spec_biPlace.f k x0 x10 x3 x2).bind fun t146 => (if x9.length < 17592186044416 then (spec_fiProbes.l0 k x0 x1 x2 x3 (x9 ++ [t146]) (wrap64 (x10 + 1))) else (none))) else (some x9)
def spec_fiProbes.f (k : Nat) (a0 : Int) (a1 : Int) (a2 : Int) (a3 : ByteArray) : Option (List Int) := spec_fiProbes.l0 k a0 a1 a2 a3 ([] : List Int) 0
theorem spec_fiProbes.calls (k : Nat) (a0 : Int) (a1 : Int) (a2 : Int) (a3 : ByteArray) (r : List Int) (w : World) (h : spec_fiProbes.f k a0 a1 a2 a3 = some r) :
  Calls Try.prog 153 #[.int .i64 a0, .int .i64 a1, .int .i64 a2, .string a3] w fun e w' => ∃ v0_ : Value, e = .returned (v0_) ∧ Kd.R (Kd.int .i64) 3 w' w.heap.size (fun _ => True) v0_ r ∧ Below w.heap.size w w' := by
 have HB := am (Below.refl w.heap.size w); have H : (spec_fiProbes.l0 k a0 a1 a2 a3 ([] : List Int) 0) = some r := h; clear h; have H' := am H; clear H
 go_enter Try.func153, Try.ntmps153
 go_wp2
 go_loopg [9, 10] k (fun kq v9 v10 w' => ∃ (x9_1 : List Int) (x10_1 : Int), v10 = .int .i64 x10_1 ∧ Aside0 (spec_fiProbes.l0 kq a0 a1 a2 a3 x9_1 x10_1 = some r) ∧ Aside0 (kq ≤ k) ∧ Aside0 (Kd.R (Kd.int .i64) 3 w' w.heap.size (fun _ => True) v9 x9_1) ∧ Aside0 (Below w.heap.size w w'))
 case atStart => exact ⟨(([] : List Int)), (0), wZ, H', ⟨Nat.le_refl _⟩, ⟨nZ⟩, ⟨Bz HB.out⟩⟩
 case round =>
  clear H'
  try clear c1
  try clear p2
  obtain ⟨x9_1, x10_1, rfl, HA, HK1, HO_9, HB⟩ := hrel; cases gk with
  | zero => exact absurd HA.out (by simp [spec_fiProbes.l0])
  | succ k1 =>
   have H := HA.out; clear HA
   simp only [spec_fiProbes.l0] at H
   by_cases c5 : x10_1 < a1
   ·rw [if_pos c5] at H
    have c5b0 : decide (x10_1 < a1) = true := decide_eq_true c5; clear c5; replace H := Option.bind_eq_some_iff.mp H; obtain ⟨t146, A60, H⟩ := H; (try dsimp -simprocs only at H); have A6 := am A60; clear A60
    by_cases c7 : x9_1.length < 17592186044416
    ·rw [if_pos c7] at H
     have LMc7 := am c7; clear c7; obtain ⟨y147, hy147⟩ : ∃ y_ : List Int, y_ = (x9_1 ++ [t146]) := ⟨_, rfl⟩
     replace H : (spec_fiProbes.l0 k1 a0 a1 a2 a3 y147 (wrap64 (x10_1 + 1))) = some r := by first | (rw [hy147]; with_reducible exact H) | (have H2_ := (Option.bind_some _ _).symm.trans H; rw [hy147]; with_reducible exact H2_) | (have H2_ := (Option.bind_some _ _).symm.trans H; with_reducible exact H2_) | with_reducible exact H | (rw [hy147]; exact H) | exact H
     have Ny147 := am hy147; clear hy147; have H' := am H; clear H
     go_wp2_with (first | ((with_reducible refine gate_callee (f := 183) rfl ?_); refine gL (some 21) Try.func183 #[.int .i64 a0, .int .i64 x10_1, .string a3, .int .i64 a2] ?_; (with_reducible refine (spec_biPlace.calls k1 a0 x10_1 a3 a2 t146 _ A6.out).mono ?_); rintro e w' ⟨rfl, ⟨nd, rfl⟩⟩; refine ⟨_, rfl, ?_⟩) | ((with_reducible refine gate_builtin (b := .append) (xs := #[.tmp 16, .tmp 22]) rfl ?_); at_builtin; refine Kd.R_append (Kd.int .i64) (w0 := w) w.heap.size rfl (.tmp 16) (.tmp 22) 24 3 (.int .i64 0) 8 rfl Try.underlying24 info3 rfl (by decide) (by omega) u9 x9_1 t146 [.int .i64 t146] (fun _ => True) (fun _ => False) rfl rfl ?aP (fun _ hk => hk.elim) ?aF ?aO ?aB ?aS ?aL ?_; (case aP => exact rfl); (case aB => exact (Bz HB.out)); (case aF => exact (fun _ _ => trivial)); (case aO => exact (Rz HO_9.out)); (case aS => exact (below_size (Bz HB.out))); (case aL => have := LMc7.out; omega); intro v148 w8 ho hb hg hat; rw [← Ny147.out] at ho; have n0_ := am (hb); have n1_ := am (ho); clear HB HO_9; revert n0_ n1_; intro HB HO149; clear ho hb hg hat))
     go_roundg k1
     case measure => have := HK1.out; omega
     case rel => exact ⟨(y147), (wrap64 (x10_1 + 1)), wZ, H', ⟨by have := HK1.out; omega⟩, ⟨Rz HO149.out⟩, ⟨Bz HB.out⟩⟩
    ·rw [if_neg c7] at H
     exact absurd H (by simp)
   ·rw [if_neg c5] at H
    have c5b0 : decide (x10_1 < a1) = false := decide_eq_false c5; clear c5; obtain rfl := Option.some.inj H
    go_wp2
    go_ret
    exact ⟨_, eZ, Rz HO_9.out, Bz HB.out⟩

def spec_fiHas.l0 : Nat → List Int → Int → Int → Int → Int → Int → List Int → Option (Bool)
 | 0, _, _, _, _, _, _, _ => none
 | k + 1, x15, x16, x17, x151000, x151001, x151002, x151003 => if x17 < x16 then (if 0 ≤ x17 then (if x17 < (x15.length : Int) then ((spec_biAt.f x151002 x151003 (rd x15 x17)).bind fun t155 => (if t155 = true then (spec_fiHas.l0 k x15 x16 (wrap64 (x17 + 1)) x151000 x151001 x151002 x151003) else (some false))) else (none)) else (none)) else (some true)
def spec_fiHas.f (k : Nat) (a0_0 : Int) (a0_1 : Int) (a0_2 : Int) (l0_3 : List Int) (a1 : ByteArray) : Option (Bool) := (spec_fiProbes.f k a0_0 a0_1 a0_2 a1).bind fun t151 => (spec_fiHas.l0 k t151 (t151.length : Int) 0 a0_0 a0_1 a0_2 l0_3)
theorem spec_fiHas.calls (k : Nat) (a0_0 : Int) (a0_1 : Int) (a0_2 : Int) (A0_3 : Option Addr) (c0_3 : Nat) (l0_3 : List Int) (a1 : ByteArray) (r : Bool) (w : World) (hr0_3 : Kd.C (Kd.int .i64) w A0_3 l0_3.length l0_3) (hc0_3 : l0_3.length ≤ c0_3) (h : spec_fiHas.f k a0_0 a0_1 a0_2 l0_3 a1 = some r) :
  Calls Try.prog 108 #[.agg #[.int .i64 a0_0, .int .i64 a0_1, .int .i64 a0_2, .slice A0_3 l0_3.length c0_3], .string a1] w fun e w' => e = .returned (.bool r) ∧ Below w.heap.size w w' := by
 have hu28 := Try.underlying28; have hu26 := Try.underlying26; have HR0_3 := am hr0_3; have HC0_3 := am hc0_3; clear hr0_3 hc0_3; have HB := am (Below.refl w.heap.size w); have H : ((spec_fiProbes.f k a0_0 a0_1 a0_2 a1).bind fun t151 => (spec_fiHas.l0 k t151 (t151.length : Int) 0 a0_0 a0_1 a0_2 l0_3)) = some r := h; clear h; replace H := Option.bind_eq_some_iff.mp H; obtain ⟨t151, A30, H⟩ := H; (try dsimp -simprocs only at H); have A3 := am A30; clear A30; have H' := am H; clear H
 go_enter Try.func108, Try.ntmps108
 go_wp2_with (first | ((with_reducible refine gate_dst (N := 2) rfl ?_); refine bE 2 #[.int .i64 a0_0, .int .i64 a0_1, .int .i64 a0_2, .slice A0_3 l0_3.length c0_3] 28 ?_; intro gb150 hg w4 hbox hb; have n0_ := Bb HB hb; have n1_ := am (hbox); have n2_ := Gl HB hg; have n3_ := Gl HB hg; clear HB; revert n0_ n1_ n2_ n3_; intro HB BK150 GW150 GE150; clear hb hbox hg; obtain ⟨hcz5_0, hcz5_1, hcz5_2, hcz5_3, hfz5_0, hfz5_1, hfz5_2, hfz5_3⟩ := cf4 (w := w4) BK150) | ((with_reducible refine gate_callee (f := 153) rfl ?_); refine gL (some 15) Try.func153 #[.int .i64 a0_0, .int .i64 a0_1, .int .i64 a0_2, .string a1] ?_; (with_reducible refine (spec_fiProbes.calls k a0_0 a0_1 a0_2 a1 t151 _ A3.out).mono ?_); rintro e w6 ⟨v152, rfl, ho0, hb⟩; refine ⟨_, rfl, ?_⟩; have n0_ := Rm ho0 HB; have n1_ := Kb BK150 hb; have n2_ := Bc HB hb; clear BK150 HB; revert n0_ n1_ n2_; intro HO153 BK150 HB; (try clear hb); (try clear hb2); (try clear hk); (try clear hi); (try clear ho0); obtain ⟨Ao7, co7, eo7⟩ := Kd.R_slice HO153.out; subst eo7))
 (try simp only [aP])
 go_loopg [17] k (fun kq v17 w' => ∃ (x17_1 : Int), v17 = .int .i64 x17_1 ∧ Aside0 (spec_fiHas.l0 kq t151 (t151.length : Int) x17_1 a0_0 a0_1 a0_2 l0_3 = some r) ∧ Aside0 (kq ≤ k) ∧ Aside0 (Kd.R (Kd.int .i64) 3 w' w.heap.size (fun _ => True) (.slice Ao7 t151.length co7) t151) ∧ Aside0 (w'.heap[gb150]? = some (.cells #[.int .i64 a0_0, .int .i64 a0_1, .int .i64 a0_2, (.slice A0_3 l0_3.length c0_3)] 28 (0, 0))) ∧ Aside0 (Below w.heap.size w w'))
 case atStart => exact ⟨(0), wZ, H', ⟨Nat.le_refl _⟩, ⟨Rz HO153.out⟩, ⟨Kz BK150.out⟩, ⟨Bq⟩⟩
 case round =>
  clear H'
  try clear c1
  try clear p2
  try clear hcz5_0
  try clear hcz5_1
  try clear hcz5_2
  try clear hcz5_3
  try clear hfz5_0
  try clear hfz5_1
  try clear hfz5_2
  try clear hfz5_3
  obtain ⟨x17_1, rfl, HA, HK1, HO_15, BK150, HB⟩ := hrel; cases gk with
  | zero => exact absurd HA.out (by simp [spec_fiHas.l0])
  | succ k1 =>
   have H := HA.out; clear HA
   simp only [spec_fiHas.l0] at H
   by_cases c8 : x17_1 < (t151.length : Int)
   ·rw [if_pos c8] at H
    have c8b0 : decide (x17_1 < (t151.length : Int)) = true := decide_eq_true c8; clear c8
    by_cases c9 : 0 ≤ x17_1
    ·rw [if_pos c9] at H
     have c9b0 : decide (0 ≤ x17_1) = true := decide_eq_true c9; clear c9
     by_cases c10 : x17_1 < (t151.length : Int)
     ·rw [if_pos c10] at H
      have c10b0 : decide (x17_1 < (t151.length : Int)) = true := decide_eq_true c10; clear c10; replace H := Option.bind_eq_some_iff.mp H; obtain ⟨t155, A110, H⟩ := H; (try dsimp -simprocs only at H); have A11 := am A110; clear A110
      by_cases c12 : t155 = true
      ·subst c12
       rw [if_pos rfl] at H; have H' := am H; clear H; obtain ⟨ad154, e154, hx154_0⟩ := Kd.at_int (Kd.R_reads' HO_15.out).2.2 x17_1 dT dT; cases e154; have p154 := eT (0 ≤ (x17_1 : Int)); have q154 := eT (x17_1 < (t151.length : Int)); obtain ⟨hcz13_0, hcz13_1, hcz13_2, hcz13_3, hfz13_0, hfz13_1, hfz13_2, hfz13_3⟩ := cf4 (w := wr) BK150
       go_wp2_with (first | ((with_reducible refine gate_callee (f := 144) rfl ?_); refine gL (some 24) Try.func144 #[.agg #[.int .i64 a0_2, .slice A0_3 l0_3.length c0_3], .int .i64 (rd t151 x17_1)] ?_; (with_reducible refine (spec_biAt.calls a0_2 _ _ l0_3 (rd t151 x17_1) true _ ?side1 ?side2 A11.out).mono ?_); (case side1 => exact Cz (Kd.C_below HR0_3.out HB.out)); (case side2 => exact HC0_3.out); rintro e w14 ⟨rfl, hb⟩; refine ⟨_, rfl, ?_⟩; have n0_ := Rb HO_15 hb; have n1_ := Kb BK150 hb; have n2_ := Bc HB hb; clear HO_15 BK150 HB; revert n0_ n1_ n2_; intro HO_15 BK150 HB; (try clear hb); (try clear hb2); (try clear hk); (try clear hi)))
       go_roundg k1
       case measure => have := HK1.out; omega
       case rel => exact ⟨(wrap64 (x17_1 + 1)), wZ, H', ⟨by have := HK1.out; omega⟩, ⟨Rz HO_15.out⟩, ⟨Kz BK150.out⟩, ⟨Bq⟩⟩
      ·replace c12 := Bool.eq_false_iff.mpr c12
       subst c12
       rw [if_neg (show ¬ (false = true) by decide)] at H; obtain rfl := Option.some.inj H; obtain ⟨ad154, e154, hx154_0⟩ := Kd.at_int (Kd.R_reads' HO_15.out).2.2 x17_1 dT dT; cases e154; have p154 := eT (0 ≤ (x17_1 : Int)); have q154 := eT (x17_1 < (t151.length : Int)); obtain ⟨hcz15_0, hcz15_1, hcz15_2, hcz15_3, hfz15_0, hfz15_1, hfz15_2, hfz15_3⟩ := cf4 (w := wr) BK150
       go_wp2_with (first | ((with_reducible refine gate_callee (f := 144) rfl ?_); refine gL (some 24) Try.func144 #[.agg #[.int .i64 a0_2, .slice A0_3 l0_3.length c0_3], .int .i64 (rd t151 x17_1)] ?_; (with_reducible refine (spec_biAt.calls a0_2 _ _ l0_3 (rd t151 x17_1) false _ ?side1 ?side2 A11.out).mono ?_); (case side1 => exact Cz (Kd.C_below HR0_3.out HB.out)); (case side2 => exact HC0_3.out); rintro e w16 ⟨rfl, hb⟩; refine ⟨_, rfl, ?_⟩; have n0_ := Rb HO_15 hb; have n1_ := Kb BK150 hb; have n2_ := Bc HB hb; clear HO_15 BK150 HB; revert n0_ n1_ n2_; intro HO_15 BK150 HB; (try clear hb); (try clear hb2); (try clear hk); (try clear hi)))
       go_ret
       exact ⟨eZ, Bq⟩
     ·rw [if_neg c10] at H
      exact absurd H (by simp)
    ·rw [if_neg c9] at H
     exact absurd H (by simp)
   ·rw [if_neg c8] at H
    have c8b0 : decide (x17_1 < (t151.length : Int)) = false := decide_eq_false c8; clear c8; obtain rfl := Option.some.inj H
    go_wp2
    go_ret
    exact ⟨eZ, Bq⟩

def spec_IsKey.l0 : Nat → ByteArray → Int → Option (Bool)
 | 0, _, _ => none
 | k + 1, x0, x3 => if x3 < (x0.size : Int) then (if 0 ≤ x3 then (if (bt x0 x3) < 33 then (some false) else (if (bt x0 x3) > 125 then (some false) else (spec_IsKey.l0 k x0 (wrap64 (x3 + 1))))) else (none)) else ((spec_l1In.f (x0.size : Int) 1 12).bind fun t156 => (some t156))
def spec_IsKey.f (k : Nat) (a0 : ByteArray) : Option (Bool) := spec_IsKey.l0 k a0 0
theorem spec_IsKey.calls (k : Nat) (a0 : ByteArray) (r : Bool) (w : World) (h : spec_IsKey.f k a0 = some r) :
  Calls Try.prog 95 #[.string a0] w fun e w' => e = .returned (.bool r) ∧ Drawn0 w w' := by
 have H : (spec_IsKey.l0 k a0 0) = some r := h; clear h; have H' := am H; clear H
 go_enter Try.func95, Try.ntmps95
 go_wp2
 go_loopg [3] k (fun kq v3 w' => ∃ (x3_1 : Int), v3 = .int .i64 x3_1 ∧ Aside0 (spec_IsKey.l0 kq a0 x3_1 = some r) ∧ Aside0 (kq ≤ k) ∧ Drawn0 w w')
 case atStart => exact ⟨(0), wZ, H', ⟨Nat.le_refl _⟩, by repeat (first | exact Drawn0.refl _ | apply Drawn0.step)⟩
 case round =>
  clear H'; obtain ⟨x3_1, rfl, HA, HK1, ⟨m1, rfl⟩⟩ := hrel; cases gk with
  | zero => exact absurd HA.out (by simp [spec_IsKey.l0])
  | succ k1 =>
   have H := HA.out; clear HA
   simp only [spec_IsKey.l0] at H
   by_cases c2 : x3_1 < (a0.size : Int)
   ·rw [if_pos c2] at H
    have c2b0 : decide (x3_1 < (a0.size : Int)) = true := decide_eq_true c2; clear c2
    by_cases c3 : 0 ≤ x3_1
    ·rw [if_pos c3] at H
     have c3b0 : decide (0 ≤ x3_1) = true := decide_eq_true c3; clear c3
     by_cases c5 : (bt a0 x3_1) < 33
     ·rw [if_pos c5] at H
      have c5b0 : decide ((bt a0 x3_1) < 33) = true := decide_eq_true c5; clear c5; obtain rfl := Option.some.inj H; have p4 : 0 ≤ (x3_1 : Int) := dT; have q4 : x3_1 < (a0.size : Int) := dT; have hx4 := bt_at a0 x3_1; replace p4 := eq_true p4; replace q4 := eq_true q4
      go_wp2
      go_ret
      exact ⟨by first | rfl | (simp; done) | (simp [*]; done), by repeat (first | exact Drawn0.refl _ | apply Drawn0.step)⟩
     ·rw [if_neg c5] at H
      have c5b0 : decide ((bt a0 x3_1) < 33) = false := decide_eq_false c5; clear c5
      by_cases c7 : (bt a0 x3_1) > 125
      ·rw [if_pos c7] at H
       have c7b0 : decide (125 < (bt a0 x3_1)) = true := decide_eq_true c7; clear c7; obtain rfl := Option.some.inj H; have p4 : 0 ≤ (x3_1 : Int) := dT; have q4 : x3_1 < (a0.size : Int) := dT; have hx4 := bt_at a0 x3_1; replace p4 := eq_true p4; replace q4 := eq_true q4; have p6 : 0 ≤ (x3_1 : Int) := dT; have q6 : x3_1 < (a0.size : Int) := dT; have hx6 := bt_at a0 x3_1; replace p6 := eq_true p6; replace q6 := eq_true q6
       go_wp2
       go_ret
       exact ⟨by first | rfl | (simp; done) | (simp [*]; done), by repeat (first | exact Drawn0.refl _ | apply Drawn0.step)⟩
      ·rw [if_neg c7] at H
       have c7b0 : decide (125 < (bt a0 x3_1)) = false := decide_eq_false c7; clear c7; have H' := am H; clear H; have p4 : 0 ≤ (x3_1 : Int) := dT; have q4 : x3_1 < (a0.size : Int) := dT; have hx4 := bt_at a0 x3_1; replace p4 := eq_true p4; replace q4 := eq_true q4; have p6 : 0 ≤ (x3_1 : Int) := dT; have q6 : x3_1 < (a0.size : Int) := dT; have hx6 := bt_at a0 x3_1; replace p6 := eq_true p6; replace q6 := eq_true q6
       go_wp2
       go_roundg k1
       case measure => have := HK1.out; omega
       case rel => exact ⟨(wrap64 (x3_1 + 1)), wZ, H', ⟨by have := HK1.out; omega⟩, by repeat (first | exact Drawn0.refl _ | apply Drawn0.step)⟩
    ·rw [if_neg c3] at H
     exact absurd H (by simp)
   ·rw [if_neg c2] at H
    have c2b0 : decide (x3_1 < (a0.size : Int)) = false := decide_eq_false c2; clear c2; replace H := Option.bind_eq_some_iff.mp H; obtain ⟨t156, A80, H⟩ := H; (try dsimp -simprocs only at H); have A8 := am A80; clear A80; obtain rfl := Option.some.inj H
    go_wp2_with (first | ((with_reducible refine gate_callee (f := 151) rfl ?_); refine gL (some 22) Try.func151 #[.int .i64 (a0.size : Int), .int .i64 1, .int .i64 12] ?_; (with_reducible refine (spec_l1In.calls (a0.size : Int) 1 12 t156 _ A8.out).mono ?_); rintro e w' ⟨rfl, ⟨nd, rfl⟩⟩; refine ⟨_, rfl, ?_⟩))
    go_ret
    exact ⟨by first | rfl | (simp; done) | (simp [*]; done), by repeat (first | exact Drawn0.refl _ | apply Drawn0.step)⟩

mutual
def spec_fiLetters.l0 : Nat → ByteArray → Int → Option (Bool)
 | 0, _, _ => none
 | k + 1, x0, x3 => if x3 < (x0.size : Int) then (spec_fiLetters.l1 k x0 x3 0) else ((spec_IsKey.f k x0).bind fun t157 => (some t157))
def spec_fiLetters.l1 : Nat → ByteArray → Int → Int → Option (Bool)
 | 0, _, _, _ => none
 | k + 1, x0, x3, x4 => if x4 < x3 then (if 0 ≤ x3 then (if x3 < (x0.size : Int) then (if 0 ≤ x4 then (if x4 < (x0.size : Int) then (if (bt x0 x3) = (bt x0 x4) then (some false) else (spec_fiLetters.l1 k x0 x3 (wrap64 (x4 + 1)))) else (none)) else (none)) else (none)) else (none)) else (spec_fiLetters.l0 k x0 (wrap64 (x3 + 1)))
end
def spec_fiLetters.f (k : Nat) (a0 : ByteArray) : Option (Bool) := spec_fiLetters.l0 k a0 0
theorem spec_fiLetters.calls (k : Nat) (a0 : ByteArray) (r : Bool) (w : World) (h : spec_fiLetters.f k a0 = some r) :
  Calls Try.prog 164 #[.string a0] w fun e w' => e = .returned (.bool r) ∧ Drawn0 w w' := by
 have H : (spec_fiLetters.l0 k a0 0) = some r := h; clear h; have H' := am H; clear H
 go_enter Try.func164, Try.ntmps164
 go_wp2
 repeat (go_quiet (fail); try go_wp2)
 go_loopg [3] k (fun kq v3 w' => ∃ (x3_1 : Int), v3 = .int .i64 x3_1 ∧ Aside0 (spec_fiLetters.l0 kq a0 x3_1 = some r) ∧ Aside0 (kq ≤ k) ∧ Drawn0 w w')
 case atStart => exact ⟨(0), wZ, H', ⟨Nat.le_refl _⟩, by repeat (first | exact Drawn0.refl _ | apply Drawn0.step)⟩
 case round =>
  clear H'
  try clear c1
  obtain ⟨x3_1, rfl, HA, HK1, ⟨m1, rfl⟩⟩ := hrel; cases gk with
  | zero => exact absurd HA.out (by simp [spec_fiLetters.l0])
  | succ k1 =>
   have H := HA.out; clear HA
   simp only [spec_fiLetters.l0] at H
   by_cases c2 : x3_1 < (a0.size : Int)
   ·rw [if_pos c2] at H
    have c2b0 : decide (x3_1 < (a0.size : Int)) = true := decide_eq_true c2; clear c2; have H' := am H; clear H
    go_wp2
    repeat (go_quiet (fail); try go_wp2)
    go_loopg [4] k1 (fun kq v4 w' => ∃ (x4_2 : Int), v4 = .int .i64 x4_2 ∧ Aside0 (spec_fiLetters.l1 kq a0 x3_1 x4_2 = some r) ∧ Aside0 (kq ≤ k1) ∧ Drawn0 w w')
    case atStart => exact ⟨(0), wZ, H', ⟨Nat.le_refl _⟩, by repeat (first | exact Drawn0.refl _ | apply Drawn0.step)⟩
    case round =>
     clear H'
     try clear c1
     try clear c2
     try clear c2b0
     try clear p2
     obtain ⟨x4_2, rfl, HA, HK2, ⟨m2, rfl⟩⟩ := hrel; cases gk with
     | zero => exact absurd HA.out (by simp [spec_fiLetters.l1])
     | succ k2 =>
      have H := HA.out; clear HA
      simp only [spec_fiLetters.l1] at H
      by_cases c3 : x4_2 < x3_1
      ·rw [if_pos c3] at H
       have c3b0 : decide (x4_2 < x3_1) = true := decide_eq_true c3; clear c3
       by_cases c4 : 0 ≤ x3_1
       ·rw [if_pos c4] at H
        have c4b0 : decide (0 ≤ x3_1) = true := decide_eq_true c4; clear c4
        by_cases c5 : x3_1 < (a0.size : Int)
        ·rw [if_pos c5] at H
         have c5b0 : decide (x3_1 < (a0.size : Int)) = true := decide_eq_true c5; clear c5
         by_cases c7 : 0 ≤ x4_2
         ·rw [if_pos c7] at H
          have c7b0 : decide (0 ≤ x4_2) = true := decide_eq_true c7; clear c7
          by_cases c8 : x4_2 < (a0.size : Int)
          ·rw [if_pos c8] at H
           have c8b0 : decide (x4_2 < (a0.size : Int)) = true := decide_eq_true c8; clear c8
           by_cases c10 : (bt a0 x3_1) = (bt a0 x4_2)
           ·rw [if_pos c10] at H
            have c10b0 : ((bt a0 x3_1) == (bt a0 x4_2)) = true := beq_iff_eq.mpr c10; have c10b1 : ((bt a0 x3_1) != (bt a0 x4_2)) = false := bne_eq_false_iff_eq.mpr c10; clear c10; obtain rfl := Option.some.inj H; have p6 : 0 ≤ (x3_1 : Int) := dT; have q6 : x3_1 < (a0.size : Int) := dT; have hx6 := bt_at a0 x3_1; replace p6 := eq_true p6; replace q6 := eq_true q6; have p9 : 0 ≤ (x4_2 : Int) := dT; have q9 : x4_2 < (a0.size : Int) := dT; have hx9 := bt_at a0 x4_2; replace p9 := eq_true p9; replace q9 := eq_true q9
            go_wp2
            repeat (go_quiet (fail); try go_wp2)
            go_ret
            exact ⟨by first | rfl | (simp; done) | (simp [*]; done), by repeat (first | exact Drawn0.refl _ | apply Drawn0.step)⟩
           ·rw [if_neg c10] at H
            have c10b0 : ((bt a0 x3_1) == (bt a0 x4_2)) = false := beq_eq_false_iff_ne.mpr c10; have c10b1 : ((bt a0 x3_1) != (bt a0 x4_2)) = true := bne_iff_ne.mpr c10; have H' := am H; clear H; have p6 : 0 ≤ (x3_1 : Int) := dT; have q6 : x3_1 < (a0.size : Int) := dT; have hx6 := bt_at a0 x3_1; replace p6 := eq_true p6; replace q6 := eq_true q6; have p9 : 0 ≤ (x4_2 : Int) := dT; have q9 : x4_2 < (a0.size : Int) := dT; have hx9 := bt_at a0 x4_2; replace p9 := eq_true p9; replace q9 := eq_true q9
            go_wp2
            repeat (go_quiet (fail); try go_wp2)
            go_roundg k2
            case measure => have := HK1.out; have := HK2.out; omega
            case rel => exact ⟨(wrap64 (x4_2 + 1)), wZ, H', ⟨by have := HK1.out; have := HK2.out; omega⟩, by repeat (first | exact Drawn0.refl _ | apply Drawn0.step)⟩
          ·rw [if_neg c8] at H
           exact absurd H (by simp)
         ·rw [if_neg c7] at H
          exact absurd H (by simp)
        ·rw [if_neg c5] at H
         exact absurd H (by simp)
       ·rw [if_neg c4] at H
        exact absurd H (by simp)
      ·rw [if_neg c3] at H
       have c3b0 : decide (x4_2 < x3_1) = false := decide_eq_false c3; clear c3; have H' := am H; clear H
       go_wp2
       repeat (go_quiet (fail); try go_wp2)
       go_roundg k2
       case measure => have := HK1.out; have := HK2.out; omega
       case rel => exact ⟨(wrap64 (x3_1 + 1)), wZ, H', ⟨by have := HK1.out; have := HK2.out; omega⟩, by repeat (first | exact Drawn0.refl _ | apply Drawn0.step)⟩
   ·rw [if_neg c2] at H
    have c2b0 : decide (x3_1 < (a0.size : Int)) = false := decide_eq_false c2; clear c2; replace H := Option.bind_eq_some_iff.mp H; obtain ⟨t157, A110, H⟩ := H; (try dsimp -simprocs only at H); have A11 := am A110; clear A110; obtain rfl := Option.some.inj H
    go_wp2_with (first | (go_at_call 95; (with_reducible refine (spec_IsKey.calls k1 a0 t157 _ A11.out).mono ?_); rintro e w' ⟨rfl, ⟨nd, rfl⟩⟩; (try exact yZ)))
    repeat (go_quiet (first | (go_at_call 95; (with_reducible refine (spec_IsKey.calls k1 a0 t157 _ A11.out).mono ?_); rintro e w' ⟨rfl, ⟨nd, rfl⟩⟩; (try exact yZ))); try go_wp2_with (first | (go_at_call 95; (with_reducible refine (spec_IsKey.calls k1 a0 t157 _ A11.out).mono ?_); rintro e w' ⟨rfl, ⟨nd, rfl⟩⟩; (try exact yZ))))
    go_ret
    exact ⟨by first | rfl | (simp; done) | (simp [*]; done), by repeat (first | exact Drawn0.refl _ | apply Drawn0.step)⟩

mutual
def spec_fiTexts.l0 : Nat → ByteArray → Int → List ByteArray → Option (List ByteArray × Bool)
 | 0, _, _, _ => none
 | k + 1, x0, x1, x6 => if x1 > 0 then (spec_fiTexts.l1 k x0 x1 ([] : List ByteArray) x6 (x6.length : Int) 0) else (some (x6, true))
def spec_fiTexts.l1 : Nat → ByteArray → Int → List ByteArray → List ByteArray → Int → Int → Option (List ByteArray × Bool)
 | 0, _, _, _, _, _, _ => none
 | k + 1, x0, x1, x7, x16, x17, x18 => if x18 < x17 then (if 0 ≤ x18 then (if x18 < (x16.length : Int) then (spec_fiTexts.l2 k x0 x1 x7 (rdOf ByteArray.empty x16 x18) 0 x16 x17 x18) else (none)) else (none)) else (if (x7.length : Int) > 300 then (some (([] : List ByteArray), false)) else (spec_fiTexts.l0 k x0 (wrap64 (x1 - 1)) x7))
def spec_fiTexts.l2 : Nat → ByteArray → Int → List ByteArray → ByteArray → Int → List ByteArray → Int → Int → Option (List ByteArray × Bool)
 | 0, _, _, _, _, _, _, _, _ => none
 | k + 1, x0, x1, x7, x9, x10, x16, x17, x18 => if x10 < (x0.size : Int) then (if 0 ≤ x10 then (if x10 ≤ (wrap64 (x10 + 1)) then (if (wrap64 (x10 + 1)) ≤ (x0.size : Int) then (if x9.size + (x0.extract (x10 : Int).toNat ((wrap64 (x10 + 1)) : Int).toNat).size ≤ 9223372036854775807 then (if x7.length < 8796093022208 then (spec_fiTexts.l2 k x0 x1 (x7 ++ [x9 ++ (x0.extract (x10 : Int).toNat ((wrap64 (x10 + 1)) : Int).toNat)]) x9 (wrap64 (x10 + 1)) x16 x17 x18) else (none)) else (none)) else (none)) else (none)) else (none)) else (spec_fiTexts.l1 k x0 x1 x7 x16 x17 (wrap64 (x18 + 1)))
end
def spec_fiTexts.f (k : Nat) (a0 : ByteArray) (a1 : Int) : Option (List ByteArray × Bool) := spec_fiTexts.l0 k a0 a1 (([(⟨#[]⟩ : ByteArray)] : List ByteArray))
theorem spec_fiTexts.calls (k : Nat) (a0 : ByteArray) (a1 : Int) (r1 : List ByteArray) (r2 : Bool) (w : World) (h : spec_fiTexts.f k a0 a1 = some (r1, r2)) :
  Calls Try.prog 165 #[.string a0, .int .i64 a1] w fun e w' => ∃ v0_ : Value, e = .returned (.tuple #[v0_, .bool r2]) ∧ Kd.R Kd.string 9 w' w.heap.size (fun _ => True) v0_ r1 ∧ Below w.heap.size w w' := by
 have HB := am (Below.refl w.heap.size w); have H : (spec_fiTexts.l0 k a0 a1 (([(⟨#[]⟩ : ByteArray)] : List ByteArray))) = some (r1, r2) := h; clear h; obtain ⟨y158, hy158⟩ : ∃ y_ : List ByteArray, y_ = (([(⟨#[]⟩ : ByteArray)] : List ByteArray)) := ⟨_, rfl⟩
 replace H : (spec_fiTexts.l0 k a0 a1 y158) = some (r1, r2) := by first | (rw [hy158]; with_reducible exact H) | (have H2_ := (Option.bind_some _ _).symm.trans H; rw [hy158]; with_reducible exact H2_) | (have H2_ := (Option.bind_some _ _).symm.trans H; with_reducible exact H2_) | with_reducible exact H | (rw [hy158]; exact H) | exact H
 have Ny158 := am hy158; clear hy158; have H' := am H; clear H
 go_enter Try.func165, Try.ntmps165
 go_wp2_with (first | ((with_reducible refine gate_dst (N := 11) rfl ?_); refine Kd.R_lit Kd.string _ 9 ?hg (N := 11) ?hd (xs := ([(⟨#[]⟩ : ByteArray)] : List ByteArray)) (inner := [.string (⟨#[]⟩ : ByteArray)]) (ok := fun _ => True) (okp := fun _ => True) ?hr ?hp (fun _ hk => hk) trivial (Below.refl _ _) (Nat.le_refl _) (by simp) ?_; (case hd => rfl); (case hg => rfl); (case hr => first | (go_simp; done) | (go_simp; rfl)); (case hp => exact (Reps.one (show Kd.M Kd.string _ _ _ (⟨#[]⟩ : ByteArray) [.string (⟨#[]⟩ : ByteArray)] from rfl) (Reps.none _ _))); intro v159 w3 ho4 hb hg_ hnew_; clear hg_ hnew_; (first | rw [← Ny158.out] at ho4 | (simp only [Int.reduceToNat] at ho4; rw [← Ny158.out] at ho4)); have n0_ := Rl ho4 HB; have n1_ := Bb HB hb; clear HB; revert n0_ n1_; intro HO160 HB; clear hb ho4))
 (try simp only [aP])
 go_loopg [1, 6] k (fun kq v1 v6 w' => ∃ (x1_1 : Int) (x6_1 : List ByteArray), v1 = .int .i64 x1_1 ∧ Aside0 (spec_fiTexts.l0 kq a0 x1_1 x6_1 = some (r1, r2)) ∧ Aside0 (kq ≤ k) ∧ Aside0 (Kd.R Kd.string 9 w' w.heap.size (fun _ => True) v6 x6_1) ∧ Aside0 (Below w.heap.size w w'))
 case atStart => exact ⟨(a1), (y158), wZ, H', ⟨Nat.le_refl _⟩, ⟨Rz HO160.out⟩, ⟨Bz HB.out⟩⟩
 case round =>
  clear H'
  try clear c1
  try clear p2
  obtain ⟨x1_1, x6_1, rfl, HA, HK1, HO_6, HB⟩ := hrel; cases gk with
  | zero => exact absurd HA.out (by simp [spec_fiTexts.l0])
  | succ k1 =>
   have H := HA.out; clear HA
   simp only [spec_fiTexts.l0] at H
   by_cases c5 : x1_1 > 0
   ·rw [if_pos c5] at H
    have c5b0 : decide (0 < x1_1) = true := decide_eq_true c5; clear c5; have H' := am H; clear H; obtain ⟨Ao6, co6, eo6⟩ := Kd.R_slice HO_6.out; subst eo6
    go_wp2
    go_loopg [7, 18] k1 (fun kq v7 v18 w' => ∃ (x7_2 : List ByteArray) (x18_2 : Int), v18 = .int .i64 x18_2 ∧ Aside0 (spec_fiTexts.l1 kq a0 x1_1 x7_2 x6_1 (x6_1.length : Int) x18_2 = some (r1, r2)) ∧ Aside0 (kq ≤ k1) ∧ Aside0 (Kd.R Kd.string 9 w' w.heap.size (fun k_ => some k_ ≠ ((.slice Ao6 x6_1.length co6) : Value).ownBlock) v7 x7_2) ∧ Aside0 (Kd.R Kd.string 9 w' w.heap.size (fun k_ => some k_ ≠ (v7 : Value).ownBlock) (.slice Ao6 x6_1.length co6) x6_1) ∧ Aside0 (Below w.heap.size w w'))
    case atStart => exact ⟨(([] : List ByteArray)), (0), wZ, H', ⟨Nat.le_refl _⟩, ⟨nZ⟩, ⟨Rz (Kd.R_mono HO_6.out (fun _ hk => (by simp [Value.ownBlock])))⟩, ⟨Bz HB.out⟩⟩
    case round =>
     clear H'
     try clear c1
     try clear p2
     try clear c5
     try clear c5b0
     try clear p2
     obtain ⟨x7_2, x18_2, rfl, HA, HK2, HO_7, HO_16, HB⟩ := hrel; cases gk with
     | zero => exact absurd HA.out (by simp [spec_fiTexts.l1])
     | succ k2 =>
      have H := HA.out; clear HA
      simp only [spec_fiTexts.l1] at H
      by_cases c7 : x18_2 < (x6_1.length : Int)
      ·rw [if_pos c7] at H
       have c7b0 : decide (x18_2 < (x6_1.length : Int)) = true := decide_eq_true c7; clear c7
       by_cases c8 : 0 ≤ x18_2
       ·rw [if_pos c8] at H
        have c8b0 : decide (0 ≤ x18_2) = true := decide_eq_true c8; clear c8
        by_cases c9 : x18_2 < (x6_1.length : Int)
        ·rw [if_pos c9] at H
         have c9b0 : decide (x18_2 < (x6_1.length : Int)) = true := decide_eq_true c9; clear c9; have H' := am H; clear H; obtain ⟨ad161, e161, hx161_0⟩ := Kd.at_string (Kd.R_reads' HO_16.out).2.2 x18_2 dT dT; cases e161; have p161 := eT (0 ≤ (x18_2 : Int)); have q161 := eT (x18_2 < (x6_1.length : Int))
         go_wp2
         go_loopg [7, 10] k2 (fun kq v7 v10 w' => ∃ (x7_3 : List ByteArray) (x10_3 : Int), v10 = .int .i64 x10_3 ∧ Aside0 (spec_fiTexts.l2 kq a0 x1_1 x7_3 (rdOf ByteArray.empty x6_1 x18_2) x10_3 x6_1 (x6_1.length : Int) x18_2 = some (r1, r2)) ∧ Aside0 (kq ≤ k2) ∧ Aside0 (Kd.R Kd.string 9 w' w.heap.size (fun k_ => some k_ ≠ ((.slice (some ad161) x6_1.length co6) : Value).ownBlock) v7 x7_3) ∧ Aside0 (Kd.R Kd.string 9 w' w.heap.size (fun k_ => some k_ ≠ (v7 : Value).ownBlock) (.slice (some ad161) x6_1.length co6) x6_1) ∧ Aside0 (Below w.heap.size w w'))
         case atStart => exact ⟨(x7_2), (0), wZ, H', ⟨Nat.le_refl _⟩, ⟨Rz HO_7.out⟩, ⟨Rz HO_16.out⟩, ⟨Bz HB.out⟩⟩
         case round =>
          clear H'
          try clear c1
          try clear p1
          try clear q1
          try clear hx1
          try clear p2
          try clear c5
          try clear c5b0
          try clear c7
          try clear c7b0
          try clear c8
          try clear c8b0
          try clear c9
          try clear c9b0
          try clear hx161_0
          try clear p161
          try clear p2
          try clear q161
          obtain ⟨x7_3, x10_3, rfl, HA, HK3, HO_7, HO_16, HB⟩ := hrel; cases gk with
          | zero => exact absurd HA.out (by simp [spec_fiTexts.l2])
          | succ k3 =>
           have H := HA.out; clear HA
           simp only [spec_fiTexts.l2] at H
           by_cases c10 : x10_3 < (a0.size : Int)
           ·rw [if_pos c10] at H
            have c10b0 : decide (x10_3 < (a0.size : Int)) = true := decide_eq_true c10; clear c10
            by_cases c11 : 0 ≤ x10_3
            ·rw [if_pos c11] at H
             have c11b0 := eq_true c11; have c11b1 : decide (0 ≤ x10_3) = true := decide_eq_true c11; clear c11
             by_cases c12 : x10_3 ≤ (wrap64 (x10_3 + 1))
             ·rw [if_pos c12] at H
              have c12b0 := eq_true c12; have c12b1 : decide (x10_3 ≤ (wrap64 (x10_3 + 1))) = true := decide_eq_true c12
              by_cases c13 : (wrap64 (x10_3 + 1)) ≤ (a0.size : Int)
              ·rw [if_pos c13] at H
               have c13b0 := eq_true c13; have c13b1 : decide ((wrap64 (x10_3 + 1)) ≤ (a0.size : Int)) = true := decide_eq_true c13
               by_cases c14 : (rdOf ByteArray.empty x6_1 x18_2).size + (a0.extract (x10_3 : Int).toNat ((wrap64 (x10_3 + 1)) : Int).toNat).size ≤ 9223372036854775807
               ·rw [if_pos c14] at H
                have c14b0 := eq_true c14; have c14b1 : decide ((rdOf ByteArray.empty x6_1 x18_2).size + (a0.extract (x10_3 : Int).toNat ((wrap64 (x10_3 + 1)) : Int).toNat).size ≤ 9223372036854775807) = true := decide_eq_true c14
                try have c14b2 : (9223372036854775807 < (rdOf ByteArray.empty x6_1 x18_2).size + (a0.extract (x10_3 : Int).toNat ((wrap64 (x10_3 + 1)) : Int).toNat).size) = False := eq_false (Nat.not_lt.2 c14)
                (try (have c14b3 := c14b2; simp only [ByteArray.size_extract, Int.toNat_natCast] at c14b3))
                by_cases c15 : x7_3.length < 8796093022208
                ·rw [if_pos c15] at H
                 have LMc15 := am c15; clear c15; obtain ⟨y162, hy162⟩ : ∃ y_ : List ByteArray, y_ = (x7_3 ++ [(rdOf ByteArray.empty x6_1 x18_2) ++ (a0.extract (x10_3 : Int).toNat ((wrap64 (x10_3 + 1)) : Int).toNat)]) := ⟨_, rfl⟩
                 replace H : (spec_fiTexts.l2 k3 a0 x1_1 y162 (rdOf ByteArray.empty x6_1 x18_2) (wrap64 (x10_3 + 1)) x6_1 (x6_1.length : Int) x18_2) = some (r1, r2) := by first | (rw [hy162]; with_reducible exact H) | (have H2_ := (Option.bind_some _ _).symm.trans H; rw [hy162]; with_reducible exact H2_) | (have H2_ := (Option.bind_some _ _).symm.trans H; with_reducible exact H2_) | with_reducible exact H | (rw [hy162]; exact H) | exact H
                 have Ny162 := am hy162; clear hy162; have H' := am H; clear H
                 go_wp2_with (first | ((with_reducible refine gate_builtin (b := .append) (xs := #[.tmp 28, .tmp 36]) rfl ?_); at_builtin; refine Kd.R_append Kd.string (w0 := w) w.heap.size rfl (.tmp 28) (.tmp 36) 22 9 (.string ⟨#[]⟩) 16 rfl Try.underlying22 info9 rfl (by decide) (by omega) u7 x7_3 ((rdOf ByteArray.empty x6_1 x18_2) ++ (a0.extract (x10_3 : Int).toNat ((wrap64 (x10_3 + 1)) : Int).toNat)) [.string ((rdOf ByteArray.empty x6_1 x18_2) ++ (a0.extract (x10_3 : Int).toNat ((wrap64 (x10_3 + 1)) : Int).toNat))] (fun k_ => some k_ ≠ (.slice (some ad161) x6_1.length co6 : Value).ownBlock) (fun _ => False) rfl rfl ?aP (fun _ hk => hk.elim) ?aF ?aO ?aB ?aS ?aL ?_; (case aP => exact rfl); (case aB => exact (Bz HB.out)); (case aF => exact (fun k_ hk => Kd.fresh' (Kd.R_lt (Rz HO_16.out)) k_ hk)); (case aO => exact (Rz HO_7.out)); (case aS => exact (below_size (Bz HB.out))); (case aL => have := LMc15.out; omega); intro v163 w16 ho hb hg hat; rw [← Ny162.out] at ho; have n0_ := am (Kd.R_after (ok := (fun _ => True)) (Rz (Kd.R_mono HO_16.out (fun _ hk => ⟨trivial, hk⟩))) hg hat); have n1_ := am (hb); have n2_ := am (ho); clear HO_16 HB HO_7; revert n0_ n1_ n2_; intro HO_16 HB HO164; clear ho hb hg hat))
                 go_roundg k3
                 case measure => have := HK1.out; have := HK2.out; have := HK3.out; omega
                 case rel => exact ⟨(y162), (wrap64 (x10_3 + 1)), wZ, H', ⟨by have := HK1.out; have := HK2.out; have := HK3.out; omega⟩, ⟨Rz HO164.out⟩, ⟨Rz (Kd.R_mono HO_16.out (fun _ hk => hk.2))⟩, ⟨Bz HB.out⟩⟩
                ·rw [if_neg c15] at H
                 exact absurd H (by simp)
               ·rw [if_neg c14] at H
                exact absurd H (by simp)
              ·rw [if_neg c13] at H
               exact absurd H (by simp)
             ·rw [if_neg c12] at H
              exact absurd H (by simp)
            ·rw [if_neg c11] at H
             exact absurd H (by simp)
           ·rw [if_neg c10] at H
            have c10b0 : decide (x10_3 < (a0.size : Int)) = false := decide_eq_false c10; clear c10; have H' := am H; clear H
            go_wp2
            go_roundg k3
            case measure => have := HK1.out; have := HK2.out; have := HK3.out; omega
            case rel => exact ⟨(x7_3), (wrap64 (x18_2 + 1)), wZ, H', ⟨by have := HK1.out; have := HK2.out; have := HK3.out; omega⟩, ⟨Rz HO_7.out⟩, ⟨Rz HO_16.out⟩, ⟨Bz HB.out⟩⟩
        ·rw [if_neg c9] at H
         exact absurd H (by simp)
       ·rw [if_neg c8] at H
        exact absurd H (by simp)
      ·rw [if_neg c7] at H
       have c7b0 : decide (x18_2 < (x6_1.length : Int)) = false := decide_eq_false c7; clear c7
       by_cases c17 : (x7_2.length : Int) > 300
       ·rw [if_pos c17] at H
        have c17b0 : decide (300 < (x7_2.length : Int)) = true := decide_eq_true c17; have c17b1 : decide (300 < x7_2.length) = true := decide_eq_true (by omega); clear c17
        simp only [Option.some.injEq, Prod.mk.injEq] at H
        obtain ⟨rfl, rfl⟩ := H; obtain ⟨Ao18, co18, eo18⟩ := Kd.R_slice HO_7.out; subst eo18
        go_wp2
        go_ret2
        exact ⟨_, eZ, nZ, Bz HB.out⟩
       ·rw [if_neg c17] at H
        have c17b0 : decide (300 < (x7_2.length : Int)) = false := decide_eq_false c17; have c17b1 : decide (300 < x7_2.length) = false := decide_eq_false (by omega); clear c17; have H' := am H; clear H; obtain ⟨Ao19, co19, eo19⟩ := Kd.R_slice HO_7.out; subst eo19
        go_wp2
        go_roundg k2
        case measure => have := HK1.out; have := HK2.out; omega
        case rel => exact ⟨(wrap64 (x1_1 - 1)), (x7_2), wZ, H', ⟨by have := HK1.out; have := HK2.out; omega⟩, ⟨Rz (Kd.R_mono HO_7.out (fun _ hk => trivial))⟩, ⟨Bz HB.out⟩⟩
   ·rw [if_neg c5] at H
    have c5b0 : decide (0 < x1_1) = false := decide_eq_false c5; clear c5
    simp only [Option.some.injEq, Prod.mk.injEq] at H
    obtain ⟨rfl, rfl⟩ := H
    go_wp2
    go_ret2
    exact ⟨_, eZ, Rz HO_6.out, Bz HB.out⟩

def spec_TextsOver.f (k : Nat) (a0 : ByteArray) (a1 : Int) : Option (List ByteArray × Bool) := (spec_fiLetters.f k a0).bind fun t165 => (if t165 = true then ((spec_l1In.f a1 1 8).bind fun t166 => (if t166 = true then ((spec_fiTexts.f k a0 a1).bind fun bt167 => (some (bt167.1, bt167.2))) else (some (([] : List ByteArray), false)))) else (some (([] : List ByteArray), false)))
theorem spec_TextsOver.calls (k : Nat) (a0 : ByteArray) (a1 : Int) (r1 : List ByteArray) (r2 : Bool) (w : World) (h : spec_TextsOver.f k a0 a1 = some (r1, r2)) :
  Calls Try.prog 115 #[.string a0, .int .i64 a1] w fun e w' => ∃ v0_ : Value, e = .returned (.tuple #[v0_, .bool r2]) ∧ Kd.R Kd.string 9 w' w.heap.size (fun _ => True) v0_ r1 ∧ Below w.heap.size w w' := by
 have HB := am (Below.refl w.heap.size w); have H : ((spec_fiLetters.f k a0).bind fun t165 => (if t165 = true then ((spec_l1In.f a1 1 8).bind fun t166 => (if t166 = true then ((spec_fiTexts.f k a0 a1).bind fun bt167 => (some (bt167.1, bt167.2))) else (some (([] : List ByteArray), false)))) else (some (([] : List ByteArray), false)))) = some (r1, r2) := h; clear h; replace H := Option.bind_eq_some_iff.mp H; obtain ⟨t165, A30, H⟩ := H; (try dsimp -simprocs only at H); have A3 := am A30; clear A30
 by_cases c4 : t165 = true
 ·subst c4
  rw [if_pos rfl] at H; replace H := Option.bind_eq_some_iff.mp H; obtain ⟨t166, A50, H⟩ := H; (try dsimp -simprocs only at H); have A5 := am A50; clear A50
  by_cases c6 : t166 = true
  ·subst c6
   rw [if_pos rfl] at H; replace H := Option.bind_eq_some_iff.mp H; obtain ⟨⟨t167, t168⟩, A70, H⟩ := H; (try dsimp -simprocs only at H); have A7 := am A70; clear A70
   simp only [Option.some.injEq, Prod.mk.injEq] at H
   obtain ⟨rfl, rfl⟩ := H
   go_enter Try.func115, Try.ntmps115
   go_wp2_with (first | ((with_reducible refine gate_callee (f := 164) rfl ?_); refine gL (some 7) Try.func164 #[.string a0] ?_; (with_reducible refine (spec_fiLetters.calls k a0 true _ A3.out).mono ?_); rintro e w' ⟨rfl, ⟨nd, rfl⟩⟩; refine ⟨_, rfl, ?_⟩) | (go_at_call 151; (with_reducible refine (spec_l1In.calls a1 1 8 true _ A5.out).mono ?_); rintro e w' ⟨rfl, ⟨nd, rfl⟩⟩) | ((with_reducible refine gate_callee (f := 165) rfl ?_); refine gL (some 16) Try.func165 #[.string a0, .int .i64 a1] ?_; (with_reducible refine (spec_fiTexts.calls k a0 a1 t167 t168 _ A7.out).mono ?_); rintro e w8 ⟨v169, rfl, ho0, hb⟩; refine ⟨_, rfl, ?_⟩; have n0_ := Rl ho0 HB; have n1_ := Bb HB hb; clear HB; revert n0_ n1_; intro HO170 HB; (try clear hb); (try clear hb2); (try clear hk); (try clear hi); (try clear ho0)))
   go_ret2
   exact ⟨_, eZ, Rz HO170.out, Bz HB.out⟩
  ·replace c6 := Bool.eq_false_iff.mpr c6
   subst c6
   rw [if_neg (show ¬ (false = true) by decide)] at H
   simp only [Option.some.injEq, Prod.mk.injEq] at H
   obtain ⟨rfl, rfl⟩ := H
   go_enter Try.func115, Try.ntmps115
   go_wp2_with (first | ((with_reducible refine gate_callee (f := 164) rfl ?_); refine gL (some 7) Try.func164 #[.string a0] ?_; (with_reducible refine (spec_fiLetters.calls k a0 true _ A3.out).mono ?_); rintro e w' ⟨rfl, ⟨nd, rfl⟩⟩; refine ⟨_, rfl, ?_⟩) | (go_at_call 151; (with_reducible refine (spec_l1In.calls a1 1 8 false _ A5.out).mono ?_); rintro e w' ⟨rfl, ⟨nd, rfl⟩⟩))
   go_ret2
   exact ⟨_, eZ, nZ, Bz HB.out⟩
 ·replace c4 := Bool.eq_false_iff.mpr c4
  subst c4
  rw [if_neg (show ¬ (false = true) by decide)] at H
  simp only [Option.some.injEq, Prod.mk.injEq] at H
  obtain ⟨rfl, rfl⟩ := H
  go_enter Try.func115, Try.ntmps115
  go_wp2_with (first | ((with_reducible refine gate_callee (f := 164) rfl ?_); refine gL (some 7) Try.func164 #[.string a0] ?_; (with_reducible refine (spec_fiLetters.calls k a0 false _ A3.out).mono ?_); rintro e w' ⟨rfl, ⟨nd, rfl⟩⟩; refine ⟨_, rfl, ?_⟩))
  go_ret2
  exact ⟨_, eZ, nZ, Bz HB.out⟩

mutual
def spec_ShareOf.j0 : Nat → List ByteArray → Bool → Int → Int → Int → List Int → Option (Int × Int × Bool)
 | 0, _, _, _, _, _, _ => none
 | k + 1, x9, x26, x172000, x172001, x172002, x172003 => if x26 = true then (some (0, 0, false)) else (spec_ShareOf.l0 k x9 0 x9 (x9.length : Int) 0 x172000 x172001 x172002 x172003)
def spec_ShareOf.l0 : Nat → List ByteArray → Int → List ByteArray → Int → Int → Int → Int → Int → List Int → Option (Int × Int × Bool)
 | 0, _, _, _, _, _, _, _, _, _ => none
 | k + 1, x9, x11, x27, x28, x29, x172000, x172001, x172002, x172003 => if x29 < x28 then (if 0 ≤ x29 then (if x29 < (x27.length : Int) then ((spec_fiHas.f k x172000 x172001 x172002 x172003 (rdOf ByteArray.empty x27 x29)).bind fun t178 => (if t178 = true then (spec_ShareOf.l0 k x9 (wrap64 (x11 + 1)) x27 x28 (wrap64 (x29 + 1)) x172000 x172001 x172002 x172003) else (spec_ShareOf.l0 k x9 x11 x27 x28 (wrap64 (x29 + 1)) x172000 x172001 x172002 x172003))) else (none)) else (none)) else (some (x11, (x9.length : Int), true))
end
def spec_ShareOf.f (k : Nat) (a0_0 : Int) (a0_1 : Int) (a0_2 : Int) (l0_3 : List Int) (a1 : ByteArray) (a2 : Int) : Option (Int × Int × Bool) := (spec_TextsOver.f k a1 a2).bind fun bt172 => ((spec_fiGood.f k a0_0 a0_1 a0_2 l0_3).bind fun t176 => (if t176 = true then (spec_ShareOf.j0 k bt172.1 (!bt172.2) a0_0 a0_1 a0_2 l0_3) else (spec_ShareOf.j0 k bt172.1 true a0_0 a0_1 a0_2 l0_3)))
theorem spec_ShareOf.calls (k : Nat) (a0_0 : Int) (a0_1 : Int) (a0_2 : Int) (A0_3 : Option Addr) (c0_3 : Nat) (l0_3 : List Int) (a1 : ByteArray) (a2 : Int) (r1 : Int) (r2 : Int) (r3 : Bool) (w : World) (hr0_3 : Kd.C (Kd.int .i64) w A0_3 l0_3.length l0_3) (hc0_3 : l0_3.length ≤ c0_3) (h : spec_ShareOf.f k a0_0 a0_1 a0_2 l0_3 a1 a2 = some (r1, r2, r3)) :
  Calls Try.prog 36 #[.agg #[.int .i64 a0_0, .int .i64 a0_1, .int .i64 a0_2, .slice A0_3 l0_3.length c0_3], .string a1, .int .i64 a2] w fun e w' => e = .returned (.tuple #[.int .i64 r1, .int .i64 r2, .bool r3]) ∧ Below w.heap.size w w' := by
 have hu28 := Try.underlying28; have HR0_3 := am hr0_3; have HC0_3 := am hc0_3; clear hr0_3 hc0_3; have HB := am (Below.refl w.heap.size w); have H : ((spec_TextsOver.f k a1 a2).bind fun bt172 => ((spec_fiGood.f k a0_0 a0_1 a0_2 l0_3).bind fun t176 => (if t176 = true then (spec_ShareOf.j0 k bt172.1 (!bt172.2) a0_0 a0_1 a0_2 l0_3) else (spec_ShareOf.j0 k bt172.1 true a0_0 a0_1 a0_2 l0_3)))) = some (r1, r2, r3) := h; clear h; replace H := Option.bind_eq_some_iff.mp H; obtain ⟨⟨t172, t173⟩, A40, H⟩ := H; (try dsimp -simprocs only at H); have A4 := am A40; clear A40; have HC5 := am H; clear H
 go_enter Try.func36, Try.ntmps36
 go_upto_region 2 with (first | ((with_reducible refine gate_dst (N := 3) rfl ?_); refine bE 3 #[.int .i64 a0_0, .int .i64 a0_1, .int .i64 a0_2, .slice A0_3 l0_3.length c0_3] 28 ?_; intro gb171 hg w6 hbox hb; have n0_ := Bb HB hb; have n1_ := am (hbox); have n2_ := Gl HB hg; have n3_ := Gl HB hg; clear HB; revert n0_ n1_ n2_ n3_; intro HB BK171 GW171 GE171; clear hb hbox hg) | ((with_reducible refine gate_callee (f := 115) rfl ?_); refine gL (some 17) Try.func115 #[.string a1, .int .i64 a2] ?_; (with_reducible refine (spec_TextsOver.calls k a1 a2 t172 t173 _ A4.out).mono ?_); rintro e w7 ⟨v174, rfl, ho0, hb⟩; refine ⟨_, rfl, ?_⟩; have n0_ := Rm ho0 HB; have n1_ := Kb BK171 hb; have n2_ := Bc HB hb; clear BK171 HB; revert n0_ n1_ n2_; intro HO175 BK171 HB; (try clear hb); (try clear hb2); (try clear hk); (try clear hi); (try clear ho0)))
 (try simp only [aP])
 go_cut [26] (fun v26 wc => ∃ (kq : Nat) (x26_4 : Bool), v26 = .bool x26_4 ∧ Aside0 (spec_ShareOf.j0 kq t172 x26_4 a0_0 a0_1 a0_2 l0_3 = some (r1, r2, r3)) ∧ Aside0 (kq ≤ k) ∧ Aside0 (Kd.R Kd.string 9 wc w.heap.size (fun _ => True) v174 t172) ∧ Aside0 (wc.heap[gb171]? = some (.cells #[.int .i64 a0_0, .int .i64 a0_1, .int .i64 a0_2, (.slice A0_3 l0_3.length c0_3)] 28 (0, 0))) ∧ Aside0 (Below w.heap.size w wc))
 case first =>
  have H := HC5.out; clear HC5; replace H := Option.bind_eq_some_iff.mp H; obtain ⟨t176, A80, H⟩ := H; (try dsimp -simprocs only at H); have A8 := am A80; clear A80
  by_cases c9 : t176 = true
  ·subst c9
   rw [if_pos rfl] at H; have H' := am H; clear H; obtain ⟨hcz10_0, hcz10_1, hcz10_2, hcz10_3, hfz10_0, hfz10_1, hfz10_2, hfz10_3⟩ := cf4 (w := w7) BK171
   go_wp2_with (first | ((with_reducible refine gate_callee (f := 94) rfl ?_); refine gL (some 21) Try.func94 #[.agg #[.int .i64 a0_0, .int .i64 a0_1, .int .i64 a0_2, .slice A0_3 l0_3.length c0_3]] ?_; (with_reducible refine (spec_fiGood.calls k a0_0 a0_1 a0_2 _ _ l0_3 true _ ?side1 ?side2 A8.out).mono ?_); (case side1 => exact Cz (Kd.C_below HR0_3.out HB.out)); (case side2 => exact HC0_3.out); rintro e w11 ⟨rfl, hb⟩; refine ⟨_, rfl, ?_⟩; have n0_ := Rb HO175 hb; have n1_ := Kb BK171 hb; have n2_ := Bc HB hb; clear HO175 BK171 HB; revert n0_ n1_ n2_; intro HO175 BK171 HB; (try clear hb); (try clear hb2); (try clear hk); (try clear hi)))
   go_meet
   case rel => exact ⟨_, (!t173), wZ, H', ⟨by first | omega | exact Nat.le_refl _⟩, ⟨Rz HO175.out⟩, ⟨Kz BK171.out⟩, ⟨Bq⟩⟩
  ·replace c9 := Bool.eq_false_iff.mpr c9
   subst c9
   rw [if_neg (show ¬ (false = true) by decide)] at H; have H' := am H; clear H; obtain ⟨hcz12_0, hcz12_1, hcz12_2, hcz12_3, hfz12_0, hfz12_1, hfz12_2, hfz12_3⟩ := cf4 (w := w7) BK171
   go_wp2_with (first | ((with_reducible refine gate_callee (f := 94) rfl ?_); refine gL (some 21) Try.func94 #[.agg #[.int .i64 a0_0, .int .i64 a0_1, .int .i64 a0_2, .slice A0_3 l0_3.length c0_3]] ?_; (with_reducible refine (spec_fiGood.calls k a0_0 a0_1 a0_2 _ _ l0_3 false _ ?side1 ?side2 A8.out).mono ?_); (case side1 => exact Cz (Kd.C_below HR0_3.out HB.out)); (case side2 => exact HC0_3.out); rintro e w13 ⟨rfl, hb⟩; refine ⟨_, rfl, ?_⟩; have n0_ := Rb HO175 hb; have n1_ := Kb BK171 hb; have n2_ := Bc HB hb; clear HO175 BK171 HB; revert n0_ n1_ n2_; intro HO175 BK171 HB; (try clear hb); (try clear hb2); (try clear hk); (try clear hi)))
   go_meet
   case rel => exact ⟨_, (true), wZ, H', ⟨by first | omega | exact Nat.le_refl _⟩, ⟨Rz HO175.out⟩, ⟨Kz BK171.out⟩, ⟨Bq⟩⟩
 case rest =>
  clear HC5
  try clear c1
  try clear p2
  try clear c3
  try clear c9
  try clear c11
  try clear hcz10_0
  try clear hcz10_1
  try clear hcz10_2
  try clear hcz10_3
  try clear hcz12_0
  try clear hcz12_1
  try clear hcz12_2
  try clear hcz12_3
  try clear hfz10_0
  try clear hfz10_1
  try clear hfz10_2
  try clear hfz10_3
  try clear hfz12_0
  try clear hfz12_1
  try clear hfz12_2
  try clear hfz12_3
  obtain ⟨kq, x26_4, rfl, HA, HJ4, HO_9, BK171, HB⟩ := hcut; cases kq with
  | zero => exact absurd HA.out (by simp [spec_ShareOf.j0])
  | succ kj4 =>
   have H := HA.out; clear HA
   simp only [spec_ShareOf.j0] at H
   by_cases c14 : x26_4 = true
   ·subst c14
    rw [if_pos rfl] at H
    simp only [Option.some.injEq, Prod.mk.injEq] at H
    obtain ⟨rfl, rfl, rfl⟩ := H
    go_wp2
    go_ret3
    exact ⟨eZ, Bq⟩
   ·replace c14 := Bool.eq_false_iff.mpr c14
    subst c14
    rw [if_neg (show ¬ (false = true) by decide)] at H; have H' := am H; clear H; obtain ⟨Ao15, co15, eo15⟩ := Kd.R_slice HO_9.out; subst eo15
    go_wp2
    go_loopg [11, 29] kj4 (fun kq v11 v29 w' => ∃ (x11_2 : Int) (x29_2 : Int), v11 = .int .i64 x11_2 ∧ v29 = .int .i64 x29_2 ∧ Aside0 (spec_ShareOf.l0 kq t172 x11_2 t172 (t172.length : Int) x29_2 a0_0 a0_1 a0_2 l0_3 = some (r1, r2, r3)) ∧ Aside0 (kq ≤ kj4) ∧ Aside0 (Kd.R Kd.string 9 w' w.heap.size (fun _ => True) (.slice Ao15 t172.length co15) t172) ∧ Aside0 (Kd.R Kd.string 9 w' w.heap.size (fun _ => True) (.slice Ao15 t172.length co15) t172) ∧ Aside0 (w'.heap[gb171]? = some (.cells #[.int .i64 a0_0, .int .i64 a0_1, .int .i64 a0_2, (.slice A0_3 l0_3.length c0_3)] 28 (0, 0))) ∧ Aside0 (Below w.heap.size w w'))
    case atStart => exact ⟨(0), (0), wZ, wZ, H', ⟨Nat.le_refl _⟩, ⟨Rz HO_9.out⟩, ⟨Rz HO_9.out⟩, ⟨Kz BK171.out⟩, ⟨Bq⟩⟩
    case round =>
     clear H'
     try clear c1
     try clear p2
     try clear c3
     try clear c9
     try clear c11
     try clear c14
     try clear hcz10_0
     try clear hcz10_1
     try clear hcz10_2
     try clear hcz10_3
     try clear hcz12_0
     try clear hcz12_1
     try clear hcz12_2
     try clear hcz12_3
     try clear hfz10_0
     try clear hfz10_1
     try clear hfz10_2
     try clear hfz10_3
     try clear hfz12_0
     try clear hfz12_1
     try clear hfz12_2
     try clear hfz12_3
     try clear p2
     obtain ⟨x11_2, x29_2, rfl, rfl, HA, HK2, HO_9, HO_27, BK171, HB⟩ := hrel; cases gk with
     | zero => exact absurd HA.out (by simp [spec_ShareOf.l0])
     | succ k2 =>
      have H := HA.out; clear HA
      simp only [spec_ShareOf.l0] at H
      by_cases c16 : x29_2 < (t172.length : Int)
      ·rw [if_pos c16] at H
       have c16b0 : decide (x29_2 < (t172.length : Int)) = true := decide_eq_true c16; clear c16
       by_cases c17 : 0 ≤ x29_2
       ·rw [if_pos c17] at H
        have c17b0 : decide (0 ≤ x29_2) = true := decide_eq_true c17; clear c17
        by_cases c18 : x29_2 < (t172.length : Int)
        ·rw [if_pos c18] at H
         have c18b0 : decide (x29_2 < (t172.length : Int)) = true := decide_eq_true c18; clear c18; replace H := Option.bind_eq_some_iff.mp H; obtain ⟨t178, A190, H⟩ := H; (try dsimp -simprocs only at H); have A19 := am A190; clear A190
         by_cases c20 : t178 = true
         ·subst c20
          rw [if_pos rfl] at H; have H' := am H; clear H; obtain ⟨ad177, e177, hx177_0⟩ := Kd.at_string (Kd.R_reads' HO_27.out).2.2 x29_2 dT dT; cases e177; have p177 := eT (0 ≤ (x29_2 : Int)); have q177 := eT (x29_2 < (t172.length : Int)); obtain ⟨hcz21_0, hcz21_1, hcz21_2, hcz21_3, hfz21_0, hfz21_1, hfz21_2, hfz21_3⟩ := cf4 (w := wr) BK171
          go_wp2_with (first | ((with_reducible refine gate_callee (f := 108) rfl ?_); refine gL (some 35) Try.func108 #[.agg #[.int .i64 a0_0, .int .i64 a0_1, .int .i64 a0_2, .slice A0_3 l0_3.length c0_3], .string (rdOf ByteArray.empty t172 x29_2)] ?_; (with_reducible refine (spec_fiHas.calls k2 a0_0 a0_1 a0_2 _ _ l0_3 (rdOf ByteArray.empty t172 x29_2) true _ ?side1 ?side2 A19.out).mono ?_); (case side1 => exact Cz (Kd.C_below HR0_3.out HB.out)); (case side2 => exact HC0_3.out); rintro e w22 ⟨rfl, hb⟩; refine ⟨_, rfl, ?_⟩; have n0_ := Rb HO_9 hb; have n1_ := Rb HO_27 hb; have n2_ := Kb BK171 hb; have n3_ := Bc HB hb; clear HO_9 HO_27 BK171 HB; revert n0_ n1_ n2_ n3_; intro HO_9 HO_27 BK171 HB; (try clear hb); (try clear hb2); (try clear hk); (try clear hi)))
          go_roundg k2
          case measure => have := HJ4.out; have := HK2.out; omega
          case rel => exact ⟨(wrap64 (x11_2 + 1)), (wrap64 (x29_2 + 1)), wZ, wZ, H', ⟨by have := HJ4.out; have := HK2.out; omega⟩, ⟨Rz HO_9.out⟩, ⟨Rz HO_27.out⟩, ⟨Kz BK171.out⟩, ⟨Bq⟩⟩
         ·replace c20 := Bool.eq_false_iff.mpr c20
          subst c20
          rw [if_neg (show ¬ (false = true) by decide)] at H; have H' := am H; clear H; obtain ⟨ad177, e177, hx177_0⟩ := Kd.at_string (Kd.R_reads' HO_27.out).2.2 x29_2 dT dT; cases e177; have p177 := eT (0 ≤ (x29_2 : Int)); have q177 := eT (x29_2 < (t172.length : Int)); obtain ⟨hcz23_0, hcz23_1, hcz23_2, hcz23_3, hfz23_0, hfz23_1, hfz23_2, hfz23_3⟩ := cf4 (w := wr) BK171
          go_wp2_with (first | ((with_reducible refine gate_callee (f := 108) rfl ?_); refine gL (some 35) Try.func108 #[.agg #[.int .i64 a0_0, .int .i64 a0_1, .int .i64 a0_2, .slice A0_3 l0_3.length c0_3], .string (rdOf ByteArray.empty t172 x29_2)] ?_; (with_reducible refine (spec_fiHas.calls k2 a0_0 a0_1 a0_2 _ _ l0_3 (rdOf ByteArray.empty t172 x29_2) false _ ?side1 ?side2 A19.out).mono ?_); (case side1 => exact Cz (Kd.C_below HR0_3.out HB.out)); (case side2 => exact HC0_3.out); rintro e w24 ⟨rfl, hb⟩; refine ⟨_, rfl, ?_⟩; have n0_ := Rb HO_9 hb; have n1_ := Rb HO_27 hb; have n2_ := Kb BK171 hb; have n3_ := Bc HB hb; clear HO_9 HO_27 BK171 HB; revert n0_ n1_ n2_ n3_; intro HO_9 HO_27 BK171 HB; (try clear hb); (try clear hb2); (try clear hk); (try clear hi)))
          go_roundg k2
          case measure => have := HJ4.out; have := HK2.out; omega
          case rel => exact ⟨(x11_2), (wrap64 (x29_2 + 1)), wZ, wZ, H', ⟨by have := HJ4.out; have := HK2.out; omega⟩, ⟨Rz HO_9.out⟩, ⟨Rz HO_27.out⟩, ⟨Kz BK171.out⟩, ⟨Bq⟩⟩
        ·rw [if_neg c18] at H
         exact absurd H (by simp)
       ·rw [if_neg c17] at H
        exact absurd H (by simp)
      ·rw [if_neg c16] at H
       have c16b0 : decide (x29_2 < (t172.length : Int)) = false := decide_eq_false c16; clear c16
       simp only [Option.some.injEq, Prod.mk.injEq] at H
       obtain ⟨rfl, rfl, rfl⟩ := H
       go_wp2
       go_ret3
       exact ⟨eZ, Bq⟩

def impl_in.f (a0 : Int) (a1 : Int) (a2 : Int) : Option (Bool) := if a0 ≥ a1 then (some (decide (a0 ≤ a2))) else (some false)
theorem impl_in.calls (a0 : Int) (a1 : Int) (a2 : Int) (r : Bool) (w : World) (h : impl_in.f a0 a1 a2 = some r) :
  Calls Try.prog 126 #[.int .i64 a0, .int .i64 a1, .int .i64 a2] w fun e w' => e = .returned (.bool r) ∧ Drawn0 w w' := by
 have H : (if a0 ≥ a1 then (some (decide (a0 ≤ a2))) else (some false)) = some r := h; clear h
 by_cases c4 : a0 ≥ a1
 ·rw [if_pos c4] at H
  have c4b0 : decide (a1 ≤ a0) = true := decide_eq_true c4; clear c4; obtain rfl := Option.some.inj H
  go_enter Try.func126, Try.ntmps126
  go_wp2
  go_ret
  exact ⟨by first | rfl | (simp; done) | (simp [*]; done), by repeat (first | exact Drawn0.refl _ | apply Drawn0.step)⟩
 ·rw [if_neg c4] at H
  have c4b0 : decide (a1 ≤ a0) = false := decide_eq_false c4; clear c4; obtain rfl := Option.some.inj H
  go_enter Try.func126, Try.ntmps126
  go_wp2
  go_ret
  exact ⟨by first | rfl | (simp; done) | (simp [*]; done), by repeat (first | exact Drawn0.refl _ | apply Drawn0.step)⟩

def impl_IsKey.l0 : Nat → ByteArray → Int → Int → Option (Bool)
 | 0, _, _, _ => none
 | k + 1, x0, x5, x6 => if x6 < x5 then (if 0 ≤ x6 then (if x6 < (x0.size : Int) then (if (bt x0 x6) < 33 then (some false) else (if (bt x0 x6) > 125 then (some false) else (impl_IsKey.l0 k x0 x5 (wrap64 (x6 + 1))))) else (none)) else (none)) else ((impl_in.f (x0.size : Int) 1 12).bind fun t179 => (some t179))
def impl_IsKey.f (k : Nat) (a0 : ByteArray) : Option (Bool) := impl_IsKey.l0 k a0 (a0.size : Int) 0
theorem impl_IsKey.calls (k : Nat) (a0 : ByteArray) (r : Bool) (w : World) (h : impl_IsKey.f k a0 = some r) :
  Calls Try.prog 98 #[.string a0] w fun e w' => e = .returned (.bool r) ∧ Drawn0 w w' := by
 have H : (impl_IsKey.l0 k a0 (a0.size : Int) 0) = some r := h; clear h; have H' := am H; clear H
 go_enter Try.func98, Try.ntmps98
 go_wp2
 go_loopg [6] k (fun kq v6 w' => ∃ (x6_1 : Int), v6 = .int .i64 x6_1 ∧ Aside0 (impl_IsKey.l0 kq a0 (a0.size : Int) x6_1 = some r) ∧ Aside0 (kq ≤ k) ∧ Drawn0 w w')
 case atStart => exact ⟨(0), wZ, H', ⟨Nat.le_refl _⟩, by repeat (first | exact Drawn0.refl _ | apply Drawn0.step)⟩
 case round =>
  clear H'; obtain ⟨x6_1, rfl, HA, HK1, ⟨m1, rfl⟩⟩ := hrel; cases gk with
  | zero => exact absurd HA.out (by simp [impl_IsKey.l0])
  | succ k1 =>
   have H := HA.out; clear HA
   simp only [impl_IsKey.l0] at H
   by_cases c2 : x6_1 < (a0.size : Int)
   ·rw [if_pos c2] at H
    have c2b0 : decide (x6_1 < (a0.size : Int)) = true := decide_eq_true c2; clear c2
    by_cases c3 : 0 ≤ x6_1
    ·rw [if_pos c3] at H
     have c3b0 : decide (0 ≤ x6_1) = true := decide_eq_true c3; clear c3
     by_cases c4 : x6_1 < (a0.size : Int)
     ·rw [if_pos c4] at H
      have c4b0 : decide (x6_1 < (a0.size : Int)) = true := decide_eq_true c4; clear c4
      by_cases c6 : (bt a0 x6_1) < 33
      ·rw [if_pos c6] at H
       have c6b0 : decide ((bt a0 x6_1) < 33) = true := decide_eq_true c6; clear c6; obtain rfl := Option.some.inj H; have p5 : 0 ≤ (x6_1 : Int) := dT; have q5 : x6_1 < (a0.size : Int) := dT; have hx5 := bt_at a0 x6_1; replace p5 := eq_true p5; replace q5 := eq_true q5
       go_wp2
       go_ret
       exact ⟨by first | rfl | (simp; done) | (simp [*]; done), by repeat (first | exact Drawn0.refl _ | apply Drawn0.step)⟩
      ·rw [if_neg c6] at H
       have c6b0 : decide ((bt a0 x6_1) < 33) = false := decide_eq_false c6; clear c6
       by_cases c8 : (bt a0 x6_1) > 125
       ·rw [if_pos c8] at H
        have c8b0 : decide (125 < (bt a0 x6_1)) = true := decide_eq_true c8; clear c8; obtain rfl := Option.some.inj H; have p5 : 0 ≤ (x6_1 : Int) := dT; have q5 : x6_1 < (a0.size : Int) := dT; have hx5 := bt_at a0 x6_1; replace p5 := eq_true p5; replace q5 := eq_true q5; have p7 : 0 ≤ (x6_1 : Int) := dT; have q7 : x6_1 < (a0.size : Int) := dT; have hx7 := bt_at a0 x6_1; replace p7 := eq_true p7; replace q7 := eq_true q7
        go_wp2
        go_ret
        exact ⟨by first | rfl | (simp; done) | (simp [*]; done), by repeat (first | exact Drawn0.refl _ | apply Drawn0.step)⟩
       ·rw [if_neg c8] at H
        have c8b0 : decide (125 < (bt a0 x6_1)) = false := decide_eq_false c8; clear c8; have H' := am H; clear H; have p5 : 0 ≤ (x6_1 : Int) := dT; have q5 : x6_1 < (a0.size : Int) := dT; have hx5 := bt_at a0 x6_1; replace p5 := eq_true p5; replace q5 := eq_true q5; have p7 : 0 ≤ (x6_1 : Int) := dT; have q7 : x6_1 < (a0.size : Int) := dT; have hx7 := bt_at a0 x6_1; replace p7 := eq_true p7; replace q7 := eq_true q7
        go_wp2
        go_roundg k1
        case measure => have := HK1.out; omega
        case rel => exact ⟨(wrap64 (x6_1 + 1)), wZ, H', ⟨by have := HK1.out; omega⟩, by repeat (first | exact Drawn0.refl _ | apply Drawn0.step)⟩
     ·rw [if_neg c4] at H
      exact absurd H (by simp)
    ·rw [if_neg c3] at H
     exact absurd H (by simp)
   ·rw [if_neg c2] at H
    have c2b0 : decide (x6_1 < (a0.size : Int)) = false := decide_eq_false c2; clear c2; replace H := Option.bind_eq_some_iff.mp H; obtain ⟨t179, A90, H⟩ := H; (try dsimp -simprocs only at H); have A9 := am A90; clear A90; obtain rfl := Option.some.inj H
    go_wp2_with (first | ((with_reducible refine gate_callee (f := 126) rfl ?_); refine gL (some 22) Try.func126 #[.int .i64 (a0.size : Int), .int .i64 1, .int .i64 12] ?_; (with_reducible refine (impl_in.calls (a0.size : Int) 1 12 t179 _ A9.out).mono ?_); rintro e w' ⟨rfl, ⟨nd, rfl⟩⟩; refine ⟨_, rfl, ?_⟩))
    go_ret
    exact ⟨by first | rfl | (simp; done) | (simp [*]; done), by repeat (first | exact Drawn0.refl _ | apply Drawn0.step)⟩

open Go Go.Maps Go.Proofs.YtpkpjikkfikejaaGp
theorem lettersK : Keyed Try.prog 5 := int_keyed Try.underlying5
theorem lettersZ (w : World) : (zeroValue 4).run Try.prog w = .ok (.bool false) w := by kernel_rfl
def goesL : List Int → List Int → Bool
 | _, [] => true
 | S, x :: t => !(S.contains x) && goesL (x :: S) t
def lets (a0 : ByteArray) : List Int := (List.range a0.size).map fun i => bt a0 ((i : Nat) : Int)
def impl_areLetters.f (k : Nat) (a0 : ByteArray) : Option Bool := if a0.size ≤ 4000000 then (if goesL [] (lets a0) = true then impl_IsKey.f k a0 else some false) else none
theorem lets_len (a0 : ByteArray) : (lets a0).length = a0.size := by simp [lets]
theorem lets_get (a0 : ByteArray) {k : Nat} (h : k < a0.size) : (lets a0).drop k = bt a0 (k : Int) :: (lets a0).drop (k + 1) := by
 have hl : k < (lets a0).length := by rw [lets_len]; exact h
 rw [List.drop_eq_getElem_cons hl]
 simp [lets]
theorem bt_wf (a0 : ByteArray) (i : Int) : (Lit.int .u8 (bt a0 i)).wf = true := by
 have h := bt_range a0 i
 simp only [Lit.wf, Bool.and_eq_true, decide_eq_true_eq]
 exact h
theorem impl_areLetters.calls (k : Nat) (a0 : ByteArray) (r : Bool) (w : World) (h : impl_areLetters.f k a0 = some r) :
  Calls Try.prog 150 #[.string a0] w fun e w' => e = .returned (.bool r) ∧ Below w.heap.size w w' := by
 unfold impl_areLetters.f at h
 split at h
 case isFalse => cases h
 case isTrue hl =>
 have HG : Aside0 ((if goesL [] (lets a0) = true then impl_IsKey.f k a0 else some false) = some r) := ⟨h⟩; clear h; have hmm := @run_makeMap Try.prog
 go_enter Try.func150, Try.ntmps150
 go_wp2
 go_loopw [8] (fun i wr => ∃ (m : Nat) (S : List Int) (D : DataW Unit), m ≤ a0.size ∧ i = .int .i64 m ∧ wr.ownsMap Try.prog 5 (plainElem (H := Unit) Try.prog 4) w.heap.size m D ∧ Aside0 (SetIs .u8 D S) ∧ Aside0 ((if goesL S ((lets a0).drop m) = true then impl_IsKey.f k a0 else some false) = some r) ∧ Below w.heap.size w wr)
  (fun i _ => a0.size - (intOf i).toNat)
 case atStart => exact ⟨0, [], .map [], Nat.zero_le _, rfl, World.ownsMap_made _ _ _ _, ⟨SetIs.empty _⟩, ⟨by simpa using HG.out⟩, (Below.refl _ _).alloc (Nat.le_refl _) _⟩
 case round =>
  obtain ⟨m, S, D, hm, rfl, hown, HS, HA, hnx⟩ := hrel
  by_cases hlt : m < a0.size
  ·have hx : ∀ h : m < a0.size, ((a0[m]'h).toNat : Int) = bt a0 (m : Int) := fun h => bt_at a0 (m : Int) h
   have p5 : (0 ≤ (m : Int)) = True := eq_true (by omega); have q5 : ((m : Int) < (a0.size : Int)) = True := eq_true (by omega); have HK : Aside0 (keyOf Try.prog 5 (.int .u8 (bt a0 (m : Int))) = some (.int .u8 (bt a0 (m : Int)))) := ⟨keyOf_int_mk Try.underlying5 (bt_wf a0 _)⟩; have HD : Aside0 ((lets a0).drop m = bt a0 (m : Int) :: (lets a0).drop (m + 1)) := ⟨lets_get a0 hlt⟩
   by_cases hs : S.contains (bt a0 (m : Int)) = true
   ·have HB := HS.out.2.1 (bt a0 (m : Int))
    rw [hs] at HB; have HB' := am HB; clear HB
    go_wp2_with (first
     | (at_lookup; refine lookB _ rfl _ _ 163 rfl 5 4 lettersK Try.underlying163 Try.underlying4 (lettersZ _) w.heap.size m D rfl hown _ _ rfl HK.out true HB'.out ?_)
     | go_in)
    go_ret
    refine ⟨?_, hnx⟩; have := HA.out; rw [HD.out, goesL, hs] at this; have := Option.some.inj this; rw [← this]; rfl
   ·have hs' : S.contains (bt a0 (m : Int)) = false := by simpa using hs
    have HF := am hs'; have HB := HS.out.2.1 (bt a0 (m : Int)); rw [hs'] at HB; clear hs' hs; have HB' := am HB; clear HB
    go_wp2_with (first
     | (at_lookup; refine lookB _ rfl _ _ 163 rfl 5 4 lettersK Try.underlying163 Try.underlying4 (lettersZ _) w.heap.size m D rfl hown _ _ rfl HK.out false HB'.out ?_)
     | (at_mapUpdate; refine wpList_mapUpdate_own _ rfl _ _ _ 163 rfl 5 4 lettersK Try.underlying163 (plainElem (H := Unit) Try.prog 4) w.heap.size m _ rfl hown (by unfold maxLen; omega) _ _ _ rfl rfl HK.out _ [] (plainElem_bool Try.underlying4 true) ?_; intro w1 hown1 hgrow1)
     | go_in)
    go_roundw
    case rel => exact ⟨m + 1, bt a0 (m : Int) :: S, _, by omega, by go_num, hown1, ⟨HS.out.put _⟩, ⟨by have := HA.out; rw [HD.out, goesL, HF.out] at this; exact this⟩, hnx.grown hgrow1 hnx.size (fun j hj => by cases hj; exact Nat.le_refl _)⟩
    case measure => simp [intOf]; omega
  ·have e : m = a0.size := by omega
   subst e
   have HI : Aside0 (impl_IsKey.f k a0 = some r) := ⟨by
    have := HA.out; rw [show (lets a0).drop a0.size = [] from by rw [← lets_len, List.drop_length], goesL, if_pos rfl] at this
    exact this⟩
   go_wp2_with (first
    | (go_at_call 98; (with_reducible refine (impl_IsKey.calls k a0 r _ HI.out).mono ?_); rintro e w' ⟨rfl, ⟨nd, rfl⟩⟩)
    | go_in)
   go_ret
   exact ⟨rfl, pw_below_drewN hnx _⟩

mutual
def impl_TextsOver.j0 : Nat → ByteArray → Int → Bool → Option (List ByteArray × Bool)
 | 0, _, _, _ => none
 | k + 1, x0, x1, x18 => if x18 = true then (some (([] : List ByteArray), false)) else (impl_TextsOver.l0 k x0 (([(⟨#[]⟩ : ByteArray)] : List ByteArray)) x1 0)
def impl_TextsOver.l0 : Nat → ByteArray → List ByteArray → Int → Int → Option (List ByteArray × Bool)
 | 0, _, _, _, _ => none
 | k + 1, x0, x6, x20, x21 => if x21 < x20 then (impl_TextsOver.l1 k x0 (([] : List ByteArray)) x20 x21 x6 (x6.length : Int) 0) else (some (x6, true))
def impl_TextsOver.l1 : Nat → ByteArray → List ByteArray → Int → Int → List ByteArray → Int → Int → Option (List ByteArray × Bool)
 | 0, _, _, _, _, _, _, _ => none
 | k + 1, x0, x7, x20, x21, x24, x25, x26 => if x26 < x25 then (if 0 ≤ x26 then (if x26 < (x24.length : Int) then (impl_TextsOver.l2 k x0 x7 (rdOf ByteArray.empty x24 x26) x20 x21 x24 x25 x26 (x0.size : Int) 0) else (none)) else (none)) else (if (x7.length : Int) > 300 then (some (([] : List ByteArray), false)) else (impl_TextsOver.l0 k x0 x7 x20 (wrap64 (x21 + 1))))
def impl_TextsOver.l2 : Nat → ByteArray → List ByteArray → ByteArray → Int → Int → List ByteArray → Int → Int → Int → Int → Option (List ByteArray × Bool)
 | 0, _, _, _, _, _, _, _, _, _, _ => none
 | k + 1, x0, x7, x9, x20, x21, x24, x25, x26, x31, x32 => if x32 < x31 then (if 0 ≤ x32 then (if x32 ≤ (wrap64 (x32 + 1)) then (if (wrap64 (x32 + 1)) ≤ (x0.size : Int) then (if x9.size + (x0.extract (x32 : Int).toNat ((wrap64 (x32 + 1)) : Int).toNat).size ≤ 9223372036854775807 then (if x7.length < 8796093022208 then (impl_TextsOver.l2 k x0 (x7 ++ [x9 ++ (x0.extract (x32 : Int).toNat ((wrap64 (x32 + 1)) : Int).toNat)]) x9 x20 x21 x24 x25 x26 x31 (wrap64 (x32 + 1))) else (none)) else (none)) else (none)) else (none)) else (none)) else (impl_TextsOver.l1 k x0 x7 x20 x21 x24 x25 (wrap64 (x26 + 1)))
end
def impl_TextsOver.f (k : Nat) (a0 : ByteArray) (a1 : Int) : Option (List ByteArray × Bool) := (impl_areLetters.f k a0).bind fun t180 => (if t180 = true then ((impl_in.f a1 1 8).bind fun t181 => (impl_TextsOver.j0 k a0 a1 (!t181))) else (impl_TextsOver.j0 k a0 a1 true))
theorem impl_TextsOver.calls (k : Nat) (a0 : ByteArray) (a1 : Int) (r1 : List ByteArray) (r2 : Bool) (w : World) (h : impl_TextsOver.f k a0 a1 = some (r1, r2)) :
  Calls Try.prog 81 #[.string a0, .int .i64 a1] w fun e w' => ∃ v0_ : Value, e = .returned (.tuple #[v0_, .bool r2]) ∧ Kd.R Kd.string 9 w' w.heap.size (fun _ => True) v0_ r1 ∧ Below w.heap.size w w' := by
 have HB := am (Below.refl w.heap.size w); have H : ((impl_areLetters.f k a0).bind fun t180 => (if t180 = true then ((impl_in.f a1 1 8).bind fun t181 => (impl_TextsOver.j0 k a0 a1 (!t181))) else (impl_TextsOver.j0 k a0 a1 true))) = some (r1, r2) := h; clear h; have HC3 := am H; clear H
 go_enter Try.func81, Try.ntmps81
 go_upto_region 1 with (fail)
 go_cut [18] (fun v18 wc => ∃ (kq : Nat) (x18_2 : Bool), v18 = .bool x18_2 ∧ Aside0 (impl_TextsOver.j0 kq a0 a1 x18_2 = some (r1, r2)) ∧ Aside0 (kq ≤ k) ∧ Aside0 (Below w.heap.size w wc))
 case first =>
  have H := HC3.out; clear HC3; replace H := Option.bind_eq_some_iff.mp H; obtain ⟨t180, A40, H⟩ := H; (try dsimp -simprocs only at H); have A4 := am A40; clear A40
  by_cases c5 : t180 = true
  ·subst c5
   rw [if_pos rfl] at H; replace H := Option.bind_eq_some_iff.mp H; obtain ⟨t181, A60, H⟩ := H; (try dsimp -simprocs only at H); have A6 := am A60; clear A60; have H' := am H; clear H
   go_wp2_with (first | ((with_reducible refine gate_callee (f := 150) rfl ?_); refine gL (some 12) Try.func150 #[.string a0] ?_; (with_reducible refine (impl_areLetters.calls k a0 true _ A4.out).mono ?_); rintro e w7 ⟨rfl, hb⟩; refine ⟨_, rfl, ?_⟩; have n0_ := Bb HB hb; clear HB; revert n0_; intro HB; (try clear hb); (try clear hb2); (try clear hk); (try clear hi)) | (go_at_call 126; (with_reducible refine (impl_in.calls a1 1 8 t181 _ A6.out).mono ?_); rintro e w' ⟨rfl, ⟨nd, rfl⟩⟩))
   go_meet
   case rel => exact ⟨_, (!t181), wZ, H', ⟨by first | omega | exact Nat.le_refl _⟩, ⟨Bz HB.out⟩⟩
  ·replace c5 := Bool.eq_false_iff.mpr c5
   subst c5
   rw [if_neg (show ¬ (false = true) by decide)] at H; have H' := am H; clear H
   go_wp2_with (first | ((with_reducible refine gate_callee (f := 150) rfl ?_); refine gL (some 12) Try.func150 #[.string a0] ?_; (with_reducible refine (impl_areLetters.calls k a0 false _ A4.out).mono ?_); rintro e w8 ⟨rfl, hb⟩; refine ⟨_, rfl, ?_⟩; have n0_ := Bb HB hb; clear HB; revert n0_; intro HB; (try clear hb); (try clear hb2); (try clear hk); (try clear hi)))
   go_meet
   case rel => exact ⟨_, (true), wZ, H', ⟨by first | omega | exact Nat.le_refl _⟩, ⟨Bz HB.out⟩⟩
 case rest =>
  clear HC3
  try clear c1
  try clear p2
  try clear c5
  try clear c8
  obtain ⟨kq, x18_2, rfl, HA, HJ2, HB⟩ := hcut; cases kq with
  | zero => exact absurd HA.out (by simp [impl_TextsOver.j0])
  | succ kj2 =>
   have H := HA.out; clear HA
   simp only [impl_TextsOver.j0] at H
   by_cases c9 : x18_2 = true
   ·subst c9
    rw [if_pos rfl] at H
    simp only [Option.some.injEq, Prod.mk.injEq] at H
    obtain ⟨rfl, rfl⟩ := H
    go_wp2
    go_ret2
    exact ⟨_, eZ, nZ, Bz HB.out⟩
   ·replace c9 := Bool.eq_false_iff.mpr c9
    subst c9
    rw [if_neg (show ¬ (false = true) by decide)] at H; obtain ⟨y182, hy182⟩ : ∃ y_ : List ByteArray, y_ = (([(⟨#[]⟩ : ByteArray)] : List ByteArray)) := ⟨_, rfl⟩
    replace H : (impl_TextsOver.l0 kj2 a0 y182 a1 0) = some (r1, r2) := by first | (rw [hy182]; with_reducible exact H) | (have H2_ := (Option.bind_some _ _).symm.trans H; rw [hy182]; with_reducible exact H2_) | (have H2_ := (Option.bind_some _ _).symm.trans H; with_reducible exact H2_) | with_reducible exact H | (rw [hy182]; exact H) | exact H
    have Ny182 := am hy182; clear hy182; have H' := am H; clear H
    go_wp2_with (first | ((with_reducible refine gate_dst (N := 19) rfl ?_); refine Kd.R_lit Kd.string _ 9 ?hg (N := 19) ?hd (xs := ([(⟨#[]⟩ : ByteArray)] : List ByteArray)) (inner := [.string (⟨#[]⟩ : ByteArray)]) (ok := fun _ => True) (okp := fun _ => True) ?hr ?hp (fun _ hk => hk) trivial (Below.refl _ _) (Nat.le_refl _) (by simp) ?_; (case hd => rfl); (case hg => rfl); (case hr => first | (go_simp; done) | (go_simp; rfl)); (case hp => exact (Reps.one (show Kd.M Kd.string _ _ _ (⟨#[]⟩ : ByteArray) [.string (⟨#[]⟩ : ByteArray)] from rfl) (Reps.none _ _))); intro v183 w10 ho11 hb hg_ hnew_; clear hg_ hnew_; (first | rw [← Ny182.out] at ho11 | (simp only [Int.reduceToNat] at ho11; rw [← Ny182.out] at ho11)); have n0_ := Rl ho11 HB; have n1_ := Bb HB hb; clear HB; revert n0_ n1_; intro HO184 HB; clear hb ho11))
    (try simp only [aP])
    go_loopg [6, 21] kj2 (fun kq v6 v21 w' => ∃ (x6_2 : List ByteArray) (x21_2 : Int), v21 = .int .i64 x21_2 ∧ Aside0 (impl_TextsOver.l0 kq a0 x6_2 a1 x21_2 = some (r1, r2)) ∧ Aside0 (kq ≤ kj2) ∧ Aside0 (Kd.R Kd.string 9 w' w.heap.size (fun _ => True) v6 x6_2) ∧ Aside0 (Below w.heap.size w w'))
    case atStart => exact ⟨(y182), (0), wZ, H', ⟨Nat.le_refl _⟩, ⟨Rz HO184.out⟩, ⟨Bz HB.out⟩⟩
    case round =>
     clear H'
     try clear c1
     try clear p2
     try clear c5
     try clear c8
     try clear c9
     try clear p2
     obtain ⟨x6_2, x21_2, rfl, HA, HK2, HO_6, HB⟩ := hrel; cases gk with
     | zero => exact absurd HA.out (by simp [impl_TextsOver.l0])
     | succ k2 =>
      have H := HA.out; clear HA
      simp only [impl_TextsOver.l0] at H
      by_cases c12 : x21_2 < a1
      ·rw [if_pos c12] at H
       have c12b0 : decide (x21_2 < a1) = true := decide_eq_true c12; clear c12; obtain ⟨y185, hy185⟩ : ∃ y_ : List ByteArray, y_ = (([] : List ByteArray)) := ⟨_, rfl⟩
       replace H : (impl_TextsOver.l1 k2 a0 y185 a1 x21_2 x6_2 (x6_2.length : Int) 0) = some (r1, r2) := by first | (rw [hy185]; with_reducible exact H) | (have H2_ := (Option.bind_some _ _).symm.trans H; rw [hy185]; with_reducible exact H2_) | (have H2_ := (Option.bind_some _ _).symm.trans H; with_reducible exact H2_) | with_reducible exact H | (rw [hy185]; exact H) | exact H
       have Ny185 := am hy185; clear hy185; have H' := am H; clear H
       go_wp2_with (first | ((with_reducible refine gate_dst (N := 23) rfl ?_); refine Kd.R_lit Kd.string _ 9 ?hg (N := 23) ?hd (xs := ([] : List ByteArray)) (inner := []) (ok := fun _ => True) (okp := fun _ => True) ?hr ?hp (fun _ hk => hk) trivial (Below.refl _ _) (Nat.le_refl _) (by simp) ?_; (case hd => rfl); (case hg => rfl); (case hr => first | (go_simp; done) | (go_simp; rfl)); (case hp => exact (Reps.none _ _)); intro v186 w13 ho14 hb hg_ hnew_; clear hg_ hnew_; (first | rw [← Ny185.out] at ho14 | (simp only [Int.reduceToNat] at ho14; rw [← Ny185.out] at ho14)); have n0_ := Re HO_6 (Kd.R_base ho14) hb; have n1_ := Rl (Kd.R_new' ho14 (Kd.R_lt (Rz HO_6.out))) HB; have n2_ := Bb HB hb; clear HO_6 HB; revert n0_ n1_ n2_; intro HO_6 HO187 HB; clear hb ho14; obtain ⟨Ao15, co15, eo15⟩ := Kd.R_slice HO_6.out; subst eo15))
       (try simp only [aP])
       go_loopg [7, 26] k2 (fun kq v7 v26 w' => ∃ (x7_3 : List ByteArray) (x26_3 : Int), v26 = .int .i64 x26_3 ∧ Aside0 (impl_TextsOver.l1 kq a0 x7_3 a1 x21_2 x6_2 (x6_2.length : Int) x26_3 = some (r1, r2)) ∧ Aside0 (kq ≤ k2) ∧ Aside0 (Kd.R Kd.string 9 w' w.heap.size (fun k_ => some k_ ≠ ((.slice Ao15 x6_2.length co15) : Value).ownBlock) v7 x7_3) ∧ Aside0 (Kd.R Kd.string 9 w' w.heap.size (fun k_ => some k_ ≠ (v7 : Value).ownBlock) (.slice Ao15 x6_2.length co15) x6_2) ∧ Aside0 (Below w.heap.size w w'))
       case atStart => exact ⟨(y185), (0), wZ, H', ⟨Nat.le_refl _⟩, ⟨Rz (Kd.R_mono HO187.out (fun _ hk => hk.2))⟩, ⟨Rz (Kd.R_mono HO_6.out (fun _ hk => hk.2))⟩, ⟨Bz HB.out⟩⟩
       case round =>
        clear H'
        try clear c1
        try clear p2
        try clear c5
        try clear c8
        try clear c9
        try clear c12
        try clear c12b0
        try clear c15
        try clear p2
        obtain ⟨x7_3, x26_3, rfl, HA, HK3, HO_7, HO_24, HB⟩ := hrel; cases gk with
        | zero => exact absurd HA.out (by simp [impl_TextsOver.l1])
        | succ k3 =>
         have H := HA.out; clear HA
         simp only [impl_TextsOver.l1] at H
         by_cases c16 : x26_3 < (x6_2.length : Int)
         ·rw [if_pos c16] at H
          have c16b0 : decide (x26_3 < (x6_2.length : Int)) = true := decide_eq_true c16; clear c16
          by_cases c17 : 0 ≤ x26_3
          ·rw [if_pos c17] at H
           have c17b0 : decide (0 ≤ x26_3) = true := decide_eq_true c17; clear c17
           by_cases c18 : x26_3 < (x6_2.length : Int)
           ·rw [if_pos c18] at H
            have c18b0 : decide (x26_3 < (x6_2.length : Int)) = true := decide_eq_true c18; clear c18; have H' := am H; clear H; obtain ⟨ad188, e188, hx188_0⟩ := Kd.at_string (Kd.R_reads' HO_24.out).2.2 x26_3 dT dT; cases e188; have p188 := eT (0 ≤ (x26_3 : Int)); have q188 := eT (x26_3 < (x6_2.length : Int))
            go_wp2
            go_loopg [7, 32] k3 (fun kq v7 v32 w' => ∃ (x7_4 : List ByteArray) (x32_4 : Int), v32 = .int .i64 x32_4 ∧ Aside0 (impl_TextsOver.l2 kq a0 x7_4 (rdOf ByteArray.empty x6_2 x26_3) a1 x21_2 x6_2 (x6_2.length : Int) x26_3 (a0.size : Int) x32_4 = some (r1, r2)) ∧ Aside0 (kq ≤ k3) ∧ Aside0 (Kd.R Kd.string 9 w' w.heap.size (fun k_ => some k_ ≠ ((.slice (some ad188) x6_2.length co15) : Value).ownBlock) v7 x7_4) ∧ Aside0 (Kd.R Kd.string 9 w' w.heap.size (fun k_ => some k_ ≠ (v7 : Value).ownBlock) (.slice (some ad188) x6_2.length co15) x6_2) ∧ Aside0 (Below w.heap.size w w'))
            case atStart => exact ⟨(x7_3), (0), wZ, H', ⟨Nat.le_refl _⟩, ⟨Rz HO_7.out⟩, ⟨Rz HO_24.out⟩, ⟨Bz HB.out⟩⟩
            case round =>
             clear H'
             try clear c1
             try clear p1
             try clear q1
             try clear hx1
             try clear p2
             try clear c5
             try clear c8
             try clear c9
             try clear c12
             try clear c12b0
             try clear c15
             try clear c16
             try clear c16b0
             try clear c17
             try clear c17b0
             try clear c18
             try clear c18b0
             try clear p18
             try clear q18
             try clear hx18
             try clear hx188_0
             try clear p188
             try clear p2
             try clear q188
             obtain ⟨x7_4, x32_4, rfl, HA, HK4, HO_7, HO_24, HB⟩ := hrel; cases gk with
             | zero => exact absurd HA.out (by simp [impl_TextsOver.l2])
             | succ k4 =>
              have H := HA.out; clear HA
              simp only [impl_TextsOver.l2] at H
              by_cases c19 : x32_4 < (a0.size : Int)
              ·rw [if_pos c19] at H
               have c19b0 : decide (x32_4 < (a0.size : Int)) = true := decide_eq_true c19; clear c19
               by_cases c20 : 0 ≤ x32_4
               ·rw [if_pos c20] at H
                have c20b0 := eq_true c20; have c20b1 : decide (0 ≤ x32_4) = true := decide_eq_true c20; clear c20
                by_cases c21 : x32_4 ≤ (wrap64 (x32_4 + 1))
                ·rw [if_pos c21] at H
                 have c21b0 := eq_true c21; have c21b1 : decide (x32_4 ≤ (wrap64 (x32_4 + 1))) = true := decide_eq_true c21
                 by_cases c22 : (wrap64 (x32_4 + 1)) ≤ (a0.size : Int)
                 ·rw [if_pos c22] at H
                  have c22b0 := eq_true c22; have c22b1 : decide ((wrap64 (x32_4 + 1)) ≤ (a0.size : Int)) = true := decide_eq_true c22
                  by_cases c23 : (rdOf ByteArray.empty x6_2 x26_3).size + (a0.extract (x32_4 : Int).toNat ((wrap64 (x32_4 + 1)) : Int).toNat).size ≤ 9223372036854775807
                  ·rw [if_pos c23] at H
                   have c23b0 := eq_true c23; have c23b1 : decide ((rdOf ByteArray.empty x6_2 x26_3).size + (a0.extract (x32_4 : Int).toNat ((wrap64 (x32_4 + 1)) : Int).toNat).size ≤ 9223372036854775807) = true := decide_eq_true c23
                   try have c23b2 : (9223372036854775807 < (rdOf ByteArray.empty x6_2 x26_3).size + (a0.extract (x32_4 : Int).toNat ((wrap64 (x32_4 + 1)) : Int).toNat).size) = False := eq_false (Nat.not_lt.2 c23)
                   (try (have c23b3 := c23b2; simp only [ByteArray.size_extract, Int.toNat_natCast] at c23b3))
                   by_cases c24 : x7_4.length < 8796093022208
                   ·rw [if_pos c24] at H
                    have LMc24 := am c24; clear c24; obtain ⟨y189, hy189⟩ : ∃ y_ : List ByteArray, y_ = (x7_4 ++ [(rdOf ByteArray.empty x6_2 x26_3) ++ (a0.extract (x32_4 : Int).toNat ((wrap64 (x32_4 + 1)) : Int).toNat)]) := ⟨_, rfl⟩
                    replace H : (impl_TextsOver.l2 k4 a0 y189 (rdOf ByteArray.empty x6_2 x26_3) a1 x21_2 x6_2 (x6_2.length : Int) x26_3 (a0.size : Int) (wrap64 (x32_4 + 1))) = some (r1, r2) := by first | (rw [hy189]; with_reducible exact H) | (have H2_ := (Option.bind_some _ _).symm.trans H; rw [hy189]; with_reducible exact H2_) | (have H2_ := (Option.bind_some _ _).symm.trans H; with_reducible exact H2_) | with_reducible exact H | (rw [hy189]; exact H) | exact H
                    have Ny189 := am hy189; clear hy189; have H' := am H; clear H
                    go_wp2_with (first | ((with_reducible refine gate_builtin (b := .append) (xs := #[.tmp 35, .tmp 43]) rfl ?_); at_builtin; refine Kd.R_append Kd.string (w0 := w) w.heap.size rfl (.tmp 35) (.tmp 43) 22 9 (.string ⟨#[]⟩) 16 rfl Try.underlying22 info9 rfl (by decide) (by omega) u7 x7_4 ((rdOf ByteArray.empty x6_2 x26_3) ++ (a0.extract (x32_4 : Int).toNat ((wrap64 (x32_4 + 1)) : Int).toNat)) [.string ((rdOf ByteArray.empty x6_2 x26_3) ++ (a0.extract (x32_4 : Int).toNat ((wrap64 (x32_4 + 1)) : Int).toNat))] (fun k_ => some k_ ≠ (.slice (some ad188) x6_2.length co15 : Value).ownBlock) (fun _ => False) rfl rfl ?aP (fun _ hk => hk.elim) ?aF ?aO ?aB ?aS ?aL ?_; (case aP => exact rfl); (case aB => exact (Bz HB.out)); (case aF => exact (fun k_ hk => Kd.fresh' (Kd.R_lt (Rz HO_24.out)) k_ hk)); (case aO => exact (Rz HO_7.out)); (case aS => exact (below_size (Bz HB.out))); (case aL => have := LMc24.out; omega); intro v190 w25 ho hb hg hat; rw [← Ny189.out] at ho; have n0_ := am (Kd.R_after (ok := (fun _ => True)) (Rz (Kd.R_mono HO_24.out (fun _ hk => ⟨trivial, hk⟩))) hg hat); have n1_ := am (hb); have n2_ := am (ho); clear HO_24 HB HO_7; revert n0_ n1_ n2_; intro HO_24 HB HO191; clear ho hb hg hat))
                    go_roundg k4
                    case measure => have := HJ2.out; have := HK2.out; have := HK3.out; have := HK4.out; omega
                    case rel => exact ⟨(y189), (wrap64 (x32_4 + 1)), wZ, H', ⟨by have := HJ2.out; have := HK2.out; have := HK3.out; have := HK4.out; omega⟩, ⟨Rz HO191.out⟩, ⟨Rz (Kd.R_mono HO_24.out (fun _ hk => hk.2))⟩, ⟨Bz HB.out⟩⟩
                   ·rw [if_neg c24] at H
                    exact absurd H (by simp)
                  ·rw [if_neg c23] at H
                   exact absurd H (by simp)
                 ·rw [if_neg c22] at H
                  exact absurd H (by simp)
                ·rw [if_neg c21] at H
                 exact absurd H (by simp)
               ·rw [if_neg c20] at H
                exact absurd H (by simp)
              ·rw [if_neg c19] at H
               have c19b0 : decide (x32_4 < (a0.size : Int)) = false := decide_eq_false c19; clear c19; have H' := am H; clear H
               go_wp2
               go_roundg k4
               case measure => have := HJ2.out; have := HK2.out; have := HK3.out; have := HK4.out; omega
               case rel => exact ⟨(x7_4), (wrap64 (x26_3 + 1)), wZ, H', ⟨by have := HJ2.out; have := HK2.out; have := HK3.out; have := HK4.out; omega⟩, ⟨Rz HO_7.out⟩, ⟨Rz HO_24.out⟩, ⟨Bz HB.out⟩⟩
           ·rw [if_neg c18] at H
            exact absurd H (by simp)
          ·rw [if_neg c17] at H
           exact absurd H (by simp)
         ·rw [if_neg c16] at H
          have c16b0 : decide (x26_3 < (x6_2.length : Int)) = false := decide_eq_false c16; clear c16
          by_cases c26 : (x7_3.length : Int) > 300
          ·rw [if_pos c26] at H
           have c26b0 : decide (300 < (x7_3.length : Int)) = true := decide_eq_true c26; have c26b1 : decide (300 < x7_3.length) = true := decide_eq_true (by omega); clear c26
           simp only [Option.some.injEq, Prod.mk.injEq] at H
           obtain ⟨rfl, rfl⟩ := H; obtain ⟨Ao27, co27, eo27⟩ := Kd.R_slice HO_7.out; subst eo27
           go_wp2
           go_ret2
           exact ⟨_, eZ, nZ, Bz HB.out⟩
          ·rw [if_neg c26] at H
           have c26b0 : decide (300 < (x7_3.length : Int)) = false := decide_eq_false c26; have c26b1 : decide (300 < x7_3.length) = false := decide_eq_false (by omega); clear c26; have H' := am H; clear H; obtain ⟨Ao28, co28, eo28⟩ := Kd.R_slice HO_7.out; subst eo28
           go_wp2
           go_roundg k3
           case measure => have := HJ2.out; have := HK2.out; have := HK3.out; omega
           case rel => exact ⟨(x7_3), (wrap64 (x21_2 + 1)), wZ, H', ⟨by have := HJ2.out; have := HK2.out; have := HK3.out; omega⟩, ⟨Rz (Kd.R_mono HO_7.out (fun _ hk => trivial))⟩, ⟨Bz HB.out⟩⟩
      ·rw [if_neg c12] at H
       have c12b0 : decide (x21_2 < a1) = false := decide_eq_false c12; clear c12
       simp only [Option.some.injEq, Prod.mk.injEq] at H
       obtain ⟨rfl, rfl⟩ := H
       go_wp2
       go_ret2
       exact ⟨_, eZ, Rz HO_6.out, Bz HB.out⟩

end Go.Proofs.Ytpkpjikkfikejaa.PB
-- printed by a program of this session (wip/gp) out of the translation; Lean checks it
namespace Go.Proofs.Ytpkpjikkfikejaa.PB
open Go.RowKit Go.Proofs.YtpkpjikkfikejaaW.PrintWords Go.Proofs.YtpkpjikkfikejaaW.PrintLast Go.Proofs.YtpkpjikkfikejaaW.PrintMore Go.Proofs.YtpkpjikkfikejaaSq
attribute [local go_sem] max2_int min2_int max_two min_two max_three min_three max_four min_four   -- for this text's walks alone
attribute [local go_sem] Go.Proofs.YtpkpjikkfikejaaGp.str_geq Go.Proofs.YtpkpjikkfikejaaGp.str_gtr Go.Proofs.YtpkpjikkfikejaaGp.str_leq
set_option linter.unusedVariables false
set_option linter.unusedSimpArgs false

set_option maxHeartbeats 8000000
set_option maxRecDepth 100000
def impl_isSeed.f (a0 : Int) : Option (Bool) := (impl_in.f a0 0 9999).bind fun t192 => (some t192)
theorem impl_isSeed.calls (a0 : Int) (r : Bool) (w : World) (h : impl_isSeed.f a0 = some r) :
  Calls Try.prog 128 #[.int .i64 a0] w fun e w' => e = .returned (.bool r) ∧ Drawn0 w w' := by
 have H : ((impl_in.f a0 0 9999).bind fun t192 => (some t192)) = some r := h; clear h; replace H := Option.bind_eq_some_iff.mp H; obtain ⟨t192, A20, H⟩ := H; (try dsimp -simprocs only at H); have A2 := am A20; clear A20; obtain rfl := Option.some.inj H
 go_enter Try.func128, Try.ntmps128
 go_wp2_with (first | ((with_reducible refine gate_callee (f := 126) rfl ?_); refine gL (some 4) Try.func126 #[.int .i64 a0, .int .i64 0, .int .i64 9999] ?_; (with_reducible refine (impl_in.calls a0 0 9999 t192 _ A2.out).mono ?_); rintro e w' ⟨rfl, ⟨nd, rfl⟩⟩; refine ⟨_, rfl, ?_⟩))
 go_ret
 exact ⟨by first | rfl | (simp; done) | (simp [*]; done), by repeat (first | exact Drawn0.refl _ | apply Drawn0.step)⟩

def impl_sizesOk.f (a0 : Int) (a1 : Int) (a2 : Int) : Option (Bool) := (impl_isSeed.f a0).bind fun t193 => (if t193 = true then ((impl_in.f a1 1 8).bind fun t194 => (if t194 = true then ((impl_in.f a2 1 512).bind fun t195 => (some t195)) else (some false))) else (some false))
theorem impl_sizesOk.calls (a0 : Int) (a1 : Int) (a2 : Int) (r : Bool) (w : World) (h : impl_sizesOk.f a0 a1 a2 = some r) :
  Calls Try.prog 102 #[.int .i64 a0, .int .i64 a1, .int .i64 a2] w fun e w' => e = .returned (.bool r) ∧ Drawn0 w w' := by
 have H : ((impl_isSeed.f a0).bind fun t193 => (if t193 = true then ((impl_in.f a1 1 8).bind fun t194 => (if t194 = true then ((impl_in.f a2 1 512).bind fun t195 => (some t195)) else (some false))) else (some false))) = some r := h; clear h; replace H := Option.bind_eq_some_iff.mp H; obtain ⟨t193, A40, H⟩ := H; (try dsimp -simprocs only at H); have A4 := am A40; clear A40
 by_cases c5 : t193 = true
 ·subst c5
  rw [if_pos rfl] at H; replace H := Option.bind_eq_some_iff.mp H; obtain ⟨t194, A60, H⟩ := H; (try dsimp -simprocs only at H); have A6 := am A60; clear A60
  by_cases c7 : t194 = true
  ·subst c7
   rw [if_pos rfl] at H; replace H := Option.bind_eq_some_iff.mp H; obtain ⟨t195, A80, H⟩ := H; (try dsimp -simprocs only at H); have A8 := am A80; clear A80; obtain rfl := Option.some.inj H
   go_enter Try.func102, Try.ntmps102
   go_wp2_with (first | ((with_reducible refine gate_callee (f := 128) rfl ?_); refine gL (some 8) Try.func128 #[.int .i64 a0] ?_; (with_reducible refine (impl_isSeed.calls a0 true _ A4.out).mono ?_); rintro e w' ⟨rfl, ⟨nd, rfl⟩⟩; refine ⟨_, rfl, ?_⟩) | (go_at_call 126; (with_reducible refine (impl_in.calls a1 1 8 true _ A6.out).mono ?_); rintro e w' ⟨rfl, ⟨nd, rfl⟩⟩) | (go_at_call 126; (with_reducible refine (impl_in.calls a2 1 512 t195 _ A8.out).mono ?_); rintro e w' ⟨rfl, ⟨nd, rfl⟩⟩))
   go_ret
   exact ⟨by first | rfl | (simp; done) | (simp [*]; done), by repeat (first | exact Drawn0.refl _ | apply Drawn0.step)⟩
  ·replace c7 := Bool.eq_false_iff.mpr c7
   subst c7
   rw [if_neg (show ¬ (false = true) by decide)] at H; obtain rfl := Option.some.inj H
   go_enter Try.func102, Try.ntmps102
   go_wp2_with (first | ((with_reducible refine gate_callee (f := 128) rfl ?_); refine gL (some 8) Try.func128 #[.int .i64 a0] ?_; (with_reducible refine (impl_isSeed.calls a0 true _ A4.out).mono ?_); rintro e w' ⟨rfl, ⟨nd, rfl⟩⟩; refine ⟨_, rfl, ?_⟩) | (go_at_call 126; (with_reducible refine (impl_in.calls a1 1 8 false _ A6.out).mono ?_); rintro e w' ⟨rfl, ⟨nd, rfl⟩⟩))
   go_ret
   exact ⟨by first | rfl | (simp; done) | (simp [*]; done), by repeat (first | exact Drawn0.refl _ | apply Drawn0.step)⟩
 ·replace c5 := Bool.eq_false_iff.mpr c5
  subst c5
  rw [if_neg (show ¬ (false = true) by decide)] at H; obtain rfl := Option.some.inj H
  go_enter Try.func102, Try.ntmps102
  go_wp2_with (first | ((with_reducible refine gate_callee (f := 128) rfl ?_); refine gL (some 8) Try.func128 #[.int .i64 a0] ?_; (with_reducible refine (impl_isSeed.calls a0 false _ A4.out).mono ?_); rintro e w' ⟨rfl, ⟨nd, rfl⟩⟩; refine ⟨_, rfl, ?_⟩))
  go_ret
  exact ⟨by first | rfl | (simp; done) | (simp [*]; done), by repeat (first | exact Drawn0.refl _ | apply Drawn0.step)⟩

def impl_words.f (a0 : Int) : Option (Int) := some (wrap64 (Int.tdiv (wrap64 ((wrap64 (a0 + 16)) - 1)) 16))
theorem impl_words.calls (a0 : Int) (r : Int) (w : World) (h : impl_words.f a0 = some r) :
  Calls Try.prog 178 #[.int .i64 a0] w fun e w' => e = .returned (.int .i64 r) ∧ Drawn0 w w' := by
 have H : (some (wrap64 (Int.tdiv (wrap64 ((wrap64 (a0 + 16)) - 1)) 16))) = some r := h; clear h; obtain rfl := Option.some.inj H
 go_enter Try.func178, Try.ntmps178
 go_wp2
 go_ret
 exact ⟨by first | rfl | (simp; done) | (simp [*]; done), by repeat (first | exact Drawn0.refl _ | apply Drawn0.step)⟩

mutual
def impl_IsBits.j0 : Nat → Bool → Int → List Int → Option (Bool)
 | 0, _, _, _ => none
 | k + 1, x18, x197000, x197001 => if x18 = true then (some false) else (impl_IsBits.l0 k x197001 (x197001.length : Int) 0 x197000 x197001)
def impl_IsBits.l0 : Nat → List Int → Int → Int → Int → List Int → Option (Bool)
 | 0, _, _, _, _, _ => none
 | k + 1, x20, x21, x22, x197000, x197001 => if x22 < x21 then (if 0 ≤ x22 then (if x22 < (x20.length : Int) then ((impl_in.f (rd x20 x22) 0 65535).bind fun t200 => (if t200 = true then (impl_IsBits.l0 k x20 x21 (wrap64 (x22 + 1)) x197000 x197001) else (some false))) else (none)) else (none)) else (if (Int.tmod x197000 16) = 0 then (some true) else (if 0 ≤ (wrap64 ((x197001.length : Int) - 1)) then (if (wrap64 ((x197001.length : Int) - 1)) < (x197001.length : Int) then (if 0 ≤ (Int.tmod x197000 16) then (some ((shr .i64 (rd x197001 (wrap64 ((x197001.length : Int) - 1))) (Int.tmod x197000 16)) == 0)) else (none)) else (none)) else (none)))
end
def impl_IsBits.f (k : Nat) (a0_0 : Int) (l0_1 : List Int) : Option (Bool) := (impl_in.f a0_0 0 4096).bind fun t197 => (if t197 = true then ((impl_words.f a0_0).bind fun t198 => (impl_IsBits.j0 k ((l0_1.length : Int) != t198) a0_0 l0_1)) else (impl_IsBits.j0 k true a0_0 l0_1))
theorem impl_IsBits.calls (k : Nat) (a0_0 : Int) (A0_1 : Option Addr) (c0_1 : Nat) (l0_1 : List Int) (r : Bool) (w : World) (hr0_1 : Kd.C (Kd.int .i64) w A0_1 l0_1.length l0_1) (hc0_1 : l0_1.length ≤ c0_1) (h : impl_IsBits.f k a0_0 l0_1 = some r) :
  Calls Try.prog 125 #[.agg #[.int .i64 a0_0, .slice A0_1 l0_1.length c0_1]] w fun e w' => e = .returned (.bool r) ∧ Below w.heap.size w w' := by
 have hu26 := Try.underlying26; have HR0_1 := am hr0_1; have HC0_1 := am hc0_1; clear hr0_1 hc0_1; have HB := am (Below.refl w.heap.size w); have H : ((impl_in.f a0_0 0 4096).bind fun t197 => (if t197 = true then ((impl_words.f a0_0).bind fun t198 => (impl_IsBits.j0 k ((l0_1.length : Int) != t198) a0_0 l0_1)) else (impl_IsBits.j0 k true a0_0 l0_1))) = some r := h; clear h; have HC2 := am H; clear H
 go_enter Try.func125, Try.ntmps125
 go_upto_region 1 with (first | ((with_reducible refine gate_dst (N := 1) rfl ?_); (try (refine gate_guard (by rfl) ?_; dsimp only)); refine bE 1 #[.int .i64 a0_0, .slice A0_1 l0_1.length c0_1] 26 ?_; intro gb196 hg w3 hbox hb; have n0_ := Bb HB hb; have n1_ := am (hbox); have n2_ := Gl HB hg; have n3_ := Gl HB hg; clear HB; revert n0_ n1_ n2_ n3_; intro HB BK196 GW196 GE196; clear hb hbox hg))
 repeat (go_quiet (first | ((with_reducible refine gate_dst (N := 1) rfl ?_); (try (refine gate_guard (by rfl) ?_; dsimp only)); refine bE 1 #[.int .i64 a0_0, .slice A0_1 l0_1.length c0_1] 26 ?_; intro gb196 hg w3 hbox hb; have n0_ := Bb HB hb; have n1_ := am (hbox); have n2_ := Gl HB hg; have n3_ := Gl HB hg; clear HB; revert n0_ n1_ n2_ n3_; intro HB BK196 GW196 GE196; clear hb hbox hg)); go_upto_region 1 with (first | ((with_reducible refine gate_dst (N := 1) rfl ?_); (try (refine gate_guard (by rfl) ?_; dsimp only)); refine bE 1 #[.int .i64 a0_0, .slice A0_1 l0_1.length c0_1] 26 ?_; intro gb196 hg w3 hbox hb; have n0_ := Bb HB hb; have n1_ := am (hbox); have n2_ := Gl HB hg; have n3_ := Gl HB hg; clear HB; revert n0_ n1_ n2_ n3_; intro HB BK196 GW196 GE196; clear hb hbox hg)))
 (try simp only [aP])
 go_cut [18] (fun v18 wc => ∃ (kq : Nat) (x18_1 : Bool), v18 = .bool x18_1 ∧ Aside0 (impl_IsBits.j0 kq x18_1 a0_0 l0_1 = some r) ∧ Aside0 (kq ≤ k) ∧ Aside0 (wc.heap[gb196]? = some (.cells #[.int .i64 a0_0, (.slice A0_1 l0_1.length c0_1)] 26 (0, 0))) ∧ Aside0 (Below w.heap.size w wc))
 case first =>
  have H := HC2.out; clear HC2; replace H := Option.bind_eq_some_iff.mp H; obtain ⟨t197, A40, H⟩ := H; (try dsimp -simprocs only at H); have A4 := am A40; clear A40
  by_cases c5 : t197 = true
  ·subst c5
   rw [if_pos rfl] at H; replace H := Option.bind_eq_some_iff.mp H; obtain ⟨t198, A60, H⟩ := H; (try dsimp -simprocs only at H); have A6 := am A60; clear A60; have H' := am H; clear H; obtain ⟨hcz7_0, hcz7_1, hfz7_0, hfz7_1⟩ := cf2 (w := w3) BK196
   go_wp2_with (first | (go_at_call 126; (with_reducible refine (impl_in.calls a0_0 0 4096 true _ A4.out).mono ?_); rintro e w' ⟨rfl, ⟨nd, rfl⟩⟩; (try exact yZ)) | (go_at_call 178; (with_reducible refine (impl_words.calls a0_0 t198 _ A6.out).mono ?_); rintro e w' ⟨rfl, ⟨nd, rfl⟩⟩; (try exact yZ)))
   repeat (go_quiet (first | (go_at_call 126; (with_reducible refine (impl_in.calls a0_0 0 4096 true _ A4.out).mono ?_); rintro e w' ⟨rfl, ⟨nd, rfl⟩⟩; (try exact yZ)) | (go_at_call 178; (with_reducible refine (impl_words.calls a0_0 t198 _ A6.out).mono ?_); rintro e w' ⟨rfl, ⟨nd, rfl⟩⟩; (try exact yZ))); try go_wp2_with (first | (go_at_call 126; (with_reducible refine (impl_in.calls a0_0 0 4096 true _ A4.out).mono ?_); rintro e w' ⟨rfl, ⟨nd, rfl⟩⟩; (try exact yZ)) | (go_at_call 178; (with_reducible refine (impl_words.calls a0_0 t198 _ A6.out).mono ?_); rintro e w' ⟨rfl, ⟨nd, rfl⟩⟩; (try exact yZ))))
   go_meet
   case rel => exact ⟨_, (((l0_1.length : Int) != t198)), wZ, H', ⟨by first | omega | exact Nat.le_refl _⟩, ⟨Kz BK196.out⟩, ⟨Bq⟩⟩
  ·replace c5 := Bool.eq_false_iff.mpr c5
   subst c5
   rw [if_neg (show ¬ (false = true) by decide)] at H; have H' := am H; clear H; obtain ⟨hcz8_0, hcz8_1, hfz8_0, hfz8_1⟩ := cf2 (w := w3) BK196
   go_wp2_with (first | (go_at_call 126; (with_reducible refine (impl_in.calls a0_0 0 4096 false _ A4.out).mono ?_); rintro e w' ⟨rfl, ⟨nd, rfl⟩⟩; (try exact yZ)))
   repeat (go_quiet (first | (go_at_call 126; (with_reducible refine (impl_in.calls a0_0 0 4096 false _ A4.out).mono ?_); rintro e w' ⟨rfl, ⟨nd, rfl⟩⟩; (try exact yZ))); try go_wp2_with (first | (go_at_call 126; (with_reducible refine (impl_in.calls a0_0 0 4096 false _ A4.out).mono ?_); rintro e w' ⟨rfl, ⟨nd, rfl⟩⟩; (try exact yZ))))
   go_meet
   case rel => exact ⟨_, (true), wZ, H', ⟨by first | omega | exact Nat.le_refl _⟩, ⟨Kz BK196.out⟩, ⟨Bq⟩⟩
 case rest =>
  clear HC2
  try clear c1
  try clear p2
  try clear c5
  try clear hcz7_0
  try clear hcz7_1
  try clear hcz8_0
  try clear hcz8_1
  try clear hfz7_0
  try clear hfz7_1
  try clear hfz8_0
  try clear hfz8_1
  obtain ⟨kq, x18_1, rfl, HA, HJ1, BK196, HB⟩ := hcut; cases kq with
  | zero => exact absurd HA.out (by simp [impl_IsBits.j0])
  | succ kj1 =>
   have H := HA.out; clear HA
   simp only [impl_IsBits.j0] at H
   by_cases c9 : x18_1 = true
   ·subst c9
    rw [if_pos rfl] at H; obtain rfl := Option.some.inj H
    go_wp2
    repeat (go_quiet (fail); try go_wp2)
    go_ret
    exact ⟨eZ, Bq⟩
   ·replace c9 := Bool.eq_false_iff.mpr c9
    subst c9
    rw [if_neg (show ¬ (false = true) by decide)] at H; have H' := am H; clear H; obtain ⟨hcz10_0, hcz10_1, hfz10_0, hfz10_1⟩ := cf2 (w := wc) BK196
    go_wp2
    repeat (go_quiet (fail); try go_wp2)
    go_loopg [22] kj1 (fun kq v22 w' => ∃ (x22_2 : Int), v22 = .int .i64 x22_2 ∧ Aside0 (impl_IsBits.l0 kq l0_1 (l0_1.length : Int) x22_2 a0_0 l0_1 = some r) ∧ Aside0 (kq ≤ kj1) ∧ Aside0 (w'.heap[gb196]? = some (.cells #[.int .i64 a0_0, (.slice A0_1 l0_1.length c0_1)] 26 (0, 0))) ∧ Aside0 (Below w.heap.size w w'))
    case atStart => exact ⟨(0), wZ, H', ⟨Nat.le_refl _⟩, ⟨Kz BK196.out⟩, ⟨Bq⟩⟩
    case round =>
     clear H'
     try clear c1
     try clear p2
     try clear c5
     try clear c9
     try clear hcz10_0
     try clear hcz10_1
     try clear hcz7_0
     try clear hcz7_1
     try clear hcz8_0
     try clear hcz8_1
     try clear hfz10_0
     try clear hfz10_1
     try clear hfz7_0
     try clear hfz7_1
     try clear hfz8_0
     try clear hfz8_1
     try clear p2
     obtain ⟨x22_2, rfl, HA, HK2, BK196, HB⟩ := hrel; cases gk with
     | zero => exact absurd HA.out (by simp [impl_IsBits.l0])
     | succ k2 =>
      have H := HA.out; clear HA
      simp only [impl_IsBits.l0] at H
      by_cases c11 : x22_2 < (l0_1.length : Int)
      ·rw [if_pos c11] at H
       have c11b0 : decide (x22_2 < (l0_1.length : Int)) = true := decide_eq_true c11; clear c11
       by_cases c12 : 0 ≤ x22_2
       ·rw [if_pos c12] at H
        have c12b0 : decide (0 ≤ x22_2) = true := decide_eq_true c12; clear c12
        by_cases c13 : x22_2 < (l0_1.length : Int)
        ·rw [if_pos c13] at H
         have c13b0 : decide (x22_2 < (l0_1.length : Int)) = true := decide_eq_true c13; clear c13; replace H := Option.bind_eq_some_iff.mp H; obtain ⟨t200, A140, H⟩ := H; (try dsimp -simprocs only at H); have A14 := am A140; clear A140
         by_cases c15 : t200 = true
         ·subst c15
          rw [if_pos rfl] at H; have H' := am H; clear H; have p199 : 0 ≤ (x22_2 : Int) := dT; have q199 : x22_2 < (l0_1.length : Int) := dT; obtain ⟨ad199, e199, hx199_0⟩ := Kd.at_int HR0_1.out x22_2 p199 q199; cases e199; replace hx199_0 := (HB.out.cell (World.block_lt_of_cell? w _ hx199_0)).trans hx199_0; replace p199 := eq_true p199; replace q199 := eq_true q199
          go_wp2_with (first | (go_at_call 126; (with_reducible refine (impl_in.calls (rd l0_1 x22_2) 0 65535 true _ A14.out).mono ?_); rintro e w' ⟨rfl, ⟨nd, rfl⟩⟩; (try exact yZ)))
          repeat (go_quiet (first | (go_at_call 126; (with_reducible refine (impl_in.calls (rd l0_1 x22_2) 0 65535 true _ A14.out).mono ?_); rintro e w' ⟨rfl, ⟨nd, rfl⟩⟩; (try exact yZ))); try go_wp2_with (first | (go_at_call 126; (with_reducible refine (impl_in.calls (rd l0_1 x22_2) 0 65535 true _ A14.out).mono ?_); rintro e w' ⟨rfl, ⟨nd, rfl⟩⟩; (try exact yZ))))
          go_roundg k2
          case measure => have := HJ1.out; have := HK2.out; omega
          case rel => exact ⟨(wrap64 (x22_2 + 1)), wZ, H', ⟨by have := HJ1.out; have := HK2.out; omega⟩, ⟨Kz BK196.out⟩, ⟨Bq⟩⟩
         ·replace c15 := Bool.eq_false_iff.mpr c15
          subst c15
          rw [if_neg (show ¬ (false = true) by decide)] at H; obtain rfl := Option.some.inj H; have p199 : 0 ≤ (x22_2 : Int) := dT; have q199 : x22_2 < (l0_1.length : Int) := dT; obtain ⟨ad199, e199, hx199_0⟩ := Kd.at_int HR0_1.out x22_2 p199 q199; cases e199; replace hx199_0 := (HB.out.cell (World.block_lt_of_cell? w _ hx199_0)).trans hx199_0; replace p199 := eq_true p199; replace q199 := eq_true q199
          go_wp2_with (first | (go_at_call 126; (with_reducible refine (impl_in.calls (rd l0_1 x22_2) 0 65535 false _ A14.out).mono ?_); rintro e w' ⟨rfl, ⟨nd, rfl⟩⟩; (try exact yZ)))
          repeat (go_quiet (first | (go_at_call 126; (with_reducible refine (impl_in.calls (rd l0_1 x22_2) 0 65535 false _ A14.out).mono ?_); rintro e w' ⟨rfl, ⟨nd, rfl⟩⟩; (try exact yZ))); try go_wp2_with (first | (go_at_call 126; (with_reducible refine (impl_in.calls (rd l0_1 x22_2) 0 65535 false _ A14.out).mono ?_); rintro e w' ⟨rfl, ⟨nd, rfl⟩⟩; (try exact yZ))))
          go_ret
          exact ⟨eZ, Bq⟩
        ·rw [if_neg c13] at H
         exact absurd H (by simp)
       ·rw [if_neg c12] at H
        exact absurd H (by simp)
      ·rw [if_neg c11] at H
       have c11b0 : decide (x22_2 < (l0_1.length : Int)) = false := decide_eq_false c11; clear c11
       by_cases c16 : (Int.tmod a0_0 16) = 0
       ·rw [if_pos c16] at H
        have c16b0 : ((Int.tmod a0_0 16) == 0) = true := beq_iff_eq.mpr c16; have c16b1 : ((Int.tmod a0_0 16) != 0) = false := bne_eq_false_iff_eq.mpr c16; clear c16; obtain rfl := Option.some.inj H; obtain ⟨hcz17_0, hcz17_1, hfz17_0, hfz17_1⟩ := cf2 (w := wr) BK196
        go_wp2
        repeat (go_quiet (fail); try go_wp2)
        go_ret
        exact ⟨eZ, Bq⟩
       ·rw [if_neg c16] at H
        have c16b0 : ((Int.tmod a0_0 16) == 0) = false := beq_eq_false_iff_ne.mpr c16; have c16b1 : ((Int.tmod a0_0 16) != 0) = true := bne_iff_ne.mpr c16; obtain ⟨ji18, hji18⟩ : ∃ j_ : Int, (wrap64 ((l0_1.length : Int) - 1)) = j_ := ⟨_, rfl⟩
        replace H : (if 0 ≤ (ji18) then (if (ji18) < (l0_1.length : Int) then (if 0 ≤ (Int.tmod a0_0 16) then (some ((shr .i64 (rd l0_1 (ji18)) (Int.tmod a0_0 16)) == 0)) else (none)) else (none)) else (none)) = some r := by first | (rw [hji18] at H; exact H) | (simp only [hji18] at H ⊢; exact H)
        have hji18w : (IntKind.i64.wrap ((l0_1.length : Int) - 1)) = ji18 := (i64_w _).trans hji18
        by_cases c19 : 0 ≤ (ji18)
        ·rw [if_pos c19] at H
         have c19b0 : decide (0 ≤ (ji18)) = true := decide_eq_true c19; clear c19
         by_cases c20 : (ji18) < (l0_1.length : Int)
         ·rw [if_pos c20] at H
          have c20b0 : decide ((ji18) < (l0_1.length : Int)) = true := decide_eq_true c20; clear c20; obtain ⟨ji21, hji21⟩ : ∃ j_ : Int, (Int.tmod a0_0 16) = j_ := ⟨_, rfl⟩
          replace H : (if 0 ≤ (ji21) then (some ((shr .i64 (rd l0_1 (ji18)) (ji21)) == 0)) else (none)) = some r := by first | (rw [hji21] at H; exact H) | (simp only [hji21] at H ⊢; exact H)
          (try rw [hji21] at c16b0)
          (try rw [hji21] at c16b1)
          by_cases c22 : 0 ≤ (ji21)
          ·rw [if_pos c22] at H
           have c22b0 := eq_true c22; have c22b1 : decide (0 ≤ (ji21)) = true := decide_eq_true c22; clear c22; obtain ⟨ji23, hji23⟩ : ∃ j_ : Int, (shr .i64 (rd l0_1 (ji18)) (ji21)) = j_ := ⟨_, rfl⟩
           replace H : (some ((ji23) == 0)) = some r := by first | (rw [hji23] at H; exact H) | (simp only [hji23] at H ⊢; exact H)
           have hji23_ : ((rd l0_1 (ji18)) / 2 ^ min (ji21).toNat 64) = ji23 := hji23; have hji23z : (ji21) ≤ 64 → ((rd l0_1 (ji18)) / 2 ^ (ji21).toNat) = ji23 := shr_small hji23; obtain rfl := Option.some.inj H; obtain ⟨hcz24_0, hcz24_1, hfz24_0, hfz24_1⟩ := cf2 (w := wr) BK196; have p201 : 0 ≤ ((ji18) : Int) := dT; have q201 : (ji18) < (l0_1.length : Int) := dT; obtain ⟨ad201, e201, hx201_0⟩ := Kd.at_int HR0_1.out (ji18) p201 q201; cases e201; replace hx201_0 := (HB.out.cell (World.block_lt_of_cell? w _ hx201_0)).trans hx201_0; replace p201 := eq_true p201; replace q201 := eq_true q201
           go_wp2
           repeat (go_quiet (fail); try go_wp2)
           go_ret
           exact ⟨by first | rfl | (simp [errW_none, errW_some] <;> rfl) | (simp only [← hji18, ← hji21, ← hji23]; first | rfl | (simp [errW_none, errW_some] <;> rfl)) | (simp [*, errW_none, errW_some] <;> rfl), Bq⟩
          ·rw [if_neg c22] at H
           exact absurd H (by simp)
         ·rw [if_neg c20] at H
          exact absurd H (by simp)
        ·rw [if_neg c19] at H
         exact absurd H (by simp)

def impl_IsBloom.f (k : Nat) (a0_0 : Int) (a0_1 : Int) (a0_2 : Int) (l0_3 : List Int) : Option (Bool) := (impl_sizesOk.f a0_0 a0_1 a0_2).bind fun t203 => (if t203 = true then ((impl_IsBits.f k a0_2 l0_3).bind fun t204 => (some t204)) else (some false))
theorem impl_IsBloom.calls (k : Nat) (a0_0 : Int) (a0_1 : Int) (a0_2 : Int) (A0_3 : Option Addr) (c0_3 : Nat) (l0_3 : List Int) (r : Bool) (w : World) (hr0_3 : Kd.C (Kd.int .i64) w A0_3 l0_3.length l0_3) (hc0_3 : l0_3.length ≤ c0_3) (h : impl_IsBloom.f k a0_0 a0_1 a0_2 l0_3 = some r) :
  Calls Try.prog 97 #[.agg #[.int .i64 a0_0, .int .i64 a0_1, .int .i64 a0_2, .slice A0_3 l0_3.length c0_3]] w fun e w' => e = .returned (.bool r) ∧ Below w.heap.size w w' := by
 have hu28 := Try.underlying28; have hu26 := Try.underlying26; have HR0_3 := am hr0_3; have HC0_3 := am hc0_3; clear hr0_3 hc0_3; have HB := am (Below.refl w.heap.size w); have H : ((impl_sizesOk.f a0_0 a0_1 a0_2).bind fun t203 => (if t203 = true then ((impl_IsBits.f k a0_2 l0_3).bind fun t204 => (some t204)) else (some false))) = some r := h; clear h; replace H := Option.bind_eq_some_iff.mp H; obtain ⟨t203, A20, H⟩ := H; (try dsimp -simprocs only at H); have A2 := am A20; clear A20
 by_cases c3 : t203 = true
 ·subst c3
  rw [if_pos rfl] at H; replace H := Option.bind_eq_some_iff.mp H; obtain ⟨t204, A40, H⟩ := H; (try dsimp -simprocs only at H); have A4 := am A40; clear A40; obtain rfl := Option.some.inj H
  go_enter Try.func97, Try.ntmps97
  go_wp2_with (first | ((with_reducible refine gate_dst (N := 1) rfl ?_); refine bE 1 #[.int .i64 a0_0, .int .i64 a0_1, .int .i64 a0_2, .slice A0_3 l0_3.length c0_3] 28 ?_; intro gb202 hg w5 hbox hb; have n0_ := Bb HB hb; have n1_ := am (hbox); have n2_ := Gl HB hg; have n3_ := Gl HB hg; clear HB; revert n0_ n1_ n2_ n3_; intro HB BK202 GW202 GE202; clear hb hbox hg; obtain ⟨hcz6_0, hcz6_1, hcz6_2, hcz6_3, hfz6_0, hfz6_1, hfz6_2, hfz6_3⟩ := cf4 (w := w5) BK202) | ((with_reducible refine gate_callee (f := 102) rfl ?_); refine gL (some 10) Try.func102 #[.int .i64 a0_0, .int .i64 a0_1, .int .i64 a0_2] ?_; (with_reducible refine (impl_sizesOk.calls a0_0 a0_1 a0_2 true _ A2.out).mono ?_); rintro e w' ⟨rfl, ⟨nd, rfl⟩⟩; refine ⟨_, rfl, ?_⟩) | (go_at_call 125; (with_reducible refine (impl_IsBits.calls k a0_2 _ _ l0_3 t204 _ ?side1 ?side2 A4.out).mono ?_); (case side1 => exact Cz (Kd.C_below HR0_3.out (Bq))); (case side2 => exact HC0_3.out); rintro e w7 ⟨rfl, hb⟩; have n0_ := Kb BK202 hb; have n1_ := Bc HB hb; clear BK202 HB; revert n0_ n1_; intro BK202 HB; (try clear hb); (try clear hb2); (try clear hk); (try clear hi)))
  go_ret
  exact ⟨eZ, Bq⟩
 ·replace c3 := Bool.eq_false_iff.mpr c3
  subst c3
  rw [if_neg (show ¬ (false = true) by decide)] at H; obtain rfl := Option.some.inj H
  go_enter Try.func97, Try.ntmps97
  go_wp2_with (first | ((with_reducible refine gate_dst (N := 1) rfl ?_); refine bE 1 #[.int .i64 a0_0, .int .i64 a0_1, .int .i64 a0_2, .slice A0_3 l0_3.length c0_3] 28 ?_; intro gb202 hg w8 hbox hb; have n0_ := Bb HB hb; have n1_ := am (hbox); have n2_ := Gl HB hg; have n3_ := Gl HB hg; clear HB; revert n0_ n1_ n2_ n3_; intro HB BK202 GW202 GE202; clear hb hbox hg; obtain ⟨hcz9_0, hcz9_1, hcz9_2, hcz9_3, hfz9_0, hfz9_1, hfz9_2, hfz9_3⟩ := cf4 (w := w8) BK202) | ((with_reducible refine gate_callee (f := 102) rfl ?_); refine gL (some 10) Try.func102 #[.int .i64 a0_0, .int .i64 a0_1, .int .i64 a0_2] ?_; (with_reducible refine (impl_sizesOk.calls a0_0 a0_1 a0_2 false _ A2.out).mono ?_); rintro e w' ⟨rfl, ⟨nd, rfl⟩⟩; refine ⟨_, rfl, ?_⟩))
  go_ret
  exact ⟨eZ, Bq⟩

def slices_Index_string_string.l0 : Nat → List ByteArray → ByteArray → Int → Int → Option (Int)
 | 0, _, _, _, _ => none
 | k + 1, x0, x1, x7, x8 => if x8 < x7 then (if 0 ≤ x8 then (if x8 < (x0.length : Int) then (if x1.toList = (rdOf ByteArray.empty x0 x8).toList then (some x8) else (slices_Index_string_string.l0 k x0 x1 x7 (wrap64 (x8 + 1)))) else (none)) else (none)) else (some (-1))
def slices_Index_string_string.f (k : Nat) (l0 : List ByteArray) (a1 : ByteArray) : Option (Int) := slices_Index_string_string.l0 k l0 a1 (l0.length : Int) 0
theorem slices_Index_string_string.calls (k : Nat) (A0 : Option Addr) (c0 : Nat) (l0 : List ByteArray) (a1 : ByteArray) (r : Int) (w : World) (hr0 : Kd.C Kd.string w A0 l0.length l0) (hc0 : l0.length ≤ c0) (h : slices_Index_string_string.f k l0 a1 = some r) :
  Calls Try.prog 185 #[.slice A0 l0.length c0, .string a1] w fun e w' => e = .returned (.int .i64 r) ∧ Drawn0 w w' := by
 have HR0 := am hr0; have HC0 := am hc0; clear hr0 hc0; have H : (slices_Index_string_string.l0 k l0 a1 (l0.length : Int) 0) = some r := h; clear h; have H' := am H; clear H
 go_enter Try.func185, Try.ntmps185
 go_wp2
 go_loopg [8] k (fun kq v8 w' => ∃ (x8_1 : Int), v8 = .int .i64 x8_1 ∧ Aside0 (slices_Index_string_string.l0 kq l0 a1 (l0.length : Int) x8_1 = some r) ∧ Aside0 (kq ≤ k) ∧ Drawn0 w w')
 case atStart => exact ⟨(0), wZ, H', ⟨Nat.le_refl _⟩, by repeat (first | exact Drawn0.refl _ | apply Drawn0.step)⟩
 case round =>
  clear H'
  try clear c1
  try clear p2
  obtain ⟨x8_1, rfl, HA, HK1, ⟨m1, rfl⟩⟩ := hrel; cases gk with
  | zero => exact absurd HA.out (by simp [slices_Index_string_string.l0])
  | succ k1 =>
   have H := HA.out; clear HA
   simp only [slices_Index_string_string.l0] at H
   by_cases c3 : x8_1 < (l0.length : Int)
   ·rw [if_pos c3] at H
    have c3b0 : decide (x8_1 < (l0.length : Int)) = true := decide_eq_true c3; clear c3
    by_cases c4 : 0 ≤ x8_1
    ·rw [if_pos c4] at H
     have c4b0 : decide (0 ≤ x8_1) = true := decide_eq_true c4; clear c4
     by_cases c5 : x8_1 < (l0.length : Int)
     ·rw [if_pos c5] at H
      have c5b0 : decide (x8_1 < (l0.length : Int)) = true := decide_eq_true c5; clear c5
      by_cases c6 : a1.toList = (rdOf ByteArray.empty l0 x8_1).toList
      ·rw [if_pos c6] at H
       have c6b0 : (a1.toList == (rdOf ByteArray.empty l0 x8_1).toList) = true := beq_iff_eq.mpr c6; have c6b1 : (a1.toList != (rdOf ByteArray.empty l0 x8_1).toList) = false := bne_eq_false_iff_eq.mpr c6; clear c6; obtain rfl := Option.some.inj H; obtain ⟨ad205, e205, hx205_0⟩ := Kd.at_string HR0.out x8_1 dT dT; cases e205; have p205 := eT (0 ≤ (x8_1 : Int)); have q205 := eT (x8_1 < (l0.length : Int))
       go_wp2
       go_ret
       exact ⟨by first | rfl | (simp; done) | (simp [*]; done), by repeat (first | exact Drawn0.refl _ | apply Drawn0.step)⟩
      ·rw [if_neg c6] at H
       have c6b0 : (a1.toList == (rdOf ByteArray.empty l0 x8_1).toList) = false := beq_eq_false_iff_ne.mpr c6; have c6b1 : (a1.toList != (rdOf ByteArray.empty l0 x8_1).toList) = true := bne_iff_ne.mpr c6; have H' := am H; clear H; obtain ⟨ad205, e205, hx205_0⟩ := Kd.at_string HR0.out x8_1 dT dT; cases e205; have p205 := eT (0 ≤ (x8_1 : Int)); have q205 := eT (x8_1 < (l0.length : Int))
       go_wp2
       go_roundg k1
       case measure => have := HK1.out; omega
       case rel => exact ⟨(wrap64 (x8_1 + 1)), wZ, H', ⟨by have := HK1.out; omega⟩, by repeat (first | exact Drawn0.refl _ | apply Drawn0.step)⟩
     ·rw [if_neg c5] at H
      exact absurd H (by simp)
    ·rw [if_neg c4] at H
     exact absurd H (by simp)
   ·rw [if_neg c3] at H
    have c3b0 : decide (x8_1 < (l0.length : Int)) = false := decide_eq_false c3; clear c3; obtain rfl := Option.some.inj H
    go_wp2
    go_ret
    exact ⟨by first | rfl | (simp; done) | (simp [*]; done), by repeat (first | exact Drawn0.refl _ | apply Drawn0.step)⟩

def slices_Contains_string_string.f (k : Nat) (l0 : List ByteArray) (a1 : ByteArray) : Option (Bool) := (slices_Index_string_string.f k l0 a1).bind fun t206 => (some (decide (t206 ≥ 0)))
theorem slices_Contains_string_string.calls (k : Nat) (A0 : Option Addr) (c0 : Nat) (l0 : List ByteArray) (a1 : ByteArray) (r : Bool) (w : World) (hr0 : Kd.C Kd.string w A0 l0.length l0) (hc0 : l0.length ≤ c0) (h : slices_Contains_string_string.f k l0 a1 = some r) :
  Calls Try.prog 160 #[.slice A0 l0.length c0, .string a1] w fun e w' => e = .returned (.bool r) ∧ Drawn0 w w' := by
 have HR0 := am hr0; have HC0 := am hc0; clear hr0 hc0; have H : ((slices_Index_string_string.f k l0 a1).bind fun t206 => (some (decide (t206 ≥ 0)))) = some r := h; clear h; replace H := Option.bind_eq_some_iff.mp H; obtain ⟨t206, A30, H⟩ := H; (try dsimp -simprocs only at H); have A3 := am A30; clear A30; obtain rfl := Option.some.inj H
 go_enter Try.func160, Try.ntmps160
 go_wp2_with (first | ((with_reducible refine gate_callee (f := 185) rfl ?_); refine gL (some 7) Try.func185 #[.slice A0 l0.length c0, .string a1] ?_; (with_reducible refine (slices_Index_string_string.calls k _ _ l0 a1 t206 _ ?side1 ?side2 A3.out).mono ?_); (case side1 => exact Cz HR0.out); (case side2 => exact HC0.out); rintro e w' ⟨rfl, ⟨nd, rfl⟩⟩; refine ⟨_, rfl, ?_⟩))
 go_ret
 exact ⟨by first | rfl | (simp; done) | (simp [*]; done), by repeat (first | exact Drawn0.refl _ | apply Drawn0.step)⟩

-- NOT PRINTED: function 104 (impl_wrong)

def impl_Bits_at.f (a0_0 : Int) (l0_1 : List Int) (a1 : Int) : Option (Bool) := if 0 ≤ (wrap64 (Int.tdiv a1 16)) then (if (wrap64 (Int.tdiv a1 16)) < (l0_1.length : Int) then (if 0 ≤ (Int.tmod a1 16) then (some ((Go.bits .and .i64 (shr .i64 (rd l0_1 (wrap64 (Int.tdiv a1 16))) (Int.tmod a1 16)) 1) == 1)) else (none)) else (none)) else (none)
theorem impl_Bits_at.calls_v0_28_2 (g0 : Nat) (z0_0 : Int) (z0_1 : Int) (a0_0 : Int) (A0_1 : Option Addr) (c0_1 : Nat) (l0_1 : List Int) (a1 : Int) (r : Bool) (w : World) (hb0 : w.heap[g0]? = some (.cells #[.int .i64 z0_0, .int .i64 z0_1, .int .i64 a0_0, .slice A0_1 l0_1.length c0_1] 28 (0, 0))) (hr0_1 : Kd.C (Kd.int .i64) w A0_1 l0_1.length l0_1) (hc0_1 : l0_1.length ≤ c0_1) (h : impl_Bits_at.f a0_0 l0_1 a1 = some r) :
  Calls Try.prog 127 #[.pointer (some ⟨g0, 2, none⟩), .int .i64 a1] w fun e w' => e = .returned (.bool r) ∧ Drawn0 w w' := by
 have HR0_1 := am hr0_1; have HC0_1 := am hc0_1; clear hr0_1 hc0_1; have BK0 := am hb0; clear hb0; have H : (if 0 ≤ (wrap64 (Int.tdiv a1 16)) then (if (wrap64 (Int.tdiv a1 16)) < (l0_1.length : Int) then (if 0 ≤ (Int.tmod a1 16) then (some ((Go.bits .and .i64 (shr .i64 (rd l0_1 (wrap64 (Int.tdiv a1 16))) (Int.tmod a1 16)) 1) == 1)) else (none)) else (none)) else (none)) = some r := h; clear h; obtain ⟨ji3, hji3⟩ : ∃ j_ : Int, (wrap64 (Int.tdiv a1 16)) = j_ := ⟨_, rfl⟩
 replace H : (if 0 ≤ (ji3) then (if (ji3) < (l0_1.length : Int) then (if 0 ≤ (Int.tmod a1 16) then (some ((Go.bits .and .i64 (shr .i64 (rd l0_1 (ji3)) (Int.tmod a1 16)) 1) == 1)) else (none)) else (none)) else (none)) = some r := by first | (rw [hji3] at H; exact H) | (simp only [hji3] at H ⊢; exact H)
 have hji3w : (IntKind.i64.wrap (Int.tdiv a1 16)) = ji3 := (i64_w _).trans hji3
 by_cases c4 : 0 ≤ (ji3)
 ·rw [if_pos c4] at H
  have c4b0 : decide (0 ≤ (ji3)) = true := decide_eq_true c4; clear c4
  by_cases c5 : (ji3) < (l0_1.length : Int)
  ·rw [if_pos c5] at H
   have c5b0 : decide ((ji3) < (l0_1.length : Int)) = true := decide_eq_true c5; clear c5; obtain ⟨ji6, hji6⟩ : ∃ j_ : Int, (Int.tmod a1 16) = j_ := ⟨_, rfl⟩
   replace H : (if 0 ≤ (ji6) then (some ((Go.bits .and .i64 (shr .i64 (rd l0_1 (ji3)) (ji6)) 1) == 1)) else (none)) = some r := by first | (rw [hji6] at H; exact H) | (simp only [hji6] at H ⊢; exact H)
   by_cases c7 : 0 ≤ (ji6)
   ·rw [if_pos c7] at H
    have c7b0 := eq_true c7; have c7b1 : decide (0 ≤ (ji6)) = true := decide_eq_true c7; clear c7; obtain ⟨ji8, hji8⟩ : ∃ j_ : Int, (shr .i64 (rd l0_1 (ji3)) (ji6)) = j_ := ⟨_, rfl⟩
    replace H : (some ((Go.bits .and .i64 (ji8) 1) == 1)) = some r := by first | (rw [hji8] at H; exact H) | (simp only [hji8] at H ⊢; exact H)
    have hji8_ : ((rd l0_1 (ji3)) / 2 ^ min (ji6).toNat 64) = ji8 := hji8; have hji8z : (ji6) ≤ 64 → ((rd l0_1 (ji3)) / 2 ^ (ji6).toNat) = ji8 := shr_small hji8; obtain rfl := Option.some.inj H; obtain ⟨hcz9_0, hcz9_1, hcz9_2, hcz9_3, hfz9_0, hfz9_1, hfz9_2, hfz9_3⟩ := cf4 (w := w) BK0; obtain ⟨ad210, e210, hx210_0⟩ := Kd.at_int HR0_1.out (ji3) dT dT; cases e210; have p210 := eT (0 ≤ ((ji3) : Int)); have q210 := eT ((ji3) < (l0_1.length : Int))
    go_enter Try.func127, Try.ntmps127
    go_wp2
    go_ret
    exact ⟨by first | rfl | (simp; done) | (simp only [← hji3, ← hji6, ← hji8] <;> (first | rfl | simp)) | (simp [*]; done), by repeat (first | exact Drawn0.refl _ | apply Drawn0.step)⟩
   ·rw [if_neg c7] at H
    exact absurd H (by simp)
  ·rw [if_neg c5] at H
   exact absurd H (by simp)
 ·rw [if_neg c4] at H
  exact absurd H (by simp)

mutual
def impl_hash.l0 : Nat → ByteArray → Int → Int → Int → Option (Int)
 | 0, _, _, _, _ => none
 | k + 1, x2, x7, x18, x19 => if x19 < x18 then (if 0 ≤ x19 then (if x19 < (x2.size : Int) then (impl_hash.l0 k x2 (Int.tmod (wrap64 ((wrap64 (263 * x7)) + (wrap64 (bt x2 x19)))) 65521) x18 (wrap64 (x19 + 1))) else (none)) else (none)) else (impl_hash.l1 k x7 1 0)
def impl_hash.l1 : Nat → Int → Int → Int → Option (Int)
 | 0, _, _, _ => none
 | k + 1, x7, x9, x31 => if x31 < 11 then (impl_hash.l1 k x7 (Int.tmod (wrap64 (x9 * x7)) 65521) (wrap64 (x31 + 1))) else (some x9)
end
def impl_hash.f (k : Nat) (a0 : Int) (a1 : Int) (a2 : ByteArray) : Option (Int) := impl_hash.l0 k a2 (Int.tmod (wrap64 ((wrap64 ((wrap64 (31 * a0)) + (wrap64 (977 * a1)))) + 7)) 65521) (a2.size : Int) 0
theorem impl_hash.calls (k : Nat) (a0 : Int) (a1 : Int) (a2 : ByteArray) (r : Int) (w : World) (h : impl_hash.f k a0 a1 a2 = some r) :
  Calls Try.prog 179 #[.int .i64 a0, .int .i64 a1, .string a2] w fun e w' => e = .returned (.int .i64 r) ∧ Drawn0 w w' := by
 have H : (impl_hash.l0 k a2 (Int.tmod (wrap64 ((wrap64 ((wrap64 (31 * a0)) + (wrap64 (977 * a1)))) + 7)) 65521) (a2.size : Int) 0) = some r := h; clear h; have H' := am H; clear H
 go_enter Try.func179, Try.ntmps179
 go_wp2
 go_loopg [7, 19] k (fun kq v7 v19 w' => ∃ (x7_1 : Int) (x19_1 : Int), v7 = .int .i64 x7_1 ∧ v19 = .int .i64 x19_1 ∧ Aside0 (impl_hash.l0 kq a2 x7_1 (a2.size : Int) x19_1 = some r) ∧ Aside0 (kq ≤ k) ∧ Drawn0 w w')
 case atStart => exact ⟨(Int.tmod (wrap64 ((wrap64 ((wrap64 (31 * a0)) + (wrap64 (977 * a1)))) + 7)) 65521), (0), wZ, wZ, H', ⟨Nat.le_refl _⟩, by repeat (first | exact Drawn0.refl _ | apply Drawn0.step)⟩
 case round =>
  clear H'
  try clear c1
  try clear p2
  obtain ⟨x7_1, x19_1, rfl, rfl, HA, HK1, ⟨m1, rfl⟩⟩ := hrel; cases gk with
  | zero => exact absurd HA.out (by simp [impl_hash.l0])
  | succ k1 =>
   have H := HA.out; clear HA
   simp only [impl_hash.l0] at H
   by_cases c4 : x19_1 < (a2.size : Int)
   ·rw [if_pos c4] at H
    have c4b0 : decide (x19_1 < (a2.size : Int)) = true := decide_eq_true c4; clear c4
    by_cases c5 : 0 ≤ x19_1
    ·rw [if_pos c5] at H
     have c5b0 : decide (0 ≤ x19_1) = true := decide_eq_true c5; clear c5
     by_cases c6 : x19_1 < (a2.size : Int)
     ·rw [if_pos c6] at H
      have c6b0 : decide (x19_1 < (a2.size : Int)) = true := decide_eq_true c6; clear c6; have H' := am H; clear H; have p7 : 0 ≤ (x19_1 : Int) := dT; have q7 : x19_1 < (a2.size : Int) := dT; have hx7 := bt_at a2 x19_1; replace p7 := eq_true p7; replace q7 := eq_true q7
      go_wp2
      go_roundg k1
      case measure => have := HK1.out; omega
      case rel => exact ⟨(Int.tmod (wrap64 ((wrap64 (263 * x7_1)) + (wrap64 (bt a2 x19_1)))) 65521), (wrap64 (x19_1 + 1)), wZ, wZ, H', ⟨by have := HK1.out; omega⟩, by repeat (first | exact Drawn0.refl _ | apply Drawn0.step)⟩
     ·rw [if_neg c6] at H
      exact absurd H (by simp)
    ·rw [if_neg c5] at H
     exact absurd H (by simp)
   ·rw [if_neg c4] at H
    have c4b0 : decide (x19_1 < (a2.size : Int)) = false := decide_eq_false c4; clear c4; have H' := am H; clear H
    go_wp2
    go_loopg [9, 31] k1 (fun kq v9 v31 w' => ∃ (x9_2 : Int) (x31_2 : Int), v9 = .int .i64 x9_2 ∧ v31 = .int .i64 x31_2 ∧ Aside0 (impl_hash.l1 kq x7_1 x9_2 x31_2 = some r) ∧ Aside0 (kq ≤ k1) ∧ Drawn0 w w')
    case atStart => exact ⟨(1), (0), wZ, wZ, H', ⟨Nat.le_refl _⟩, by repeat (first | exact Drawn0.refl _ | apply Drawn0.step)⟩
    case round =>
     clear H'
     try clear c1
     try clear p2
     try clear c4
     try clear c4b0
     try clear c5
     try clear c5b0
     try clear c6
     try clear c6b0
     try clear p6
     try clear p7
     try clear q7
     try clear hx7
     try clear p2
     try clear p7
     try clear q7
     obtain ⟨x9_2, x31_2, rfl, rfl, HA, HK2, ⟨m2, rfl⟩⟩ := hrel; cases gk with
     | zero => exact absurd HA.out (by simp [impl_hash.l1])
     | succ k2 =>
      have H := HA.out; clear HA
      simp only [impl_hash.l1] at H
      by_cases c8 : x31_2 < 11
      ·rw [if_pos c8] at H
       have c8b0 : decide (x31_2 < 11) = true := decide_eq_true c8; clear c8; have H' := am H; clear H
       go_wp2
       go_roundg k2
       case measure => have := HK1.out; have := HK2.out; omega
       case rel => exact ⟨(Int.tmod (wrap64 (x9_2 * x7_1)) 65521), (wrap64 (x31_2 + 1)), wZ, wZ, H', ⟨by have := HK1.out; have := HK2.out; omega⟩, by repeat (first | exact Drawn0.refl _ | apply Drawn0.step)⟩
      ·rw [if_neg c8] at H
       have c8b0 : decide (x31_2 < 11) = false := decide_eq_false c8; clear c8; obtain rfl := Option.some.inj H
       go_wp2
       go_ret
       exact ⟨by first | rfl | (simp; done) | (simp [*]; done), by repeat (first | exact Drawn0.refl _ | apply Drawn0.step)⟩

def impl_place.f (k : Nat) (a0 : Int) (a1 : Int) (a2 : ByteArray) (a3 : Int) : Option (Int) := (impl_hash.f k a0 a1 a2).bind fun t208 => (some (wrap64 (Int.tdiv (wrap64 (t208 * a3)) 65521)))
theorem impl_place.calls (k : Nat) (a0 : Int) (a1 : Int) (a2 : ByteArray) (a3 : Int) (r : Int) (w : World) (h : impl_place.f k a0 a1 a2 a3 = some r) :
  Calls Try.prog 129 #[.int .i64 a0, .int .i64 a1, .string a2, .int .i64 a3] w fun e w' => e = .returned (.int .i64 r) ∧ Drawn0 w w' := by
 have H : ((impl_hash.f k a0 a1 a2).bind fun t208 => (some (wrap64 (Int.tdiv (wrap64 (t208 * a3)) 65521)))) = some r := h; clear h; replace H := Option.bind_eq_some_iff.mp H; obtain ⟨t208, A50, H⟩ := H; (try dsimp -simprocs only at H); have A5 := am A50; clear A50; obtain rfl := Option.some.inj H
 go_enter Try.func129, Try.ntmps129
 go_wp2_with (first | ((with_reducible refine gate_callee (f := 179) rfl ?_); refine gL (some 12) Try.func179 #[.int .i64 a0, .int .i64 a1, .string a2] ?_; (with_reducible refine (impl_hash.calls k a0 a1 a2 t208 _ A5.out).mono ?_); rintro e w' ⟨rfl, ⟨nd, rfl⟩⟩; refine ⟨_, rfl, ?_⟩))
 go_ret
 exact ⟨by first | rfl | (simp; done) | (simp [*]; done), by repeat (first | exact Drawn0.refl _ | apply Drawn0.step)⟩

def impl_Bloom_says.l0 : Nat → ByteArray → Int → Int → Int → Int → Int → List Int → Option (Bool)
 | 0, _, _, _, _, _, _, _ => none
 | k + 1, x1, x9, x10, x1000, x1001, x1002, x1003 => if x10 < x9 then ((impl_place.f k x1000 x10 x1 x1002).bind fun t211 => ((impl_Bits_at.f x1002 x1003 t211).bind fun t212 => (if t212 = true then (impl_Bloom_says.l0 k x1 x9 (wrap64 (x10 + 1)) x1000 x1001 x1002 x1003) else (some false)))) else (some true)
def impl_Bloom_says.f (k : Nat) (a0_0 : Int) (a0_1 : Int) (a0_2 : Int) (l0_3 : List Int) (a1 : ByteArray) : Option (Bool) := impl_Bloom_says.l0 k a1 a0_1 0 a0_0 a0_1 a0_2 l0_3
def impl_Bloom_says.T4 : Bool × List (List Nat × List Nat) := (true, [([], []), ([0], [0]), ([1], [1]), ([], []), ([3], [3]), ([4], [4]), ([5], [5]), ([], []), ([], []), ([], []), ([9], [9]), ([10], [10]), ([11], [11]), ([12], [12]), ([6, 7, 8, 13], [6, 7, 8, 13]), ([2, 14, 14], [2, 14]), ([15], [15])])
def impl_Bloom_says.B4 : List Nat := [0, 1, 3, 0, 8, 24, 56, 0, 0, 0, 512, 1536, 3584, 7680, 16376, 32767, 65535]
theorem impl_Bloom_says.tab4 : rtab .any (opsOf Try.f105 4) = impl_Bloom_says.T4 := by kernel_rfl
theorem impl_Bloom_says.bits4 : waitsOk impl_Bloom_says.T4.2 impl_Bloom_says.B4 = true := by kernel_rfl
theorem impl_Bloom_says.calls (k : Nat) (g0 : Nat) (a0_0 : Int) (a0_1 : Int) (a0_2 : Int) (A0_3 : Option Addr) (c0_3 : Nat) (l0_3 : List Int) (a1 : ByteArray) (r : Bool) (w : World) (hb0 : w.heap[g0]? = some (.cells #[.int .i64 a0_0, .int .i64 a0_1, .int .i64 a0_2, .slice A0_3 l0_3.length c0_3] 28 (0, 0))) (hr0_3 : Kd.C (Kd.int .i64) w A0_3 l0_3.length l0_3) (hc0_3 : l0_3.length ≤ c0_3) (h : impl_Bloom_says.f k a0_0 a0_1 a0_2 l0_3 a1 = some r) :
  Calls Try.prog 105 #[.pointer (some ⟨g0, 0, none⟩), .string a1] w fun e w' => e = .returned (.bool r) ∧ Below w.heap.size w w' := by
 have HR0_3 := am hr0_3; have HC0_3 := am hc0_3; clear hr0_3 hc0_3; have BK0 := am hb0; clear hb0; have HB := am (Below.refl w.heap.size w); have H : (impl_Bloom_says.l0 k a1 a0_1 0 a0_0 a0_1 a0_2 l0_3) = some r := h; clear h; have H' := am H; clear H; obtain ⟨hcz3_0, hcz3_1, hcz3_2, hcz3_3, hfz3_0, hfz3_1, hfz3_2, hfz3_3⟩ := cf4 (w := w) BK0
 go_enter Try.func105, Try.ntmps105
 go_wp2
 go_loopg [10] k (fun kq v10 w' => ∃ (x10_1 : Int), v10 = .int .i64 x10_1 ∧ Aside0 (impl_Bloom_says.l0 kq a1 a0_1 x10_1 a0_0 a0_1 a0_2 l0_3 = some r) ∧ Aside0 (kq ≤ k) ∧ Aside0 (w'.heap[g0]? = some (.cells #[.int .i64 a0_0, .int .i64 a0_1, .int .i64 a0_2, (.slice A0_3 l0_3.length c0_3)] 28 (0, 0))) ∧ Aside0 (Below w.heap.size w w'))
 case atStart => exact ⟨(0), wZ, H', ⟨Nat.le_refl _⟩, ⟨Kz BK0.out⟩, ⟨Bq⟩⟩
 case round =>
  clear H'
  try clear c1
  try clear p2
  try clear hcz3_0
  try clear hcz3_1
  try clear hcz3_2
  try clear hcz3_3
  try clear hfz3_0
  try clear hfz3_1
  try clear hfz3_2
  try clear hfz3_3
  obtain ⟨x10_1, rfl, HA, HK1, BK0, HB⟩ := hrel; cases gk with
  | zero => exact absurd HA.out (by simp [impl_Bloom_says.l0])
  | succ k1 =>
   have H := HA.out; clear HA
   simp only [impl_Bloom_says.l0] at H
   by_cases c4 : x10_1 < a0_1
   ·rw [if_pos c4] at H
    have c4b0 : decide (x10_1 < a0_1) = true := decide_eq_true c4; clear c4; replace H := Option.bind_eq_some_iff.mp H; obtain ⟨t211, A50, H⟩ := H; (try dsimp -simprocs only at H); have A5 := am A50; clear A50; replace H := Option.bind_eq_some_iff.mp H; obtain ⟨t212, A60, H⟩ := H; (try dsimp -simprocs only at H); have A6 := am A60; clear A60
    by_cases c7 : t212 = true
    ·subst c7
     rw [if_pos rfl] at H; have H' := am H; clear H
     try go_wp2
     have n0_ := am (blk_drew BK0.out); have n1_ := am (below_drew1 HB.out); clear BK0 HB; revert n0_ n1_; intro BK0 HB; refine start_ (n := 17) (S := fun w' => w'.cell? ⟨g0, 0, none⟩ = some (.int .i64 a0_0) ∧ w'.cell? ⟨g0, 1, none⟩ = some (.int .i64 a0_1) ∧ w'.cell? ⟨g0, 2, none⟩ = some (.int .i64 a0_2) ∧ w'.cell? ⟨g0, 3, none⟩ = some (.slice A0_3 l0_3.length c0_3)) (ds := []) (bA 17 0) (by kernel_rfl) rfl rfl ⟨cz BK0 0, cz BK0 1, cz BK0 2, cz BK0 3⟩ (fun hHeld => ?_); refine with_tabW impl_Bloom_says.tab4 impl_Bloom_says.bits4 (fun HT_ HW_ => ?_); generalize wr.drew = w8 at BK0 HB hHeld ⊢; refine pZ 0 (some 13) (bA 17 1) HT_.out ?_; refine pZ 1 (some 14) (bA 17 3) HT_.out ?_; refine pZ 2 (some 15) (bA 17 7) HT_.out ?_; refine pZ 3 (some 16) (bA 17 15) HT_.out ?_; refine pZ 4 (some 17) (bA 17 31) HT_.out ?_; refine pZ 5 (some 18) (bA 17 63) HT_.out ?_; refine pZ 7 (some 20) (bA 17 191) HT_.out ?_; refine pZ 8 (some 21) (bA 17 447) HT_.out ?_; refine pZ 9 (some 22) (bA 17 959) HT_.out ?_; refine pZ 10 (some 23) (bA 17 1983) HT_.out ?_; refine pZ 11 (some 24) (bA 17 4031) HT_.out ?_; refine pZ 12 (some 25) (bA 17 8127) HT_.out ?_; refine tZ4 6 (some 19) (bA 17 8191) HT_.out HW_.out hHeld ?_; refine tZ4 13 (some 26) (bA 17 16383) HT_.out HW_.out hHeld ?_; refine oZ 14 (some 27) (bA 17 32767) HT_.out (fun K hK => ?_); refine gZ Try.func129 #[.int .i64 a0_0, .int .i64 x10_1, .string a1, .int .i64 a0_2] ?_
     with_reducible refine (impl_place.calls k1 a0_0 x10_1 a1 a0_2 t211 _ A5.out).mono ?_
     rintro e w' ⟨rfl, ⟨nd, rfl⟩⟩; refine ⟨_, rfl, ?_⟩; refine hK.out _ _ ⟨cz BK0 0, cz BK0 1, cz BK0 2, cz BK0 3⟩ (fun hHeld => ?_); clear hK K; refine norm_ (a' := ?_) ?_ ?_; rotate_left; show Act.put _ (some 27) _ = _; simp only [aP, i64_w, i32_w]; rfl; refine oZ 15 (some 28) (bA 17 65535) HT_.out (fun K hK => ?_); refine gZ Try.func127 #[.pointer (some ⟨g0, 2, none⟩), .int .i64 t211] ?_
     with_reducible refine (impl_Bits_at.calls_v0_28_2 g0 a0_0 a0_1 a0_2 A0_3 c0_3 l0_3 t211 true _ ?side1 ?side2 ?side3 A6.out).mono ?_
     (case side1 => exact Kz BK0.out)
     (case side2 => exact Cz (Kd.C_below HR0_3.out (Bq)))
     (case side3 => exact HC0_3.out)
     rintro e w' ⟨rfl, ⟨nd, rfl⟩⟩; refine ⟨_, rfl, ?_⟩; refine hK.out _ _ ⟨cz BK0 0, cz BK0 1, cz BK0 2, cz BK0 3⟩ (fun hHeld => ?_); clear hK K; refine norm_ (a' := ?_) ?_ ?_; rotate_left; show Act.put _ (some 28) _ = _; simp only [aP, i64_w, i32_w]; rfl; refine pZ 16 (some 29) (bA 17 131071) HT_.out ?_; refine done_ (done_of HT_.out (by kernel_rfl)) ?_
     try go_wp2
     go_roundg k1
     case measure => have := HK1.out; omega
     case rel => exact ⟨(wrap64 (x10_1 + 1)), wZ, H', ⟨by have := HK1.out; omega⟩, ⟨Kz BK0.out⟩, ⟨Bq⟩⟩
    ·replace c7 := Bool.eq_false_iff.mpr c7
     subst c7
     rw [if_neg (show ¬ (false = true) by decide)] at H; obtain rfl := Option.some.inj H
     try go_wp2
     have n0_ := am (blk_drew BK0.out); have n1_ := am (below_drew1 HB.out); clear BK0 HB; revert n0_ n1_; intro BK0 HB; refine start_ (n := 17) (S := fun w' => w'.cell? ⟨g0, 0, none⟩ = some (.int .i64 a0_0) ∧ w'.cell? ⟨g0, 1, none⟩ = some (.int .i64 a0_1) ∧ w'.cell? ⟨g0, 2, none⟩ = some (.int .i64 a0_2) ∧ w'.cell? ⟨g0, 3, none⟩ = some (.slice A0_3 l0_3.length c0_3)) (ds := []) (bA 17 0) (by kernel_rfl) rfl rfl ⟨cz BK0 0, cz BK0 1, cz BK0 2, cz BK0 3⟩ (fun hHeld => ?_); refine with_tabW impl_Bloom_says.tab4 impl_Bloom_says.bits4 (fun HT_ HW_ => ?_); generalize wr.drew = w9 at BK0 HB hHeld ⊢; refine pZ 0 (some 13) (bA 17 1) HT_.out ?_; refine pZ 1 (some 14) (bA 17 3) HT_.out ?_; refine pZ 2 (some 15) (bA 17 7) HT_.out ?_; refine pZ 3 (some 16) (bA 17 15) HT_.out ?_; refine pZ 4 (some 17) (bA 17 31) HT_.out ?_; refine pZ 5 (some 18) (bA 17 63) HT_.out ?_; refine pZ 7 (some 20) (bA 17 191) HT_.out ?_; refine pZ 8 (some 21) (bA 17 447) HT_.out ?_; refine pZ 9 (some 22) (bA 17 959) HT_.out ?_; refine pZ 10 (some 23) (bA 17 1983) HT_.out ?_; refine pZ 11 (some 24) (bA 17 4031) HT_.out ?_; refine pZ 12 (some 25) (bA 17 8127) HT_.out ?_; refine tZ4 6 (some 19) (bA 17 8191) HT_.out HW_.out hHeld ?_; refine tZ4 13 (some 26) (bA 17 16383) HT_.out HW_.out hHeld ?_; refine oZ 14 (some 27) (bA 17 32767) HT_.out (fun K hK => ?_); refine gZ Try.func129 #[.int .i64 a0_0, .int .i64 x10_1, .string a1, .int .i64 a0_2] ?_
     with_reducible refine (impl_place.calls k1 a0_0 x10_1 a1 a0_2 t211 _ A5.out).mono ?_
     rintro e w' ⟨rfl, ⟨nd, rfl⟩⟩; refine ⟨_, rfl, ?_⟩; refine hK.out _ _ ⟨cz BK0 0, cz BK0 1, cz BK0 2, cz BK0 3⟩ (fun hHeld => ?_); clear hK K; refine norm_ (a' := ?_) ?_ ?_; rotate_left; show Act.put _ (some 27) _ = _; simp only [aP, i64_w, i32_w]; rfl; refine oZ 15 (some 28) (bA 17 65535) HT_.out (fun K hK => ?_); refine gZ Try.func127 #[.pointer (some ⟨g0, 2, none⟩), .int .i64 t211] ?_
     with_reducible refine (impl_Bits_at.calls_v0_28_2 g0 a0_0 a0_1 a0_2 A0_3 c0_3 l0_3 t211 false _ ?side1 ?side2 ?side3 A6.out).mono ?_
     (case side1 => exact Kz BK0.out)
     (case side2 => exact Cz (Kd.C_below HR0_3.out (Bq)))
     (case side3 => exact HC0_3.out)
     rintro e w' ⟨rfl, ⟨nd, rfl⟩⟩; refine ⟨_, rfl, ?_⟩; refine hK.out _ _ ⟨cz BK0 0, cz BK0 1, cz BK0 2, cz BK0 3⟩ (fun hHeld => ?_); clear hK K; refine norm_ (a' := ?_) ?_ ?_; rotate_left; show Act.put _ (some 28) _ = _; simp only [aP, i64_w, i32_w]; rfl; refine pZ 16 (some 29) (bA 17 131071) HT_.out ?_; refine done_ (done_of HT_.out (by kernel_rfl)) ?_
     try go_wp2
     go_ret
     exact ⟨eZ, Bq⟩
   ·rw [if_neg c4] at H
    have c4b0 : decide (x10_1 < a0_1) = false := decide_eq_false c4; clear c4; obtain rfl := Option.some.inj H
    go_wp2
    go_ret
    exact ⟨eZ, Bq⟩

def impl_wrong_at_impl_Bloom_says.l0 : Nat → List ByteArray → List Int → List ByteArray → Int → Int → Int → Int → Int → List Int → Option (List Int)
 | 0, _, _, _, _, _, _, _, _, _ => none
 | k + 1, x0, x7, x11, x12, x13, x4000, x4001, x4002, x4003 => if x13 < x12 then (if 0 ≤ x13 then (if x13 < (x11.length : Int) then ((slices_Contains_string_string.f k x0 (rdOf ByteArray.empty x11 x13)).bind fun t223 => (if t223 = true then (impl_wrong_at_impl_Bloom_says.l0 k x0 x7 x11 x12 (wrap64 (x13 + 1)) x4000 x4001 x4002 x4003) else ((impl_Bloom_says.f k x4000 x4001 x4002 x4003 (rdOf ByteArray.empty x11 x13)).bind fun t224 => (if t224 = true then (if x7.length < 17592186044416 then (impl_wrong_at_impl_Bloom_says.l0 k x0 (x7 ++ [x13]) x11 x12 (wrap64 (x13 + 1)) x4000 x4001 x4002 x4003) else (none)) else (impl_wrong_at_impl_Bloom_says.l0 k x0 x7 x11 x12 (wrap64 (x13 + 1)) x4000 x4001 x4002 x4003))))) else (none)) else (none)) else (some x7)
def impl_wrong_at_impl_Bloom_says.f (k : Nat) (l0 : List ByteArray) (l1 : List ByteArray)  (a3_0 : Int) (a3_1 : Int) (a3_2 : Int) (l3_3 : List Int) : Option (List Int) := impl_wrong_at_impl_Bloom_says.l0 k l0 (([] : List Int)) l1 (l1.length : Int) 0 a3_0 a3_1 a3_2 l3_3
theorem impl_wrong_at_impl_Bloom_says.calls (k : Nat) (A0 : Option Addr) (c0 : Nat) (l0 : List ByteArray) (A1 : Option Addr) (c1 : Nat) (l1 : List ByteArray)  (g3 : Nat) (a3_0 : Int) (a3_1 : Int) (a3_2 : Int) (A3_3 : Option Addr) (c3_3 : Nat) (l3_3 : List Int) (r : List Int) (w : World) (hr0 : Kd.C Kd.string w A0 l0.length l0) (hc0 : l0.length ≤ c0) (hr1 : Kd.C Kd.string w A1 l1.length l1) (hc1 : l1.length ≤ c1) (hb3 : w.heap[g3]? = some (.cells #[.int .i64 a3_0, .int .i64 a3_1, .int .i64 a3_2, .slice A3_3 l3_3.length c3_3] 28 (0, 0))) (hr3_3 : Kd.C (Kd.int .i64) w A3_3 l3_3.length l3_3) (hc3_3 : l3_3.length ≤ c3_3) (h : impl_wrong_at_impl_Bloom_says.f k l0 l1 a3_0 a3_1 a3_2 l3_3 = some r) :
  Calls Try.prog 104 #[.slice A0 l0.length c0, .slice A1 l1.length c1, .func (.func 105) #[.pointer (some ⟨g3, 0, none⟩)] #[]] w fun e w' => ∃ v0_ : Value, e = .returned (v0_) ∧ Kd.R (Kd.int .i64) 3 w' w.heap.size (fun _ => True) v0_ r ∧ Below w.heap.size w w' := by
 have HR0 := am hr0; have HC0 := am hc0; clear hr0 hc0; have HR1 := am hr1; have HC1 := am hc1; clear hr1 hc1; have HR3_3 := am hr3_3; have HC3_3 := am hc3_3; clear hr3_3 hc3_3; have BK3 := am hb3; clear hb3; have HB := am (Below.refl w.heap.size w); have H : (impl_wrong_at_impl_Bloom_says.l0 k l0 (([] : List Int)) l1 (l1.length : Int) 0 a3_0 a3_1 a3_2 l3_3) = some r := h; clear h; obtain ⟨y219, hy219⟩ : ∃ y_ : List Int, y_ = (([] : List Int)) := ⟨_, rfl⟩
 replace H : (impl_wrong_at_impl_Bloom_says.l0 k l0 y219 l1 (l1.length : Int) 0 a3_0 a3_1 a3_2 l3_3) = some r := by first | (rw [hy219]; with_reducible exact H) | (have H2_ := (Option.bind_some _ _).symm.trans H; rw [hy219]; with_reducible exact H2_) | (have H2_ := (Option.bind_some _ _).symm.trans H; with_reducible exact H2_) | with_reducible exact H | (rw [hy219]; exact H) | exact H
 have Ny219 := am hy219; clear hy219; have H' := am H; clear H
 go_enter Try.func104, Try.ntmps104
 go_wp2_with (first | ((with_reducible refine gate_dst (N := 10) rfl ?_); refine Kd.R_lit (Kd.int .i64) _ 3 ?hg (N := 10) ?hd (xs := ([] : List Int)) (inner := []) (ok := fun _ => True) (okp := fun _ => True) ?hr ?hp (fun _ hk => hk) trivial (Below.refl _ _) (Nat.le_refl _) (by simp) ?_; (case hd => rfl); (case hg => rfl); (case hr => first | (go_simp; done) | (go_simp; rfl)); (case hp => exact (Reps.none _ _)); intro v220 w5 ho6 hb hg_ hnew_; clear hg_ hnew_; (first | rw [← Ny219.out] at ho6 | (simp only [Int.reduceToNat] at ho6; rw [← Ny219.out] at ho6)); have n0_ := Rm ho6 HB; have n1_ := Kb BK3 hb; have n2_ := Bc HB hb; clear BK3 HB; revert n0_ n1_ n2_; intro HO221 BK3 HB; clear hb ho6))
 (try simp only [aP])
 go_loopg [7, 13] k (fun kq v7 v13 w' => ∃ (x7_1 : List Int) (x13_1 : Int), v13 = .int .i64 x13_1 ∧ Aside0 (impl_wrong_at_impl_Bloom_says.l0 kq l0 x7_1 l1 (l1.length : Int) x13_1 a3_0 a3_1 a3_2 l3_3 = some r) ∧ Aside0 (kq ≤ k) ∧ Aside0 (Kd.R (Kd.int .i64) 3 w' w.heap.size (fun _ => True) v7 x7_1) ∧ Aside0 (w'.heap[g3]? = some (.cells #[.int .i64 a3_0, .int .i64 a3_1, .int .i64 a3_2, (.slice A3_3 l3_3.length c3_3)] 28 (0, 0))) ∧ Aside0 (Below w.heap.size w w'))
 case atStart => exact ⟨(y219), (0), wZ, H', ⟨Nat.le_refl _⟩, ⟨Rz HO221.out⟩, ⟨Kz BK3.out⟩, ⟨Bq⟩⟩
 case round =>
  clear H'
  try clear c1
  try clear p2
  try clear c3
  obtain ⟨x7_1, x13_1, rfl, HA, HK1, HO_7, BK3, HB⟩ := hrel; cases gk with
  | zero => exact absurd HA.out (by simp [impl_wrong_at_impl_Bloom_says.l0])
  | succ k1 =>
   have H := HA.out; clear HA
   simp only [impl_wrong_at_impl_Bloom_says.l0] at H
   by_cases c7 : x13_1 < (l1.length : Int)
   ·rw [if_pos c7] at H
    have c7b0 : decide (x13_1 < (l1.length : Int)) = true := decide_eq_true c7; clear c7
    by_cases c8 : 0 ≤ x13_1
    ·rw [if_pos c8] at H
     have c8b0 : decide (0 ≤ x13_1) = true := decide_eq_true c8; clear c8
     by_cases c9 : x13_1 < (l1.length : Int)
     ·rw [if_pos c9] at H
      have c9b0 : decide (x13_1 < (l1.length : Int)) = true := decide_eq_true c9; clear c9; replace H := Option.bind_eq_some_iff.mp H; obtain ⟨t223, A100, H⟩ := H; (try dsimp -simprocs only at H); have A10 := am A100; clear A100
      by_cases c11 : t223 = true
      ·subst c11
       rw [if_pos rfl] at H; have H' := am H; clear H; have p222 : 0 ≤ (x13_1 : Int) := dT; have q222 : x13_1 < (l1.length : Int) := dT; obtain ⟨ad222, e222, hx222_0⟩ := Kd.at_string HR1.out x13_1 p222 q222; cases e222; replace hx222_0 := (HB.out.cell (World.block_lt_of_cell? w _ hx222_0)).trans hx222_0; replace p222 := eq_true p222; replace q222 := eq_true q222
       go_wp2_with (first | ((with_reducible refine gate_callee (f := 160) rfl ?_); refine gL (some 20) Try.func160 #[.slice A0 l0.length c0, .string (rdOf ByteArray.empty l1 x13_1)] ?_; (with_reducible refine (slices_Contains_string_string.calls k1 _ _ l0 (rdOf ByteArray.empty l1 x13_1) true _ ?side1 ?side2 A10.out).mono ?_); (case side1 => exact Cz (Kd.C_below HR0.out HB.out)); (case side2 => exact HC0.out); rintro e w' ⟨rfl, ⟨nd, rfl⟩⟩; refine ⟨_, rfl, ?_⟩))
       go_roundg k1
       case measure => have := HK1.out; omega
       case rel => exact ⟨(x7_1), (wrap64 (x13_1 + 1)), wZ, H', ⟨by have := HK1.out; omega⟩, ⟨Rz HO_7.out⟩, ⟨Kz BK3.out⟩, ⟨Bq⟩⟩
      ·replace c11 := Bool.eq_false_iff.mpr c11
       subst c11
       rw [if_neg (show ¬ (false = true) by decide)] at H; replace H := Option.bind_eq_some_iff.mp H; obtain ⟨t224, A120, H⟩ := H; (try dsimp -simprocs only at H); have A12 := am A120; clear A120
       by_cases c13 : t224 = true
       ·subst c13
        rw [if_pos rfl] at H
        by_cases c14 : x7_1.length < 17592186044416
        ·rw [if_pos c14] at H
         have LMc14 := am c14; clear c14; obtain ⟨y225, hy225⟩ : ∃ y_ : List Int, y_ = (x7_1 ++ [x13_1]) := ⟨_, rfl⟩
         replace H : (impl_wrong_at_impl_Bloom_says.l0 k1 l0 y225 l1 (l1.length : Int) (wrap64 (x13_1 + 1)) a3_0 a3_1 a3_2 l3_3) = some r := by first | (rw [hy225]; with_reducible exact H) | (have H2_ := (Option.bind_some _ _).symm.trans H; rw [hy225]; with_reducible exact H2_) | (have H2_ := (Option.bind_some _ _).symm.trans H; with_reducible exact H2_) | with_reducible exact H | (rw [hy225]; exact H) | exact H
         have Ny225 := am hy225; clear hy225; have H' := am H; clear H; have p222 : 0 ≤ (x13_1 : Int) := dT; have q222 : x13_1 < (l1.length : Int) := dT; obtain ⟨ad222, e222, hx222_0⟩ := Kd.at_string HR1.out x13_1 p222 q222; cases e222; replace hx222_0 := (HB.out.cell (World.block_lt_of_cell? w _ hx222_0)).trans hx222_0; replace p222 := eq_true p222; replace q222 := eq_true q222
         go_wp2_with (first | ((with_reducible refine gate_callee (f := 160) rfl ?_); refine gL (some 20) Try.func160 #[.slice A0 l0.length c0, .string (rdOf ByteArray.empty l1 x13_1)] ?_; (with_reducible refine (slices_Contains_string_string.calls k1 _ _ l0 (rdOf ByteArray.empty l1 x13_1) false _ ?side1 ?side2 A10.out).mono ?_); (case side1 => exact Cz (Kd.C_below HR0.out HB.out)); (case side2 => exact HC0.out); rintro e w' ⟨rfl, ⟨nd, rfl⟩⟩; refine ⟨_, rfl, ?_⟩) | (go_at_call 105; (with_reducible refine (impl_Bloom_says.calls k1 g3 a3_0 a3_1 a3_2 A3_3 c3_3 l3_3 (rdOf ByteArray.empty l1 x13_1) true _ ?side1 ?side2 ?side3 A12.out).mono ?_); (case side1 => exact Kz BK3.out); (case side2 => exact Cz (Kd.C_below HR3_3.out (Bq))); (case side3 => exact HC3_3.out); rintro e w15 ⟨rfl, hb⟩; have n0_ := Rb HO_7 hb; have n1_ := Kb BK3 hb; have n2_ := Bc HB hb; clear HO_7 BK3 HB; revert n0_ n1_ n2_; intro HO_7 BK3 HB; (try clear hb); (try clear hb2); (try clear hk); (try clear hi)) | ((with_reducible refine gate_builtin (b := .append) (xs := #[.tmp 27, .tmp 29]) rfl ?_); at_builtin; refine Kd.R_append (Kd.int .i64) (w0 := w) w.heap.size rfl (.tmp 27) (.tmp 29) 24 3 (.int .i64 0) 8 rfl Try.underlying24 info3 rfl (by decide) (by omega) u7 x7_1 x13_1 [.int .i64 x13_1] (fun _ => True) (fun _ => False) rfl rfl ?aP (fun _ hk => hk.elim) ?aF ?aO ?aB ?aS ?aL ?_; (case aP => exact rfl); (case aB => exact (Bq)); (case aF => exact (fun _ _ => trivial)); (case aO => exact (Rz HO_7.out)); (case aS => exact (below_size (w := w) (Bq))); (case aL => have := LMc14.out; omega); intro v226 w16 ho hb hg hat; rw [← Ny225.out] at ho; have n0_ := am (blk_grown (g := g3) (o := .cells #[.int .i64 a3_0, .int .i64 a3_1, .int .i64 a3_2, .slice A3_3 l3_3.length c3_3] 28 (0, 0)) (Kz BK3.out) hg (Kd.R_ne HO_7.out BK3.out (by decide))); have n1_ := am (hb); have n2_ := am (ho); clear BK3 HB HO_7; revert n0_ n1_ n2_; intro BK3 HB HO227; clear ho hb hg hat))
         go_roundg k1
         case measure => have := HK1.out; omega
         case rel => exact ⟨(y225), (wrap64 (x13_1 + 1)), wZ, H', ⟨by have := HK1.out; omega⟩, ⟨Rz HO227.out⟩, ⟨Kz BK3.out⟩, ⟨Bq⟩⟩
        ·rw [if_neg c14] at H
         exact absurd H (by simp)
       ·replace c13 := Bool.eq_false_iff.mpr c13
        subst c13
        rw [if_neg (show ¬ (false = true) by decide)] at H; have H' := am H; clear H; have p222 : 0 ≤ (x13_1 : Int) := dT; have q222 : x13_1 < (l1.length : Int) := dT; obtain ⟨ad222, e222, hx222_0⟩ := Kd.at_string HR1.out x13_1 p222 q222; cases e222; replace hx222_0 := (HB.out.cell (World.block_lt_of_cell? w _ hx222_0)).trans hx222_0; replace p222 := eq_true p222; replace q222 := eq_true q222
        go_wp2_with (first | ((with_reducible refine gate_callee (f := 160) rfl ?_); refine gL (some 20) Try.func160 #[.slice A0 l0.length c0, .string (rdOf ByteArray.empty l1 x13_1)] ?_; (with_reducible refine (slices_Contains_string_string.calls k1 _ _ l0 (rdOf ByteArray.empty l1 x13_1) false _ ?side1 ?side2 A10.out).mono ?_); (case side1 => exact Cz (Kd.C_below HR0.out HB.out)); (case side2 => exact HC0.out); rintro e w' ⟨rfl, ⟨nd, rfl⟩⟩; refine ⟨_, rfl, ?_⟩) | (go_at_call 105; (with_reducible refine (impl_Bloom_says.calls k1 g3 a3_0 a3_1 a3_2 A3_3 c3_3 l3_3 (rdOf ByteArray.empty l1 x13_1) false _ ?side1 ?side2 ?side3 A12.out).mono ?_); (case side1 => exact Kz BK3.out); (case side2 => exact Cz (Kd.C_below HR3_3.out (Bq))); (case side3 => exact HC3_3.out); rintro e w17 ⟨rfl, hb⟩; have n0_ := Rb HO_7 hb; have n1_ := Kb BK3 hb; have n2_ := Bc HB hb; clear HO_7 BK3 HB; revert n0_ n1_ n2_; intro HO_7 BK3 HB; (try clear hb); (try clear hb2); (try clear hk); (try clear hi)))
        go_roundg k1
        case measure => have := HK1.out; omega
        case rel => exact ⟨(x7_1), (wrap64 (x13_1 + 1)), wZ, H', ⟨by have := HK1.out; omega⟩, ⟨Rz HO_7.out⟩, ⟨Kz BK3.out⟩, ⟨Bq⟩⟩
     ·rw [if_neg c9] at H
      exact absurd H (by simp)
    ·rw [if_neg c8] at H
     exact absurd H (by simp)
   ·rw [if_neg c7] at H
    have c7b0 : decide (x13_1 < (l1.length : Int)) = false := decide_eq_false c7; clear c7; obtain rfl := Option.some.inj H
    go_wp2
    go_ret
    exact ⟨_, eZ, Rz HO_7.out, Bq⟩

def impl_ShareOf.f (k : Nat) (a0_0 : Int) (a0_1 : Int) (a0_2 : Int) (l0_3 : List Int) (a1 : ByteArray) (a2 : Int) : Option (Int × Int × Bool) := (impl_TextsOver.f k a1 a2).bind fun bt229 => (if bt229.2 = true then ((impl_IsBloom.f k a0_0 a0_1 a0_2 l0_3).bind fun t233 => (if t233 = true then ((impl_wrong_at_impl_Bloom_says.f k ([] : List ByteArray) bt229.1 a0_0 a0_1 a0_2 l0_3).bind fun t234 => (some ((t234.length : Int), (bt229.1.length : Int), true))) else (some (0, 0, false)))) else (some (0, 0, false)))
theorem impl_ShareOf.calls (k : Nat) (a0_0 : Int) (a0_1 : Int) (a0_2 : Int) (A0_3 : Option Addr) (c0_3 : Nat) (l0_3 : List Int) (a1 : ByteArray) (a2 : Int) (r1 : Int) (r2 : Int) (r3 : Bool) (w : World) (hr0_3 : Kd.C (Kd.int .i64) w A0_3 l0_3.length l0_3) (hc0_3 : l0_3.length ≤ c0_3) (h : impl_ShareOf.f k a0_0 a0_1 a0_2 l0_3 a1 a2 = some (r1, r2, r3)) :
  Calls Try.prog 37 #[.agg #[.int .i64 a0_0, .int .i64 a0_1, .int .i64 a0_2, .slice A0_3 l0_3.length c0_3], .string a1, .int .i64 a2] w fun e w' => e = .returned (.tuple #[.int .i64 r1, .int .i64 r2, .bool r3]) ∧ Below w.heap.size w w' := by
 have hu28 := Try.underlying28; have HR0_3 := am hr0_3; have HC0_3 := am hc0_3; clear hr0_3 hc0_3; have HB := am (Below.refl w.heap.size w); have H : ((impl_TextsOver.f k a1 a2).bind fun bt229 => (if bt229.2 = true then ((impl_IsBloom.f k a0_0 a0_1 a0_2 l0_3).bind fun t233 => (if t233 = true then ((impl_wrong_at_impl_Bloom_says.f k ([] : List ByteArray) bt229.1 a0_0 a0_1 a0_2 l0_3).bind fun t234 => (some ((t234.length : Int), (bt229.1.length : Int), true))) else (some (0, 0, false)))) else (some (0, 0, false)))) = some (r1, r2, r3) := h; clear h; replace H := Option.bind_eq_some_iff.mp H; obtain ⟨⟨t229, t230⟩, A40, H⟩ := H; (try dsimp -simprocs only at H); have A4 := am A40; clear A40
 by_cases c5 : t230 = true
 ·subst c5
  rw [if_pos rfl] at H; replace H := Option.bind_eq_some_iff.mp H; obtain ⟨t233, A60, H⟩ := H; (try dsimp -simprocs only at H); have A6 := am A60; clear A60
  by_cases c7 : t233 = true
  ·subst c7
   rw [if_pos rfl] at H; replace H := Option.bind_eq_some_iff.mp H; obtain ⟨t234, A80, H⟩ := H; (try dsimp -simprocs only at H); have A8 := am A80; clear A80
   simp only [Option.some.injEq, Prod.mk.injEq] at H
   obtain ⟨rfl, rfl, rfl⟩ := H
   go_enter Try.func37, Try.ntmps37
   go_wp2_with (first | ((with_reducible refine gate_dst (N := 3) rfl ?_); refine bE 3 #[.int .i64 a0_0, .int .i64 a0_1, .int .i64 a0_2, .slice A0_3 l0_3.length c0_3] 28 ?_; intro gb228 hg w9 hbox hb; have n0_ := Bb HB hb; have n1_ := am (hbox); have n2_ := Gl HB hg; have n3_ := Gl HB hg; clear HB; revert n0_ n1_ n2_ n3_; intro HB BK228 GW228 GE228; clear hb hbox hg) | ((with_reducible refine gate_callee (f := 81) rfl ?_); refine gL (some 14) Try.func81 #[.string a1, .int .i64 a2] ?_; (with_reducible refine (impl_TextsOver.calls k a1 a2 t229 true _ A4.out).mono ?_); rintro e w10 ⟨v231, rfl, ho0, hb⟩; refine ⟨_, rfl, ?_⟩; have n0_ := Rm ho0 HB; have n1_ := Kb BK228 hb; have n2_ := Bc HB hb; clear BK228 HB; revert n0_ n1_ n2_; intro HO232 BK228 HB; (try clear hb); (try clear hb2); (try clear hk); (try clear hi); (try clear ho0); obtain ⟨hcz11_0, hcz11_1, hcz11_2, hcz11_3, hfz11_0, hfz11_1, hfz11_2, hfz11_3⟩ := cf4 (w := w10) BK228) | (go_at_call 97; (with_reducible refine (impl_IsBloom.calls k a0_0 a0_1 a0_2 _ _ l0_3 true _ ?side1 ?side2 A6.out).mono ?_); (case side1 => exact Cz (Kd.C_below HR0_3.out HB.out)); (case side2 => exact HC0_3.out); rintro e w12 ⟨rfl, hb⟩; have n0_ := Rb HO232 hb; have n1_ := Kb BK228 hb; have n2_ := Bc HB hb; clear HO232 BK228 HB; revert n0_ n1_ n2_; intro HO232 BK228 HB; (try clear hb); (try clear hb2); (try clear hk); (try clear hi); obtain ⟨Ao13, co13, eo13⟩ := Kd.R_slice HO232.out; subst eo13) | ((with_reducible refine gate_callee (f := 104) rfl ?_); refine gL (some 26) Try.func104 #[.slice none 0 0, .slice Ao13 t229.length co13, .func (.func 105) #[.pointer (some ⟨gb228, 0, none⟩)] #[]] ?_; (refine (impl_wrong_at_impl_Bloom_says.calls k _ _ ([] : List ByteArray) _ _ t229  gb228 a0_0 a0_1 a0_2 A0_3 c0_3 l0_3 t234 _ ?side1 ?side2 ?side3 ?side4 ?side5 ?side6 ?side7 A8.out).mono ?_); (case side1 => exact Kd.C_nil _ _); (case side2 => exact Nat.le_refl _); (case side3 => exact Cz ((Kd.R_reads' HO232.out).2.2)); (case side4 => exact (Kd.R_reads' HO232.out).2.1); (case side5 => exact Kz BK228.out); (case side6 => exact Cz (Kd.C_below HR0_3.out HB.out)); (case side7 => exact HC0_3.out); rintro e w14 ⟨v235, rfl, ho0, hb⟩; refine ⟨_, rfl, ?_⟩; have n0_ := Rb HO232 hb; have n1_ := Rm ho0 HB; have n2_ := Kb BK228 hb; have n3_ := Bc HB hb; clear HO232 BK228 HB; revert n0_ n1_ n2_ n3_; intro HO232 HO236 BK228 HB; (try clear hb); (try clear hb2); (try clear hk); (try clear hi); (try clear ho0); obtain ⟨Ao15, co15, eo15⟩ := Kd.R_slice HO236.out; subst eo15))
   go_ret3
   exact ⟨eZ, Bq⟩
  ·replace c7 := Bool.eq_false_iff.mpr c7
   subst c7
   rw [if_neg (show ¬ (false = true) by decide)] at H
   simp only [Option.some.injEq, Prod.mk.injEq] at H
   obtain ⟨rfl, rfl, rfl⟩ := H
   go_enter Try.func37, Try.ntmps37
   go_wp2_with (first | ((with_reducible refine gate_dst (N := 3) rfl ?_); refine bE 3 #[.int .i64 a0_0, .int .i64 a0_1, .int .i64 a0_2, .slice A0_3 l0_3.length c0_3] 28 ?_; intro gb228 hg w16 hbox hb; have n0_ := Bb HB hb; have n1_ := am (hbox); have n2_ := Gl HB hg; have n3_ := Gl HB hg; clear HB; revert n0_ n1_ n2_ n3_; intro HB BK228 GW228 GE228; clear hb hbox hg) | ((with_reducible refine gate_callee (f := 81) rfl ?_); refine gL (some 14) Try.func81 #[.string a1, .int .i64 a2] ?_; (with_reducible refine (impl_TextsOver.calls k a1 a2 t229 true _ A4.out).mono ?_); rintro e w17 ⟨v231, rfl, ho0, hb⟩; refine ⟨_, rfl, ?_⟩; have n0_ := Rm ho0 HB; have n1_ := Kb BK228 hb; have n2_ := Bc HB hb; clear BK228 HB; revert n0_ n1_ n2_; intro HO232 BK228 HB; (try clear hb); (try clear hb2); (try clear hk); (try clear hi); (try clear ho0); obtain ⟨hcz18_0, hcz18_1, hcz18_2, hcz18_3, hfz18_0, hfz18_1, hfz18_2, hfz18_3⟩ := cf4 (w := w17) BK228) | (go_at_call 97; (with_reducible refine (impl_IsBloom.calls k a0_0 a0_1 a0_2 _ _ l0_3 false _ ?side1 ?side2 A6.out).mono ?_); (case side1 => exact Cz (Kd.C_below HR0_3.out HB.out)); (case side2 => exact HC0_3.out); rintro e w19 ⟨rfl, hb⟩; have n0_ := Rb HO232 hb; have n1_ := Kb BK228 hb; have n2_ := Bc HB hb; clear HO232 BK228 HB; revert n0_ n1_ n2_; intro HO232 BK228 HB; (try clear hb); (try clear hb2); (try clear hk); (try clear hi)))
   go_ret3
   exact ⟨eZ, Bq⟩
 ·replace c5 := Bool.eq_false_iff.mpr c5
  subst c5
  rw [if_neg (show ¬ (false = true) by decide)] at H
  simp only [Option.some.injEq, Prod.mk.injEq] at H
  obtain ⟨rfl, rfl, rfl⟩ := H
  go_enter Try.func37, Try.ntmps37
  go_wp2_with (first | ((with_reducible refine gate_dst (N := 3) rfl ?_); refine bE 3 #[.int .i64 a0_0, .int .i64 a0_1, .int .i64 a0_2, .slice A0_3 l0_3.length c0_3] 28 ?_; intro gb228 hg w20 hbox hb; have n0_ := Bb HB hb; have n1_ := am (hbox); have n2_ := Gl HB hg; have n3_ := Gl HB hg; clear HB; revert n0_ n1_ n2_ n3_; intro HB BK228 GW228 GE228; clear hb hbox hg) | ((with_reducible refine gate_callee (f := 81) rfl ?_); refine gL (some 14) Try.func81 #[.string a1, .int .i64 a2] ?_; (with_reducible refine (impl_TextsOver.calls k a1 a2 t229 false _ A4.out).mono ?_); rintro e w21 ⟨v231, rfl, ho0, hb⟩; refine ⟨_, rfl, ?_⟩; have n0_ := Rm ho0 HB; have n1_ := Kb BK228 hb; have n2_ := Bc HB hb; clear BK228 HB; revert n0_ n1_ n2_; intro HO232 BK228 HB; (try clear hb); (try clear hb2); (try clear hk); (try clear hi); (try clear ho0)))
  go_ret3
  exact ⟨eZ, Bq⟩

end Go.Proofs.Ytpkpjikkfikejaa.PB
