/- distinct: whether all numbers are different, by a set that the call makes; by hand, in the form of the printed contracts. -/
import Derived.Test.YthkcgimnagpmaaaProg
import Derived.Test.YthkcgimnagpmaaaWWords
import Derived.Test.YthkcgimnagpmaaaWKept
import Derived.Test.YthkcgimnagpmaaaGpMap
import Derived.WalkKit
import Derived.KernelRfl
namespace Go.Proofs.Ythkcgimnagpmaaa.PA
open Go Go.RowKit Go.Maps Go.Proofs.YthkcgimnagpmaaaW.PrintWords Go.Proofs.YthkcgimnagpmaaaGp
set_option maxHeartbeats 400000
theorem distinctK : Keyed Try.prog 3 := int_keyed Try.underlying3
theorem distinctZ (w : World) : (zeroValue 4).run Try.prog w = .ok (.bool false) w := by kernel_rfl
def okI (x : Int) : Bool := decide (-9223372036854775808 ≤ x) && decide (x ≤ 9223372036854775807)
theorem okI_wf {x : Int} (h : okI x = true) : (Lit.int .i64 x).wf = true := h
theorem rdn {l : List Int} {k : Nat} (h : k < l.length) : rd l (k : Int) = l[k] := by simp [rd, h]
/-- Whether a list goes on with numbers that are different, and none of those before. -/
def goesI : List Int → List Int → Bool
  | _, [] => true
  | S, x :: t => !(S.contains x) && goesI (x :: S) t
def impl_distinct.f (l0 : List Int) : Option Bool := if l0.length ≤ 1000000 ∧ l0.all okI = true then some (goesI [] l0) else none
theorem impl_distinct.calls (A0 : Option Addr) (c0 : Nat) (l0 : List Int) (r : Bool) (w : World) (hr0 : Kd.C (Kd.int .i64) w A0 l0.length l0) (_ : l0.length ≤ c0) (h : impl_distinct.f l0 = some r) :
    Calls Try.prog 74 #[.slice A0 l0.length c0] w fun e w' => e = .returned (.bool r) ∧ Below w.heap.size w w' := by
  unfold impl_distinct.f at h
  split at h
  case isFalse => cases h
  case isTrue hl =>
  obtain ⟨hl, hok⟩ := hl
  have HR := Option.some.inj h
  have HG : Aside0 (goesI [] l0 = r) := ⟨HR⟩
  clear HR h
  have HO : Aside0 (∀ x ∈ l0, okI x = true) := ⟨by simpa using hok⟩
  clear hok
  have HC := Aside0.mk hr0
  clear hr0
  have hmm := @run_makeMap Try.prog
  go_enter Try.func74, Try.ntmps74
  go_wp2
  go_loopw [9] (fun i wr => ∃ (k : Nat) (S : List Int) (D : DataW Unit), k ≤ l0.length ∧ i = .int .i64 k ∧ wr.ownsMap Try.prog 3 (plainElem (H := Unit) Try.prog 4) w.heap.size k D ∧ Aside0 (SetIs .i64 D S) ∧ Aside0 (goesI S (l0.drop k) = r) ∧ Below w.heap.size w wr)
    (fun i _ => l0.length - (intOf i).toNat)
  case atStart => exact ⟨0, [], .map [], Nat.zero_le _, rfl, World.ownsMap_made _ _ _ _, ⟨SetIs.empty _⟩, ⟨by simpa using HG.out⟩, (Below.refl _ _).alloc (Nat.le_refl _) _⟩
  case round =>
    obtain ⟨k, S, D, hk, rfl, hown, HS, HA, hnx⟩ := hrel
    by_cases hlt : k < l0.length
    · obtain ⟨ad, e0, hx⟩ := Kd.at_int HC.out (k : Int) (by omega) (by omega)
      subst e0
      have hx' := pw_cell_below hnx hx
      rw [Int.toNat_natCast] at hx'
      clear hx
      have HK : Aside0 (keyOf Try.prog 3 (.int .i64 (rd l0 k)) = some (.int .i64 (rd l0 k))) := ⟨keyOf_int_mk Try.underlying3 (okI_wf (HO.out _ (by rw [rdn hlt]; exact List.getElem_mem hlt)))⟩
      have HD : Aside0 (l0.drop k = rd l0 k :: l0.drop (k + 1)) := ⟨by rw [rdn hlt]; exact List.drop_eq_getElem_cons hlt⟩
      by_cases hs : S.contains (rd l0 k) = true
      · have HB := HS.out.2.1 (rd l0 k)
        rw [hs] at HB
        have HB' := Aside0.mk HB
        clear HB
        go_wp2_with (first
          | (at_lookup; refine lookB _ rfl _ _ 125 rfl 3 4 distinctK Try.underlying125 Try.underlying4 (distinctZ _) w.heap.size k D rfl hown _ _ rfl HK.out true HB'.out ?_)
          | go_in)
        go_ret
        refine ⟨?_, hnx⟩
        have := HA.out
        rw [HD.out, goesI, hs] at this
        rw [← this]; rfl
      · have hs' : S.contains (rd l0 k) = false := by simpa using hs
        have HF := Aside0.mk hs'
        have HB := HS.out.2.1 (rd l0 k)
        rw [hs'] at HB
        clear hs' hs
        have HB' := Aside0.mk HB
        clear HB
        go_wp2_with (first
          | (at_lookup; refine lookB _ rfl _ _ 125 rfl 3 4 distinctK Try.underlying125 Try.underlying4 (distinctZ _) w.heap.size k D rfl hown _ _ rfl HK.out false HB'.out ?_)
          | (at_mapUpdate; refine wpList_mapUpdate_own _ rfl _ _ _ 125 rfl 3 4 distinctK Try.underlying125 (plainElem (H := Unit) Try.prog 4) w.heap.size k _ rfl hown (by unfold maxLen; omega) _ _ _ rfl rfl HK.out _ [] (plainElem_bool Try.underlying4 true) ?_; intro w1 hown1 hgrow1)
          | go_in)
        go_roundw
        case rel => exact ⟨k + 1, rd l0 k :: S, _, by omega, by go_num, hown1, ⟨HS.out.put _⟩, ⟨by have := HA.out; rw [HD.out, goesI, HF.out] at this; exact this⟩, hnx.grown hgrow1 hnx.size (fun j hj => by cases hj; exact Nat.le_refl _)⟩
        case measure => simp [intOf]; omega
    · have e : k = l0.length := by omega
      subst e
      go_wp2
      go_ret
      refine ⟨?_, hnx⟩
      have := HA.out
      rw [List.drop_length, goesI] at this
      rw [← this]; rfl
end Go.Proofs.Ythkcgimnagpmaaa.PA
