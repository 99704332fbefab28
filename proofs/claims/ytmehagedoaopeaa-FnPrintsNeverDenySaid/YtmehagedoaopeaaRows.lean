/-
  No cell of these rows narrows 'for every input' (looked for: loops, veiled, ifaces, maps, wideKeys, modest, calm, conditions, laid).
  DERIVED. THE GIVEN ROWS OF THIS SEAT. 5 by the template 'for every input the law returns true; each argument reads behind the call as it read before'; 0 by the template 'total and deterministic' (their statements: YtmehagedoaopeaaTotals.lean).
  GIVEN WITH THE SEED: the statements are not yours to turn. If you find one false, say at which input.
  Laid BY PROGRAM, IN A SANDBOX (cutbox-rows.mjs): the forced cells as the released guide's own fill.sh prints them over the translation 280116e441344793… (all of the seat's roots in one cut). By AI agents, Wed Nov 11 2026. No macro, syntax, notation, axiom, sorry.
-/
import Derived.Test.YtmehagedoaopeaaChecked
import GoSem.Claim
import GoSem.ClaimJoined
import GoSem.ClaimMapViews
import Derived.JoinedTies
import Derived.KernelRfl
namespace Go.Proofs.Ytmehagedoaopeaa
/- THE CELL 'sum', in the pinned program and in every row, IS THE sha256 OF THE DUMP (.gsa) THAT YtmehagedoaopeaaProg.lean LOADS. Nothing in Lean hashes anything: it is a label: what it is worth is what the hold of that sum in a sandbox is worth. -/
noncomputable def Try.pinned : Pinned := { name := "ytmehagedoaopeaa", sum := "280116e44134479386f18fae8dd4c5652723d829a2569692c81390f24b5a8933", checked := Try.checked }
namespace Rows
def none {H : Type} : Left H := { results := [], args := [] }

/-- 'laws.FnForeignKeysAreLed': WHATEVER THE INPUT: true; the input reads as it did. -/
def fnForeignKeysAreLedSpec : ChangeSpec := { name := "fnForeignKeysAreLed", fn := fun _ => fun
  | [d1, d2] => { results := [.lit (.bool true)], args := [d1, d2] }
  | _ => none }
def fnForeignKeysAreLedRow : OpenClaim := { program := "ytmehagedoaopeaa", sum := "280116e44134479386f18fae8dd4c5652723d829a2569692c81390f24b5a8933", func := "loop.example/g01097/laws.FnForeignKeysAreLed", spec := "fnForeignKeysAreLed", unfollowed := true, recurses := true, apart := false }
def FnForeignKeysAreLedSaid : Prop := fnForeignKeysAreLedRow.holds Try.pinned (OpenSpec.ofChange fnForeignKeysAreLedSpec)

/-- ITS FALSE NEIGHBOUR: 'it returns false'. Refute it at one input. -/
def fnForeignKeysAreLedWrong : ChangeSpec := { name := "fnForeignKeysAreLed", fn := fun _ => fun
  | [d1, d2] => { results := [.lit (.bool false)], args := [d1, d2] }
  | _ => none }
def FnForeignKeysAreLedWrongFalsely : Prop := fnForeignKeysAreLedRow.holds Try.pinned (OpenSpec.ofChange fnForeignKeysAreLedWrong)

/-- 'laws.FnOrderedKeepsOrder': WHATEVER THE INPUT: true; the input reads as it did. -/
def fnOrderedKeepsOrderSpec : ChangeSpec := { name := "fnOrderedKeepsOrder", fn := fun _ => fun
  | [d1, d2] => { results := [.lit (.bool true)], args := [d1, d2] }
  | _ => none }
def fnOrderedKeepsOrderRow : OpenClaim := { program := "ytmehagedoaopeaa", sum := "280116e44134479386f18fae8dd4c5652723d829a2569692c81390f24b5a8933", func := "loop.example/g01097/laws.FnOrderedKeepsOrder", spec := "fnOrderedKeepsOrder", unfollowed := true, recurses := true, apart := false }
def FnOrderedKeepsOrderSaid : Prop := fnOrderedKeepsOrderRow.holds Try.pinned (OpenSpec.ofChange fnOrderedKeepsOrderSpec)

/-- ITS FALSE NEIGHBOUR: 'it returns false'. Refute it at one input. -/
def fnOrderedKeepsOrderWrong : ChangeSpec := { name := "fnOrderedKeepsOrder", fn := fun _ => fun
  | [d1, d2] => { results := [.lit (.bool false)], args := [d1, d2] }
  | _ => none }
def FnOrderedKeepsOrderWrongFalsely : Prop := fnOrderedKeepsOrderRow.holds Try.pinned (OpenSpec.ofChange fnOrderedKeepsOrderWrong)

/-- 'laws.FnDisplacedIsPerfect': WHATEVER THE INPUT: true; the input reads as it did. -/
def fnDisplacedIsPerfectSpec : ChangeSpec := { name := "fnDisplacedIsPerfect", fn := fun _ => fun
  | [d1, d2] => { results := [.lit (.bool true)], args := [d1, d2] }
  | _ => none }
def fnDisplacedIsPerfectRow : OpenClaim := { program := "ytmehagedoaopeaa", sum := "280116e44134479386f18fae8dd4c5652723d829a2569692c81390f24b5a8933", func := "loop.example/g01097/laws.FnDisplacedIsPerfect", spec := "fnDisplacedIsPerfect", unfollowed := true, recurses := true, apart := false }
def FnDisplacedIsPerfectSaid : Prop := fnDisplacedIsPerfectRow.holds Try.pinned (OpenSpec.ofChange fnDisplacedIsPerfectSpec)

/-- ITS FALSE NEIGHBOUR: 'it returns false'. Refute it at one input. -/
def fnDisplacedIsPerfectWrong : ChangeSpec := { name := "fnDisplacedIsPerfect", fn := fun _ => fun
  | [d1, d2] => { results := [.lit (.bool false)], args := [d1, d2] }
  | _ => none }
def FnDisplacedIsPerfectWrongFalsely : Prop := fnDisplacedIsPerfectRow.holds Try.pinned (OpenSpec.ofChange fnDisplacedIsPerfectWrong)

/-- 'laws.FnDifferencesOfTables': WHATEVER THE INPUT: true; the input reads as it did. -/
def fnDifferencesOfTablesSpec : ChangeSpec := { name := "fnDifferencesOfTables", fn := fun _ => fun
  | [d1, d2] => { results := [.lit (.bool true)], args := [d1, d2] }
  | _ => none }
def fnDifferencesOfTablesRow : OpenClaim := { program := "ytmehagedoaopeaa", sum := "280116e44134479386f18fae8dd4c5652723d829a2569692c81390f24b5a8933", func := "loop.example/g01097/laws.FnDifferencesOfTables", spec := "fnDifferencesOfTables", unfollowed := true, recurses := true, apart := false }
def FnDifferencesOfTablesSaid : Prop := fnDifferencesOfTablesRow.holds Try.pinned (OpenSpec.ofChange fnDifferencesOfTablesSpec)

/-- ITS FALSE NEIGHBOUR: 'it returns false'. Refute it at one input. -/
def fnDifferencesOfTablesWrong : ChangeSpec := { name := "fnDifferencesOfTables", fn := fun _ => fun
  | [d1, d2] => { results := [.lit (.bool false)], args := [d1, d2] }
  | _ => none }
def FnDifferencesOfTablesWrongFalsely : Prop := fnDifferencesOfTablesRow.holds Try.pinned (OpenSpec.ofChange fnDifferencesOfTablesWrong)

/-- 'laws.FnPrintsNeverDeny': WHATEVER THE INPUT: true; the input reads as it did. -/
def fnPrintsNeverDenySpec : ChangeSpec := { name := "fnPrintsNeverDeny", fn := fun _ => fun
  | [d1, d2] => { results := [.lit (.bool true)], args := [d1, d2] }
  | _ => none }
def fnPrintsNeverDenyRow : OpenClaim := { program := "ytmehagedoaopeaa", sum := "280116e44134479386f18fae8dd4c5652723d829a2569692c81390f24b5a8933", func := "loop.example/g01097/laws.FnPrintsNeverDeny", spec := "fnPrintsNeverDeny", unfollowed := true, recurses := true, apart := false }
def FnPrintsNeverDenySaid : Prop := fnPrintsNeverDenyRow.holds Try.pinned (OpenSpec.ofChange fnPrintsNeverDenySpec)

/-- ITS FALSE NEIGHBOUR: 'it returns false'. Refute it at one input. -/
def fnPrintsNeverDenyWrong : ChangeSpec := { name := "fnPrintsNeverDeny", fn := fun _ => fun
  | [d1, d2] => { results := [.lit (.bool false)], args := [d1, d2] }
  | _ => none }
def FnPrintsNeverDenyWrongFalsely : Prop := fnPrintsNeverDenyRow.holds Try.pinned (OpenSpec.ofChange fnPrintsNeverDenyWrong)

/- THE SECOND FORM. 'bulk': how many values and letters a reading holds, each counted each time it is reached (what is shared counts as often as it is met; a slice's spare places count too). A statement '..UptoSaid' is the law's where the arguments, and the package variables that the reading takes, are together of bulk at most 1048576: NARROWER than '..Said'. Prove '..Said' where nothing that the law and all that it calls make is longer than what came in: it says more and counts as full. Else prove '..UptoSaid'. A law counts once. -/
mutual
def uptoBulk {H : Type} : DataW H → Nat
  | .lit (.string bytes) => bytes.length + 1
  | .lit _ => 1
  | .nil => 1
  | .ptr d => uptoBulk d + 1
  | .slice elems spare => uptoBulkAll elems + uptoBulkAll spare + 1
  | .agg parts => uptoBulkAll parts + 1
  | .iface _ d => uptoBulk d + 1
  | .map entries => uptoBulkEntries entries + 1
  | .held _ => 1
def uptoBulkAll {H : Type} : List (DataW H) → Nat
  | [] => 0
  | d :: r => uptoBulk d + uptoBulkAll r
def uptoBulkEntries {H : Type} : List (Lit × DataW H) → Nat
  | [] => 0
  | x :: r => uptoBulkEntry x + uptoBulkEntries r
def uptoBulkEntry {H : Type} : Lit × DataW H → Nat
  | (.string bytes, d) => bytes.length + uptoBulk d + 1
  | (_, d) => uptoBulk d + 1
 end
def uptoSmall : (H : Type) → List (DataW H) → Bool := fun _ ds => decide (uptoBulkAll ds ≤ 1048576)
def OpenSpec.upto (s : _root_.Go.ChangeSpec) : _root_.Go.OpenSpec := { _root_.Go.OpenSpec.ofChange s with cond := some uptoSmall }

/-- 'laws.FnForeignKeysAreLed', WHERE WHAT IT READS IS OF BULK AT MOST 1048576: true; the input reads as it did. -/
def fnForeignKeysAreLedUptoRow : OpenClaim := { program := "ytmehagedoaopeaa", sum := "280116e44134479386f18fae8dd4c5652723d829a2569692c81390f24b5a8933", func := "loop.example/g01097/laws.FnForeignKeysAreLed", spec := "fnForeignKeysAreLed", unfollowed := true, recurses := true, apart := false, narrowed := true }
def FnForeignKeysAreLedUptoSaid : Prop := fnForeignKeysAreLedUptoRow.holds Try.pinned (OpenSpec.upto fnForeignKeysAreLedSpec)

/-- 'laws.FnOrderedKeepsOrder', WHERE WHAT IT READS IS OF BULK AT MOST 1048576: true; the input reads as it did. -/
def fnOrderedKeepsOrderUptoRow : OpenClaim := { program := "ytmehagedoaopeaa", sum := "280116e44134479386f18fae8dd4c5652723d829a2569692c81390f24b5a8933", func := "loop.example/g01097/laws.FnOrderedKeepsOrder", spec := "fnOrderedKeepsOrder", unfollowed := true, recurses := true, apart := false, narrowed := true }
def FnOrderedKeepsOrderUptoSaid : Prop := fnOrderedKeepsOrderUptoRow.holds Try.pinned (OpenSpec.upto fnOrderedKeepsOrderSpec)

/-- 'laws.FnDisplacedIsPerfect', WHERE WHAT IT READS IS OF BULK AT MOST 1048576: true; the input reads as it did. -/
def fnDisplacedIsPerfectUptoRow : OpenClaim := { program := "ytmehagedoaopeaa", sum := "280116e44134479386f18fae8dd4c5652723d829a2569692c81390f24b5a8933", func := "loop.example/g01097/laws.FnDisplacedIsPerfect", spec := "fnDisplacedIsPerfect", unfollowed := true, recurses := true, apart := false, narrowed := true }
def FnDisplacedIsPerfectUptoSaid : Prop := fnDisplacedIsPerfectUptoRow.holds Try.pinned (OpenSpec.upto fnDisplacedIsPerfectSpec)

/-- 'laws.FnDifferencesOfTables', WHERE WHAT IT READS IS OF BULK AT MOST 1048576: true; the input reads as it did. -/
def fnDifferencesOfTablesUptoRow : OpenClaim := { program := "ytmehagedoaopeaa", sum := "280116e44134479386f18fae8dd4c5652723d829a2569692c81390f24b5a8933", func := "loop.example/g01097/laws.FnDifferencesOfTables", spec := "fnDifferencesOfTables", unfollowed := true, recurses := true, apart := false, narrowed := true }
def FnDifferencesOfTablesUptoSaid : Prop := fnDifferencesOfTablesUptoRow.holds Try.pinned (OpenSpec.upto fnDifferencesOfTablesSpec)

/-- 'laws.FnPrintsNeverDeny', WHERE WHAT IT READS IS OF BULK AT MOST 1048576: true; the input reads as it did. -/
def fnPrintsNeverDenyUptoRow : OpenClaim := { program := "ytmehagedoaopeaa", sum := "280116e44134479386f18fae8dd4c5652723d829a2569692c81390f24b5a8933", func := "loop.example/g01097/laws.FnPrintsNeverDeny", spec := "fnPrintsNeverDeny", unfollowed := true, recurses := true, apart := false, narrowed := true }
def FnPrintsNeverDenyUptoSaid : Prop := fnPrintsNeverDenyUptoRow.holds Try.pinned (OpenSpec.upto fnPrintsNeverDenySpec)

end Rows
end Go.Proofs.Ytmehagedoaopeaa
