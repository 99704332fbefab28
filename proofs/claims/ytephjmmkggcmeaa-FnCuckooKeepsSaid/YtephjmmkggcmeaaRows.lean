/-
  No cell of these rows narrows 'for every input' (looked for: loops, veiled, ifaces, maps, wideKeys, modest, calm, conditions, laid).
  DERIVED. THE GIVEN ROWS OF THIS SEAT. 8 by the template 'for every input the law returns true; each argument reads behind the call as it read before'; 0 by the template 'total and deterministic' (their statements: YtephjmmkggcmeaaTotals.lean).
  GIVEN WITH THE SEED: the statements are not yours to turn. If you find one false, say at which input.
  Laid BY PROGRAM, IN A SANDBOX (cutbox-rows.mjs): the forced cells as the released guide's own fill.sh prints them over the translation 0d7e9a4e9a973fa6… (all of the seat's roots in one cut). By AI agents, Wed Nov 11 2026. No macro, syntax, notation, axiom, sorry.
-/
import Derived.Test.YtephjmmkggcmeaaChecked
import GoSem.Claim
import GoSem.ClaimJoined
import GoSem.ClaimMapViews
import Derived.JoinedTies
import Derived.KernelRfl
namespace Go.Proofs.Ytephjmmkggcmeaa
/- THE CELL 'sum', in the pinned program and in every row, IS THE sha256 OF THE DUMP (.gsa) THAT YtephjmmkggcmeaaProg.lean LOADS. Nothing in Lean hashes anything: it is a label: what it is worth is what the hold of that sum in a sandbox is worth. -/
noncomputable def Try.pinned : Pinned := { name := "ytephjmmkggcmeaa", sum := "0d7e9a4e9a973fa66a7b219ebf8736e5d63329ead5addf027b37cc0933739676", checked := Try.checked }
namespace Rows
def none {H : Type} : Left H := { results := [], args := [] }

/-- 'laws.FnGroupsOfKeys': WHATEVER THE INPUT: true; the input reads as it did. -/
def fnGroupsOfKeysSpec : ChangeSpec := { name := "fnGroupsOfKeys", fn := fun _ => fun
  | [d1, d2] => { results := [.lit (.bool true)], args := [d1, d2] }
  | _ => none }
def fnGroupsOfKeysRow : OpenClaim := { program := "ytephjmmkggcmeaa", sum := "0d7e9a4e9a973fa66a7b219ebf8736e5d63329ead5addf027b37cc0933739676", func := "loop.example/g01097/laws.FnGroupsOfKeys", spec := "fnGroupsOfKeys", unfollowed := true, recurses := true, apart := false }
def FnGroupsOfKeysSaid : Prop := fnGroupsOfKeysRow.holds Try.pinned (OpenSpec.ofChange fnGroupsOfKeysSpec)

/-- ITS FALSE NEIGHBOUR: 'it returns false'. Refute it at one input. -/
def fnGroupsOfKeysWrong : ChangeSpec := { name := "fnGroupsOfKeys", fn := fun _ => fun
  | [d1, d2] => { results := [.lit (.bool false)], args := [d1, d2] }
  | _ => none }
def FnGroupsOfKeysWrongFalsely : Prop := fnGroupsOfKeysRow.holds Try.pinned (OpenSpec.ofChange fnGroupsOfKeysWrong)

/-- 'laws.FnLeastForCells': WHATEVER THE INPUT: true; the input reads as it did. -/
def fnLeastForCellsSpec : ChangeSpec := { name := "fnLeastForCells", fn := fun _ => fun
  | [d1, d2] => { results := [.lit (.bool true)], args := [d1, d2] }
  | _ => none }
def fnLeastForCellsRow : OpenClaim := { program := "ytephjmmkggcmeaa", sum := "0d7e9a4e9a973fa66a7b219ebf8736e5d63329ead5addf027b37cc0933739676", func := "loop.example/g01097/laws.FnLeastForCells", spec := "fnLeastForCells", unfollowed := true, recurses := true, apart := false }
def FnLeastForCellsSaid : Prop := fnLeastForCellsRow.holds Try.pinned (OpenSpec.ofChange fnLeastForCellsSpec)

/-- ITS FALSE NEIGHBOUR: 'it returns false'. Refute it at one input. -/
def fnLeastForCellsWrong : ChangeSpec := { name := "fnLeastForCells", fn := fun _ => fun
  | [d1, d2] => { results := [.lit (.bool false)], args := [d1, d2] }
  | _ => none }
def FnLeastForCellsWrongFalsely : Prop := fnLeastForCellsRow.holds Try.pinned (OpenSpec.ofChange fnLeastForCellsWrong)

/-- 'laws.FnMovesKeepPlacements': WHATEVER THE INPUT: true; the input reads as it did. -/
def fnMovesKeepPlacementsSpec : ChangeSpec := { name := "fnMovesKeepPlacements", fn := fun _ => fun
  | [d1, d2] => { results := [.lit (.bool true)], args := [d1, d2] }
  | _ => none }
def fnMovesKeepPlacementsRow : OpenClaim := { program := "ytephjmmkggcmeaa", sum := "0d7e9a4e9a973fa66a7b219ebf8736e5d63329ead5addf027b37cc0933739676", func := "loop.example/g01097/laws.FnMovesKeepPlacements", spec := "fnMovesKeepPlacements", apart := false }
def FnMovesKeepPlacementsSaid : Prop := fnMovesKeepPlacementsRow.holds Try.pinned (OpenSpec.ofChange fnMovesKeepPlacementsSpec)

/-- ITS FALSE NEIGHBOUR: 'it returns false'. Refute it at one input. -/
def fnMovesKeepPlacementsWrong : ChangeSpec := { name := "fnMovesKeepPlacements", fn := fun _ => fun
  | [d1, d2] => { results := [.lit (.bool false)], args := [d1, d2] }
  | _ => none }
def FnMovesKeepPlacementsWrongFalsely : Prop := fnMovesKeepPlacementsRow.holds Try.pinned (OpenSpec.ofChange fnMovesKeepPlacementsWrong)

/-- 'laws.FnPlacementOrCrowd': WHATEVER THE INPUT: true; the input reads as it did. -/
def fnPlacementOrCrowdSpec : ChangeSpec := { name := "fnPlacementOrCrowd", fn := fun _ => fun
  | [d1, d2] => { results := [.lit (.bool true)], args := [d1, d2] }
  | _ => none }
def fnPlacementOrCrowdRow : OpenClaim := { program := "ytephjmmkggcmeaa", sum := "0d7e9a4e9a973fa66a7b219ebf8736e5d63329ead5addf027b37cc0933739676", func := "loop.example/g01097/laws.FnPlacementOrCrowd", spec := "fnPlacementOrCrowd", unfollowed := true, recurses := true, apart := false }
def FnPlacementOrCrowdSaid : Prop := fnPlacementOrCrowdRow.holds Try.pinned (OpenSpec.ofChange fnPlacementOrCrowdSpec)

/-- ITS FALSE NEIGHBOUR: 'it returns false'. Refute it at one input. -/
def fnPlacementOrCrowdWrong : ChangeSpec := { name := "fnPlacementOrCrowd", fn := fun _ => fun
  | [d1, d2] => { results := [.lit (.bool false)], args := [d1, d2] }
  | _ => none }
def FnPlacementOrCrowdWrongFalsely : Prop := fnPlacementOrCrowdRow.holds Try.pinned (OpenSpec.ofChange fnPlacementOrCrowdWrong)

/-- 'laws.FnCheckersOfCells': WHATEVER THE INPUT: true; the input reads as it did. -/
def fnCheckersOfCellsSpec : ChangeSpec := { name := "fnCheckersOfCells", fn := fun _ => fun
  | [d1, d2] => { results := [.lit (.bool true)], args := [d1, d2] }
  | _ => none }
def fnCheckersOfCellsRow : OpenClaim := { program := "ytephjmmkggcmeaa", sum := "0d7e9a4e9a973fa66a7b219ebf8736e5d63329ead5addf027b37cc0933739676", func := "loop.example/g01097/laws.FnCheckersOfCells", spec := "fnCheckersOfCells", unfollowed := true, recurses := true, apart := false }
def FnCheckersOfCellsSaid : Prop := fnCheckersOfCellsRow.holds Try.pinned (OpenSpec.ofChange fnCheckersOfCellsSpec)

/-- ITS FALSE NEIGHBOUR: 'it returns false'. Refute it at one input. -/
def fnCheckersOfCellsWrong : ChangeSpec := { name := "fnCheckersOfCells", fn := fun _ => fun
  | [d1, d2] => { results := [.lit (.bool false)], args := [d1, d2] }
  | _ => none }
def FnCheckersOfCellsWrongFalsely : Prop := fnCheckersOfCellsRow.holds Try.pinned (OpenSpec.ofChange fnCheckersOfCellsWrong)

/-- 'laws.FnCuckooFinds': WHATEVER THE INPUT: true; the input reads as it did. -/
def fnCuckooFindsSpec : ChangeSpec := { name := "fnCuckooFinds", fn := fun _ => fun
  | [d1, d2] => { results := [.lit (.bool true)], args := [d1, d2] }
  | _ => none }
def fnCuckooFindsRow : OpenClaim := { program := "ytephjmmkggcmeaa", sum := "0d7e9a4e9a973fa66a7b219ebf8736e5d63329ead5addf027b37cc0933739676", func := "loop.example/g01097/laws.FnCuckooFinds", spec := "fnCuckooFinds", unfollowed := true, recurses := true, apart := false }
def FnCuckooFindsSaid : Prop := fnCuckooFindsRow.holds Try.pinned (OpenSpec.ofChange fnCuckooFindsSpec)

/-- ITS FALSE NEIGHBOUR: 'it returns false'. Refute it at one input. -/
def fnCuckooFindsWrong : ChangeSpec := { name := "fnCuckooFinds", fn := fun _ => fun
  | [d1, d2] => { results := [.lit (.bool false)], args := [d1, d2] }
  | _ => none }
def FnCuckooFindsWrongFalsely : Prop := fnCuckooFindsRow.holds Try.pinned (OpenSpec.ofChange fnCuckooFindsWrong)

/-- 'laws.FnCuckooBuilt': WHATEVER THE INPUT: true; the input reads as it did. -/
def fnCuckooBuiltSpec : ChangeSpec := { name := "fnCuckooBuilt", fn := fun _ => fun
  | [d1, d2] => { results := [.lit (.bool true)], args := [d1, d2] }
  | _ => none }
def fnCuckooBuiltRow : OpenClaim := { program := "ytephjmmkggcmeaa", sum := "0d7e9a4e9a973fa66a7b219ebf8736e5d63329ead5addf027b37cc0933739676", func := "loop.example/g01097/laws.FnCuckooBuilt", spec := "fnCuckooBuilt", inPlace := ["slices.overlaps[string]"], unfollowed := true, recurses := true, apart := false }
def FnCuckooBuiltSaid : Prop := fnCuckooBuiltRow.holds Try.pinned (OpenSpec.ofChange fnCuckooBuiltSpec)

/-- ITS FALSE NEIGHBOUR: 'it returns false'. Refute it at one input. -/
def fnCuckooBuiltWrong : ChangeSpec := { name := "fnCuckooBuilt", fn := fun _ => fun
  | [d1, d2] => { results := [.lit (.bool false)], args := [d1, d2] }
  | _ => none }
def FnCuckooBuiltWrongFalsely : Prop := fnCuckooBuiltRow.holds Try.pinned (OpenSpec.ofChange fnCuckooBuiltWrong)

/-- 'laws.FnCuckooKeeps': WHATEVER THE INPUT: true; the input reads as it did. -/
def fnCuckooKeepsSpec : ChangeSpec := { name := "fnCuckooKeeps", fn := fun _ => fun
  | [d1, d2] => { results := [.lit (.bool true)], args := [d1, d2] }
  | _ => none }
def fnCuckooKeepsRow : OpenClaim := { program := "ytephjmmkggcmeaa", sum := "0d7e9a4e9a973fa66a7b219ebf8736e5d63329ead5addf027b37cc0933739676", func := "loop.example/g01097/laws.FnCuckooKeeps", spec := "fnCuckooKeeps", inPlace := ["slices.overlaps[string]"], unfollowed := true, recurses := true, apart := false }
def FnCuckooKeepsSaid : Prop := fnCuckooKeepsRow.holds Try.pinned (OpenSpec.ofChange fnCuckooKeepsSpec)

/-- ITS FALSE NEIGHBOUR: 'it returns false'. Refute it at one input. -/
def fnCuckooKeepsWrong : ChangeSpec := { name := "fnCuckooKeeps", fn := fun _ => fun
  | [d1, d2] => { results := [.lit (.bool false)], args := [d1, d2] }
  | _ => none }
def FnCuckooKeepsWrongFalsely : Prop := fnCuckooKeepsRow.holds Try.pinned (OpenSpec.ofChange fnCuckooKeepsWrong)

/- THE SECOND FORM. 'bulk': how many values and letters a reading holds, each counted each time it is reached (what is shared counts as often as it is met; a slice's spare places count too). A statement '..UptoSaid' is the law's where the arguments, and the package variables that the reading takes, are together of bulk at most 1048576: NARROWER than '..Said'. Prove '..Said' where nothing that the law and all that it calls make is longer than what came in: it says more and counts as full. Else prove '..UptoSaid'. A law counts once. -/
mutual
def uptoBulk {H : Type} : DataW H → Nat
  | .lit (.string bytes) => bytes.length + 1
  | .lit _ => 1
  | .nil => 1
  | .ptr d => uptoBulk d + 1
  | .slice elems spare => uptoBulkAll elems + uptoBulkAll spare + 1
  | .agg parts => uptoBulkAll parts + 1
  | .iface _ d => uptoBulk d + 1
  | .map entries => uptoBulkEntries entries + 1
  | .held _ => 1
def uptoBulkAll {H : Type} : List (DataW H) → Nat
  | [] => 0
  | d :: r => uptoBulk d + uptoBulkAll r
def uptoBulkEntries {H : Type} : List (Lit × DataW H) → Nat
  | [] => 0
  | x :: r => uptoBulkEntry x + uptoBulkEntries r
def uptoBulkEntry {H : Type} : Lit × DataW H → Nat
  | (.string bytes, d) => bytes.length + uptoBulk d + 1
  | (_, d) => uptoBulk d + 1
 end
def uptoSmall : (H : Type) → List (DataW H) → Bool := fun _ ds => decide (uptoBulkAll ds ≤ 1048576)
def OpenSpec.upto (s : _root_.Go.ChangeSpec) : _root_.Go.OpenSpec := { _root_.Go.OpenSpec.ofChange s with cond := some uptoSmall }

/-- 'laws.FnGroupsOfKeys', WHERE WHAT IT READS IS OF BULK AT MOST 1048576: true; the input reads as it did. -/
def fnGroupsOfKeysUptoRow : OpenClaim := { program := "ytephjmmkggcmeaa", sum := "0d7e9a4e9a973fa66a7b219ebf8736e5d63329ead5addf027b37cc0933739676", func := "loop.example/g01097/laws.FnGroupsOfKeys", spec := "fnGroupsOfKeys", unfollowed := true, recurses := true, apart := false, narrowed := true }
def FnGroupsOfKeysUptoSaid : Prop := fnGroupsOfKeysUptoRow.holds Try.pinned (OpenSpec.upto fnGroupsOfKeysSpec)

/-- 'laws.FnLeastForCells', WHERE WHAT IT READS IS OF BULK AT MOST 1048576: true; the input reads as it did. -/
def fnLeastForCellsUptoRow : OpenClaim := { program := "ytephjmmkggcmeaa", sum := "0d7e9a4e9a973fa66a7b219ebf8736e5d63329ead5addf027b37cc0933739676", func := "loop.example/g01097/laws.FnLeastForCells", spec := "fnLeastForCells", unfollowed := true, recurses := true, apart := false, narrowed := true }
def FnLeastForCellsUptoSaid : Prop := fnLeastForCellsUptoRow.holds Try.pinned (OpenSpec.upto fnLeastForCellsSpec)

/-- 'laws.FnMovesKeepPlacements', WHERE WHAT IT READS IS OF BULK AT MOST 1048576: true; the input reads as it did. -/
def fnMovesKeepPlacementsUptoRow : OpenClaim := { program := "ytephjmmkggcmeaa", sum := "0d7e9a4e9a973fa66a7b219ebf8736e5d63329ead5addf027b37cc0933739676", func := "loop.example/g01097/laws.FnMovesKeepPlacements", spec := "fnMovesKeepPlacements", apart := false, narrowed := true }
def FnMovesKeepPlacementsUptoSaid : Prop := fnMovesKeepPlacementsUptoRow.holds Try.pinned (OpenSpec.upto fnMovesKeepPlacementsSpec)

/-- 'laws.FnPlacementOrCrowd', WHERE WHAT IT READS IS OF BULK AT MOST 1048576: true; the input reads as it did. -/
def fnPlacementOrCrowdUptoRow : OpenClaim := { program := "ytephjmmkggcmeaa", sum := "0d7e9a4e9a973fa66a7b219ebf8736e5d63329ead5addf027b37cc0933739676", func := "loop.example/g01097/laws.FnPlacementOrCrowd", spec := "fnPlacementOrCrowd", unfollowed := true, recurses := true, apart := false, narrowed := true }
def FnPlacementOrCrowdUptoSaid : Prop := fnPlacementOrCrowdUptoRow.holds Try.pinned (OpenSpec.upto fnPlacementOrCrowdSpec)

/-- 'laws.FnCheckersOfCells', WHERE WHAT IT READS IS OF BULK AT MOST 1048576: true; the input reads as it did. -/
def fnCheckersOfCellsUptoRow : OpenClaim := { program := "ytephjmmkggcmeaa", sum := "0d7e9a4e9a973fa66a7b219ebf8736e5d63329ead5addf027b37cc0933739676", func := "loop.example/g01097/laws.FnCheckersOfCells", spec := "fnCheckersOfCells", unfollowed := true, recurses := true, apart := false, narrowed := true }
def FnCheckersOfCellsUptoSaid : Prop := fnCheckersOfCellsUptoRow.holds Try.pinned (OpenSpec.upto fnCheckersOfCellsSpec)

/-- 'laws.FnCuckooFinds', WHERE WHAT IT READS IS OF BULK AT MOST 1048576: true; the input reads as it did. -/
def fnCuckooFindsUptoRow : OpenClaim := { program := "ytephjmmkggcmeaa", sum := "0d7e9a4e9a973fa66a7b219ebf8736e5d63329ead5addf027b37cc0933739676", func := "loop.example/g01097/laws.FnCuckooFinds", spec := "fnCuckooFinds", unfollowed := true, recurses := true, apart := false, narrowed := true }
def FnCuckooFindsUptoSaid : Prop := fnCuckooFindsUptoRow.holds Try.pinned (OpenSpec.upto fnCuckooFindsSpec)

/-- 'laws.FnCuckooBuilt', WHERE WHAT IT READS IS OF BULK AT MOST 1048576: true; the input reads as it did. -/
def fnCuckooBuiltUptoRow : OpenClaim := { program := "ytephjmmkggcmeaa", sum := "0d7e9a4e9a973fa66a7b219ebf8736e5d63329ead5addf027b37cc0933739676", func := "loop.example/g01097/laws.FnCuckooBuilt", spec := "fnCuckooBuilt", inPlace := ["slices.overlaps[string]"], unfollowed := true, recurses := true, apart := false, narrowed := true }
def FnCuckooBuiltUptoSaid : Prop := fnCuckooBuiltUptoRow.holds Try.pinned (OpenSpec.upto fnCuckooBuiltSpec)

/-- 'laws.FnCuckooKeeps', WHERE WHAT IT READS IS OF BULK AT MOST 1048576: true; the input reads as it did. -/
def fnCuckooKeepsUptoRow : OpenClaim := { program := "ytephjmmkggcmeaa", sum := "0d7e9a4e9a973fa66a7b219ebf8736e5d63329ead5addf027b37cc0933739676", func := "loop.example/g01097/laws.FnCuckooKeeps", spec := "fnCuckooKeeps", inPlace := ["slices.overlaps[string]"], unfollowed := true, recurses := true, apart := false, narrowed := true }
def FnCuckooKeepsUptoSaid : Prop := fnCuckooKeepsUptoRow.holds Try.pinned (OpenSpec.upto fnCuckooKeepsSpec)

end Rows
end Go.Proofs.Ytephjmmkggcmeaa
