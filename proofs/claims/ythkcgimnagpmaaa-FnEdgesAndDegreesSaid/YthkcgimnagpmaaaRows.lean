/-
  No cell of these rows narrows 'for every input' (looked for: loops, veiled, ifaces, maps, wideKeys, modest, calm, conditions, laid).
  DERIVED. THE GIVEN ROWS OF THIS SEAT. 9 by the template 'for every input the law returns true; each argument reads behind the call as it read before'; 0 by the template 'total and deterministic' (their statements: YthkcgimnagpmaaaTotals.lean).
  GIVEN WITH THE SEED: the statements are not yours to turn. If you find one false, say at which input.
  Laid BY PROGRAM, IN A SANDBOX (cutbox-rows.mjs): the forced cells as the released guide's own fill.sh prints them over the translation ca0177a270220291… (all of the seat's roots in one cut). By AI agents, Wed Nov 11 2026. No macro, syntax, notation, axiom, sorry.
-/
import Derived.Test.YthkcgimnagpmaaaChecked
import GoSem.Claim
import GoSem.ClaimJoined
import GoSem.ClaimMapViews
import Derived.JoinedTies
import Derived.KernelRfl
namespace Go.Proofs.Ythkcgimnagpmaaa
/- THE CELL 'sum', in the pinned program and in every row, IS THE sha256 OF THE DUMP (.gsa) THAT YthkcgimnagpmaaaProg.lean LOADS. Nothing in Lean hashes anything: it is a label: what it is worth is what the hold of that sum in a sandbox is worth. -/
noncomputable def Try.pinned : Pinned := { name := "ythkcgimnagpmaaa", sum := "ca0177a27022029122414d327aec32ac29148c8608016a69891cb5785624e4a7", checked := Try.checked }
namespace Rows
def none {H : Type} : Left H := { results := [], args := [] }

/-- 'laws.FnPlainSeedsAreFirst': WHATEVER THE INPUT: true; the input reads as it did. -/
def fnPlainSeedsAreFirstSpec : ChangeSpec := { name := "fnPlainSeedsAreFirst", fn := fun _ => fun
  | [d1, d2] => { results := [.lit (.bool true)], args := [d1, d2] }
  | _ => none }
def fnPlainSeedsAreFirstRow : OpenClaim := { program := "ythkcgimnagpmaaa", sum := "ca0177a27022029122414d327aec32ac29148c8608016a69891cb5785624e4a7", func := "loop.example/g01097/laws.FnPlainSeedsAreFirst", spec := "fnPlainSeedsAreFirst", unfollowed := true, recurses := true, apart := false }
def FnPlainSeedsAreFirstSaid : Prop := fnPlainSeedsAreFirstRow.holds Try.pinned (OpenSpec.ofChange fnPlainSeedsAreFirstSpec)

/-- ITS FALSE NEIGHBOUR: 'it returns false'. Refute it at one input. -/
def fnPlainSeedsAreFirstWrong : ChangeSpec := { name := "fnPlainSeedsAreFirst", fn := fun _ => fun
  | [d1, d2] => { results := [.lit (.bool false)], args := [d1, d2] }
  | _ => none }
def FnPlainSeedsAreFirstWrongFalsely : Prop := fnPlainSeedsAreFirstRow.holds Try.pinned (OpenSpec.ofChange fnPlainSeedsAreFirstWrong)

/-- 'laws.FnLayersPeel': WHATEVER THE INPUT: true; the input reads as it did. -/
def fnLayersPeelSpec : ChangeSpec := { name := "fnLayersPeel", fn := fun _ => fun
  | [d1, d2] => { results := [.lit (.bool true)], args := [d1, d2] }
  | _ => none }
def fnLayersPeelRow : OpenClaim := { program := "ythkcgimnagpmaaa", sum := "ca0177a27022029122414d327aec32ac29148c8608016a69891cb5785624e4a7", func := "loop.example/g01097/laws.FnLayersPeel", spec := "fnLayersPeel", unfollowed := true, recurses := true, apart := false }
def FnLayersPeelSaid : Prop := fnLayersPeelRow.holds Try.pinned (OpenSpec.ofChange fnLayersPeelSpec)

/-- ITS FALSE NEIGHBOUR: 'it returns false'. Refute it at one input. -/
def fnLayersPeelWrong : ChangeSpec := { name := "fnLayersPeel", fn := fun _ => fun
  | [d1, d2] => { results := [.lit (.bool false)], args := [d1, d2] }
  | _ => none }
def FnLayersPeelWrongFalsely : Prop := fnLayersPeelRow.holds Try.pinned (OpenSpec.ofChange fnLayersPeelWrong)

/-- 'laws.FnPeelingInAnyOrder': WHATEVER THE INPUT: true; the input reads as it did. -/
def fnPeelingInAnyOrderSpec : ChangeSpec := { name := "fnPeelingInAnyOrder", fn := fun _ => fun
  | [d1, d2] => { results := [.lit (.bool true)], args := [d1, d2] }
  | _ => none }
def fnPeelingInAnyOrderRow : OpenClaim := { program := "ythkcgimnagpmaaa", sum := "ca0177a27022029122414d327aec32ac29148c8608016a69891cb5785624e4a7", func := "loop.example/g01097/laws.FnPeelingInAnyOrder", spec := "fnPeelingInAnyOrder", unfollowed := true, recurses := true, apart := false }
def FnPeelingInAnyOrderSaid : Prop := fnPeelingInAnyOrderRow.holds Try.pinned (OpenSpec.ofChange fnPeelingInAnyOrderSpec)

/-- ITS FALSE NEIGHBOUR: 'it returns false'. Refute it at one input. -/
def fnPeelingInAnyOrderWrong : ChangeSpec := { name := "fnPeelingInAnyOrder", fn := fun _ => fun
  | [d1, d2] => { results := [.lit (.bool false)], args := [d1, d2] }
  | _ => none }
def FnPeelingInAnyOrderWrongFalsely : Prop := fnPeelingInAnyOrderRow.holds Try.pinned (OpenSpec.ofChange fnPeelingInAnyOrderWrong)

/-- 'laws.FnEdgesAndDegrees': WHATEVER THE INPUT: true; the input reads as it did. -/
def fnEdgesAndDegreesSpec : ChangeSpec := { name := "fnEdgesAndDegrees", fn := fun _ => fun
  | [d1, d2] => { results := [.lit (.bool true)], args := [d1, d2] }
  | _ => none }
def fnEdgesAndDegreesRow : OpenClaim := { program := "ythkcgimnagpmaaa", sum := "ca0177a27022029122414d327aec32ac29148c8608016a69891cb5785624e4a7", func := "loop.example/g01097/laws.FnEdgesAndDegrees", spec := "fnEdgesAndDegrees", unfollowed := true, recurses := true, apart := false }
def FnEdgesAndDegreesSaid : Prop := fnEdgesAndDegreesRow.holds Try.pinned (OpenSpec.ofChange fnEdgesAndDegreesSpec)

/-- ITS FALSE NEIGHBOUR: 'it returns false'. Refute it at one input. -/
def fnEdgesAndDegreesWrong : ChangeSpec := { name := "fnEdgesAndDegrees", fn := fun _ => fun
  | [d1, d2] => { results := [.lit (.bool false)], args := [d1, d2] }
  | _ => none }
def FnEdgesAndDegreesWrongFalsely : Prop := fnEdgesAndDegreesRow.holds Try.pinned (OpenSpec.ofChange fnEdgesAndDegreesWrong)

/-- 'laws.FnLeastSegments': WHATEVER THE INPUT: true; the input reads as it did. -/
def fnLeastSegmentsSpec : ChangeSpec := { name := "fnLeastSegments", fn := fun _ => fun
  | [d1, d2] => { results := [.lit (.bool true)], args := [d1, d2] }
  | _ => none }
def fnLeastSegmentsRow : OpenClaim := { program := "ythkcgimnagpmaaa", sum := "ca0177a27022029122414d327aec32ac29148c8608016a69891cb5785624e4a7", func := "loop.example/g01097/laws.FnLeastSegments", spec := "fnLeastSegments", unfollowed := true, recurses := true, apart := false }
def FnLeastSegmentsSaid : Prop := fnLeastSegmentsRow.holds Try.pinned (OpenSpec.ofChange fnLeastSegmentsSpec)

/-- ITS FALSE NEIGHBOUR: 'it returns false'. Refute it at one input. -/
def fnLeastSegmentsWrong : ChangeSpec := { name := "fnLeastSegments", fn := fun _ => fun
  | [d1, d2] => { results := [.lit (.bool false)], args := [d1, d2] }
  | _ => none }
def FnLeastSegmentsWrongFalsely : Prop := fnLeastSegmentsRow.holds Try.pinned (OpenSpec.ofChange fnLeastSegmentsWrong)

/-- 'laws.FnOrderOrCore': WHATEVER THE INPUT: true; the input reads as it did. -/
def fnOrderOrCoreSpec : ChangeSpec := { name := "fnOrderOrCore", fn := fun _ => fun
  | [d1, d2] => { results := [.lit (.bool true)], args := [d1, d2] }
  | _ => none }
def fnOrderOrCoreRow : OpenClaim := { program := "ythkcgimnagpmaaa", sum := "ca0177a27022029122414d327aec32ac29148c8608016a69891cb5785624e4a7", func := "loop.example/g01097/laws.FnOrderOrCore", spec := "fnOrderOrCore", unfollowed := true, recurses := true, apart := false }
def FnOrderOrCoreSaid : Prop := fnOrderOrCoreRow.holds Try.pinned (OpenSpec.ofChange fnOrderOrCoreSpec)

/-- ITS FALSE NEIGHBOUR: 'it returns false'. Refute it at one input. -/
def fnOrderOrCoreWrong : ChangeSpec := { name := "fnOrderOrCore", fn := fun _ => fun
  | [d1, d2] => { results := [.lit (.bool false)], args := [d1, d2] }
  | _ => none }
def FnOrderOrCoreWrongFalsely : Prop := fnOrderOrCoreRow.holds Try.pinned (OpenSpec.ofChange fnOrderOrCoreWrong)

/-- 'laws.FnFirstSeedPeels': WHATEVER THE INPUT: true; the input reads as it did. -/
def fnFirstSeedPeelsSpec : ChangeSpec := { name := "fnFirstSeedPeels", fn := fun _ => fun
  | [d1, d2] => { results := [.lit (.bool true)], args := [d1, d2] }
  | _ => none }
def fnFirstSeedPeelsRow : OpenClaim := { program := "ythkcgimnagpmaaa", sum := "ca0177a27022029122414d327aec32ac29148c8608016a69891cb5785624e4a7", func := "loop.example/g01097/laws.FnFirstSeedPeels", spec := "fnFirstSeedPeels", unfollowed := true, recurses := true, apart := false }
def FnFirstSeedPeelsSaid : Prop := fnFirstSeedPeelsRow.holds Try.pinned (OpenSpec.ofChange fnFirstSeedPeelsSpec)

/-- ITS FALSE NEIGHBOUR: 'it returns false'. Refute it at one input. -/
def fnFirstSeedPeelsWrong : ChangeSpec := { name := "fnFirstSeedPeels", fn := fun _ => fun
  | [d1, d2] => { results := [.lit (.bool false)], args := [d1, d2] }
  | _ => none }
def FnFirstSeedPeelsWrongFalsely : Prop := fnFirstSeedPeelsRow.holds Try.pinned (OpenSpec.ofChange fnFirstSeedPeelsWrong)

/-- 'laws.FnProofsExclude': WHATEVER THE INPUT: true; the input reads as it did. -/
def fnProofsExcludeSpec : ChangeSpec := { name := "fnProofsExclude", fn := fun _ => fun
  | [d1, d2] => { results := [.lit (.bool true)], args := [d1, d2] }
  | _ => none }
def fnProofsExcludeRow : OpenClaim := { program := "ythkcgimnagpmaaa", sum := "ca0177a27022029122414d327aec32ac29148c8608016a69891cb5785624e4a7", func := "loop.example/g01097/laws.FnProofsExclude", spec := "fnProofsExclude", unfollowed := true, recurses := true, apart := false }
def FnProofsExcludeSaid : Prop := fnProofsExcludeRow.holds Try.pinned (OpenSpec.ofChange fnProofsExcludeSpec)

/-- ITS FALSE NEIGHBOUR: 'it returns false'. Refute it at one input. -/
def fnProofsExcludeWrong : ChangeSpec := { name := "fnProofsExclude", fn := fun _ => fun
  | [d1, d2] => { results := [.lit (.bool false)], args := [d1, d2] }
  | _ => none }
def FnProofsExcludeWrongFalsely : Prop := fnProofsExcludeRow.holds Try.pinned (OpenSpec.ofChange fnProofsExcludeWrong)

/-- 'laws.FnExactPrintFilterOf': WHATEVER THE INPUT: true; the input reads as it did. -/
def fnExactPrintFilterOfSpec : ChangeSpec := { name := "fnExactPrintFilterOf", fn := fun _ => fun
  | [d1, d2, d3, d4] => { results := [.lit (.bool true)], args := [d1, d2, d3, d4] }
  | _ => none }
def fnExactPrintFilterOfRow : OpenClaim := { program := "ythkcgimnagpmaaa", sum := "ca0177a27022029122414d327aec32ac29148c8608016a69891cb5785624e4a7", func := "loop.example/g01097/laws.FnExactPrintFilterOf", spec := "fnExactPrintFilterOf", unfollowed := true, recurses := true, apart := false }
def FnExactPrintFilterOfSaid : Prop := fnExactPrintFilterOfRow.holds Try.pinned (OpenSpec.ofChange fnExactPrintFilterOfSpec)

/-- ITS FALSE NEIGHBOUR: 'it returns false'. Refute it at one input. -/
def fnExactPrintFilterOfWrong : ChangeSpec := { name := "fnExactPrintFilterOf", fn := fun _ => fun
  | [d1, d2, d3, d4] => { results := [.lit (.bool false)], args := [d1, d2, d3, d4] }
  | _ => none }
def FnExactPrintFilterOfWrongFalsely : Prop := fnExactPrintFilterOfRow.holds Try.pinned (OpenSpec.ofChange fnExactPrintFilterOfWrong)

/- THE SECOND FORM. 'bulk': how many values and letters a reading holds, each counted each time it is reached (what is shared counts as often as it is met; a slice's spare places count too). A statement '..UptoSaid' is the law's where the arguments, and the package variables that the reading takes, are together of bulk at most 1048576: NARROWER than '..Said'. Prove '..Said' where nothing that the law and all that it calls make is longer than what came in: it says more and counts as full. Else prove '..UptoSaid'. A law counts once. -/
mutual
def uptoBulk {H : Type} : DataW H → Nat
  | .lit (.string bytes) => bytes.length + 1
  | .lit _ => 1
  | .nil => 1
  | .ptr d => uptoBulk d + 1
  | .slice elems spare => uptoBulkAll elems + uptoBulkAll spare + 1
  | .agg parts => uptoBulkAll parts + 1
  | .iface _ d => uptoBulk d + 1
  | .map entries => uptoBulkEntries entries + 1
  | .held _ => 1
def uptoBulkAll {H : Type} : List (DataW H) → Nat
  | [] => 0
  | d :: r => uptoBulk d + uptoBulkAll r
def uptoBulkEntries {H : Type} : List (Lit × DataW H) → Nat
  | [] => 0
  | x :: r => uptoBulkEntry x + uptoBulkEntries r
def uptoBulkEntry {H : Type} : Lit × DataW H → Nat
  | (.string bytes, d) => bytes.length + uptoBulk d + 1
  | (_, d) => uptoBulk d + 1
 end
def uptoSmall : (H : Type) → List (DataW H) → Bool := fun _ ds => decide (uptoBulkAll ds ≤ 1048576)
def OpenSpec.upto (s : _root_.Go.ChangeSpec) : _root_.Go.OpenSpec := { _root_.Go.OpenSpec.ofChange s with cond := some uptoSmall }

/-- 'laws.FnPlainSeedsAreFirst', WHERE WHAT IT READS IS OF BULK AT MOST 1048576: true; the input reads as it did. -/
def fnPlainSeedsAreFirstUptoRow : OpenClaim := { program := "ythkcgimnagpmaaa", sum := "ca0177a27022029122414d327aec32ac29148c8608016a69891cb5785624e4a7", func := "loop.example/g01097/laws.FnPlainSeedsAreFirst", spec := "fnPlainSeedsAreFirst", unfollowed := true, recurses := true, apart := false, narrowed := true }
def FnPlainSeedsAreFirstUptoSaid : Prop := fnPlainSeedsAreFirstUptoRow.holds Try.pinned (OpenSpec.upto fnPlainSeedsAreFirstSpec)

/-- 'laws.FnLayersPeel', WHERE WHAT IT READS IS OF BULK AT MOST 1048576: true; the input reads as it did. -/
def fnLayersPeelUptoRow : OpenClaim := { program := "ythkcgimnagpmaaa", sum := "ca0177a27022029122414d327aec32ac29148c8608016a69891cb5785624e4a7", func := "loop.example/g01097/laws.FnLayersPeel", spec := "fnLayersPeel", unfollowed := true, recurses := true, apart := false, narrowed := true }
def FnLayersPeelUptoSaid : Prop := fnLayersPeelUptoRow.holds Try.pinned (OpenSpec.upto fnLayersPeelSpec)

/-- 'laws.FnPeelingInAnyOrder', WHERE WHAT IT READS IS OF BULK AT MOST 1048576: true; the input reads as it did. -/
def fnPeelingInAnyOrderUptoRow : OpenClaim := { program := "ythkcgimnagpmaaa", sum := "ca0177a27022029122414d327aec32ac29148c8608016a69891cb5785624e4a7", func := "loop.example/g01097/laws.FnPeelingInAnyOrder", spec := "fnPeelingInAnyOrder", unfollowed := true, recurses := true, apart := false, narrowed := true }
def FnPeelingInAnyOrderUptoSaid : Prop := fnPeelingInAnyOrderUptoRow.holds Try.pinned (OpenSpec.upto fnPeelingInAnyOrderSpec)

/-- 'laws.FnEdgesAndDegrees', WHERE WHAT IT READS IS OF BULK AT MOST 1048576: true; the input reads as it did. -/
def fnEdgesAndDegreesUptoRow : OpenClaim := { program := "ythkcgimnagpmaaa", sum := "ca0177a27022029122414d327aec32ac29148c8608016a69891cb5785624e4a7", func := "loop.example/g01097/laws.FnEdgesAndDegrees", spec := "fnEdgesAndDegrees", unfollowed := true, recurses := true, apart := false, narrowed := true }
def FnEdgesAndDegreesUptoSaid : Prop := fnEdgesAndDegreesUptoRow.holds Try.pinned (OpenSpec.upto fnEdgesAndDegreesSpec)

/-- 'laws.FnLeastSegments', WHERE WHAT IT READS IS OF BULK AT MOST 1048576: true; the input reads as it did. -/
def fnLeastSegmentsUptoRow : OpenClaim := { program := "ythkcgimnagpmaaa", sum := "ca0177a27022029122414d327aec32ac29148c8608016a69891cb5785624e4a7", func := "loop.example/g01097/laws.FnLeastSegments", spec := "fnLeastSegments", unfollowed := true, recurses := true, apart := false, narrowed := true }
def FnLeastSegmentsUptoSaid : Prop := fnLeastSegmentsUptoRow.holds Try.pinned (OpenSpec.upto fnLeastSegmentsSpec)

/-- 'laws.FnOrderOrCore', WHERE WHAT IT READS IS OF BULK AT MOST 1048576: true; the input reads as it did. -/
def fnOrderOrCoreUptoRow : OpenClaim := { program := "ythkcgimnagpmaaa", sum := "ca0177a27022029122414d327aec32ac29148c8608016a69891cb5785624e4a7", func := "loop.example/g01097/laws.FnOrderOrCore", spec := "fnOrderOrCore", unfollowed := true, recurses := true, apart := false, narrowed := true }
def FnOrderOrCoreUptoSaid : Prop := fnOrderOrCoreUptoRow.holds Try.pinned (OpenSpec.upto fnOrderOrCoreSpec)

/-- 'laws.FnFirstSeedPeels', WHERE WHAT IT READS IS OF BULK AT MOST 1048576: true; the input reads as it did. -/
def fnFirstSeedPeelsUptoRow : OpenClaim := { program := "ythkcgimnagpmaaa", sum := "ca0177a27022029122414d327aec32ac29148c8608016a69891cb5785624e4a7", func := "loop.example/g01097/laws.FnFirstSeedPeels", spec := "fnFirstSeedPeels", unfollowed := true, recurses := true, apart := false, narrowed := true }
def FnFirstSeedPeelsUptoSaid : Prop := fnFirstSeedPeelsUptoRow.holds Try.pinned (OpenSpec.upto fnFirstSeedPeelsSpec)

/-- 'laws.FnProofsExclude', WHERE WHAT IT READS IS OF BULK AT MOST 1048576: true; the input reads as it did. -/
def fnProofsExcludeUptoRow : OpenClaim := { program := "ythkcgimnagpmaaa", sum := "ca0177a27022029122414d327aec32ac29148c8608016a69891cb5785624e4a7", func := "loop.example/g01097/laws.FnProofsExclude", spec := "fnProofsExclude", unfollowed := true, recurses := true, apart := false, narrowed := true }
def FnProofsExcludeUptoSaid : Prop := fnProofsExcludeUptoRow.holds Try.pinned (OpenSpec.upto fnProofsExcludeSpec)

/-- 'laws.FnExactPrintFilterOf', WHERE WHAT IT READS IS OF BULK AT MOST 1048576: true; the input reads as it did. -/
def fnExactPrintFilterOfUptoRow : OpenClaim := { program := "ythkcgimnagpmaaa", sum := "ca0177a27022029122414d327aec32ac29148c8608016a69891cb5785624e4a7", func := "loop.example/g01097/laws.FnExactPrintFilterOf", spec := "fnExactPrintFilterOf", unfollowed := true, recurses := true, apart := false, narrowed := true }
def FnExactPrintFilterOfUptoSaid : Prop := fnExactPrintFilterOfUptoRow.holds Try.pinned (OpenSpec.upto fnExactPrintFilterOfSpec)

end Rows
end Go.Proofs.Ythkcgimnagpmaaa
