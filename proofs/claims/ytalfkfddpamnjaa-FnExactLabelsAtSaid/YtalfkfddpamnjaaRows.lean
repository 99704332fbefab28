/-
  No cell of these rows narrows 'for every input' (looked for: loops, veiled, ifaces, maps, wideKeys, modest, calm, conditions, laid).
  DERIVED. THE GIVEN ROWS OF THIS SEAT. 9 by the template 'for every input the law returns true; each argument reads behind the call as it read before'; 0 by the template 'total and deterministic' (their statements: YtalfkfddpamnjaaTotals.lean).
  GIVEN WITH THE SEED: the statements are not yours to turn. If you find one false, say at which input.
  Laid BY PROGRAM, IN A SANDBOX (cutbox-rows.mjs): the forced cells as the released guide's own fill.sh prints them over the translation a63710d333534b27… (all of the seat's roots in one cut). By AI agents, Wed Nov 11 2026. No macro, syntax, notation, axiom, sorry.
-/
import Derived.Test.YtalfkfddpamnjaaChecked
import GoSem.Claim
import GoSem.ClaimJoined
import GoSem.ClaimMapViews
import Derived.JoinedTies
import Derived.KernelRfl
namespace Go.Proofs.Ytalfkfddpamnjaa
/- THE CELL 'sum', in the pinned program and in every row, IS THE sha256 OF THE DUMP (.gsa) THAT YtalfkfddpamnjaaProg.lean LOADS. Nothing in Lean hashes anything: it is a label: what it is worth is what the hold of that sum in a sandbox is worth. -/
noncomputable def Try.pinned : Pinned := { name := "ytalfkfddpamnjaa", sum := "a63710d333534b27f49d1ff56b296a4e9667ab16edbfb3662b325fd16977e965", checked := Try.checked }
namespace Rows
def none {H : Type} : Left H := { results := [], args := [] }

/-- 'laws.FnExactLongestKey': WHATEVER THE INPUT: true; the input reads as it did. -/
def fnExactLongestKeySpec : ChangeSpec := { name := "fnExactLongestKey", fn := fun _ => fun
  | [d1, d2] => { results := [.lit (.bool true)], args := [d1, d2] }
  | _ => none }
def fnExactLongestKeyRow : OpenClaim := { program := "ytalfkfddpamnjaa", sum := "a63710d333534b27f49d1ff56b296a4e9667ab16edbfb3662b325fd16977e965", func := "loop.example/g01097/laws.FnExactLongestKey", spec := "fnExactLongestKey", inPlace := ["internal/bytealg.abigen_runtime_cmpstring"], unfollowed := true, recurses := true, apart := false }
def FnExactLongestKeySaid : Prop := fnExactLongestKeyRow.holds Try.pinned (OpenSpec.ofChange fnExactLongestKeySpec)

/-- ITS FALSE NEIGHBOUR: 'it returns false'. Refute it at one input. -/
def fnExactLongestKeyWrong : ChangeSpec := { name := "fnExactLongestKey", fn := fun _ => fun
  | [d1, d2] => { results := [.lit (.bool false)], args := [d1, d2] }
  | _ => none }
def FnExactLongestKeyWrongFalsely : Prop := fnExactLongestKeyRow.holds Try.pinned (OpenSpec.ofChange fnExactLongestKeyWrong)

/-- 'laws.FnExactTrieKeyAt': WHATEVER THE INPUT: true; the input reads as it did. -/
def fnExactTrieKeyAtSpec : ChangeSpec := { name := "fnExactTrieKeyAt", fn := fun _ => fun
  | [d1, d2] => { results := [.lit (.bool true)], args := [d1, d2] }
  | _ => none }
def fnExactTrieKeyAtRow : OpenClaim := { program := "ytalfkfddpamnjaa", sum := "a63710d333534b27f49d1ff56b296a4e9667ab16edbfb3662b325fd16977e965", func := "loop.example/g01097/laws.FnExactTrieKeyAt", spec := "fnExactTrieKeyAt", inPlace := ["internal/bytealg.abigen_runtime_cmpstring"], unfollowed := true, recurses := true, apart := false }
def FnExactTrieKeyAtSaid : Prop := fnExactTrieKeyAtRow.holds Try.pinned (OpenSpec.ofChange fnExactTrieKeyAtSpec)

/-- ITS FALSE NEIGHBOUR: 'it returns false'. Refute it at one input. -/
def fnExactTrieKeyAtWrong : ChangeSpec := { name := "fnExactTrieKeyAt", fn := fun _ => fun
  | [d1, d2] => { results := [.lit (.bool false)], args := [d1, d2] }
  | _ => none }
def FnExactTrieKeyAtWrongFalsely : Prop := fnExactTrieKeyAtRow.holds Try.pinned (OpenSpec.ofChange fnExactTrieKeyAtWrong)

/-- 'laws.FnExactLabelsAt': WHATEVER THE INPUT: true; the input reads as it did. -/
def fnExactLabelsAtSpec : ChangeSpec := { name := "fnExactLabelsAt", fn := fun _ => fun
  | [d1, d2] => { results := [.lit (.bool true)], args := [d1, d2] }
  | _ => none }
def fnExactLabelsAtRow : OpenClaim := { program := "ytalfkfddpamnjaa", sum := "a63710d333534b27f49d1ff56b296a4e9667ab16edbfb3662b325fd16977e965", func := "loop.example/g01097/laws.FnExactLabelsAt", spec := "fnExactLabelsAt", inPlace := ["internal/bytealg.abigen_runtime_cmpstring"], unfollowed := true, recurses := true, apart := false }
def FnExactLabelsAtSaid : Prop := fnExactLabelsAtRow.holds Try.pinned (OpenSpec.ofChange fnExactLabelsAtSpec)

/-- ITS FALSE NEIGHBOUR: 'it returns false'. Refute it at one input. -/
def fnExactLabelsAtWrong : ChangeSpec := { name := "fnExactLabelsAt", fn := fun _ => fun
  | [d1, d2] => { results := [.lit (.bool false)], args := [d1, d2] }
  | _ => none }
def FnExactLabelsAtWrongFalsely : Prop := fnExactLabelsAtRow.holds Try.pinned (OpenSpec.ofChange fnExactLabelsAtWrong)

/-- 'laws.FnExactBuildTrie': WHATEVER THE INPUT: true; the input reads as it did. -/
def fnExactBuildTrieSpec : ChangeSpec := { name := "fnExactBuildTrie", fn := fun _ => fun
  | [d] => { results := [.lit (.bool true)], args := [d] }
  | _ => none }
def fnExactBuildTrieRow : OpenClaim := { program := "ytalfkfddpamnjaa", sum := "a63710d333534b27f49d1ff56b296a4e9667ab16edbfb3662b325fd16977e965", func := "loop.example/g01097/laws.FnExactBuildTrie", spec := "fnExactBuildTrie", inPlace := ["internal/bytealg.abigen_runtime_cmpstring"], unfollowed := true, recurses := true, apart := false }
def FnExactBuildTrieSaid : Prop := fnExactBuildTrieRow.holds Try.pinned (OpenSpec.ofChange fnExactBuildTrieSpec)

/-- ITS FALSE NEIGHBOUR: 'it returns false'. Refute it at one input. -/
def fnExactBuildTrieWrong : ChangeSpec := { name := "fnExactBuildTrie", fn := fun _ => fun
  | [d] => { results := [.lit (.bool false)], args := [d] }
  | _ => none }
def FnExactBuildTrieWrongFalsely : Prop := fnExactBuildTrieRow.holds Try.pinned (OpenSpec.ofChange fnExactBuildTrieWrong)

/-- 'laws.FnExactIsTrie': WHATEVER THE INPUT: true; the input reads as it did. -/
def fnExactIsTrieSpec : ChangeSpec := { name := "fnExactIsTrie", fn := fun _ => fun
  | [d] => { results := [.lit (.bool true)], args := [d] }
  | _ => none }
def fnExactIsTrieRow : OpenClaim := { program := "ytalfkfddpamnjaa", sum := "a63710d333534b27f49d1ff56b296a4e9667ab16edbfb3662b325fd16977e965", func := "loop.example/g01097/laws.FnExactIsTrie", spec := "fnExactIsTrie", inPlace := ["internal/bytealg.abigen_runtime_cmpstring"], unfollowed := true, recurses := true, apart := false }
def FnExactIsTrieSaid : Prop := fnExactIsTrieRow.holds Try.pinned (OpenSpec.ofChange fnExactIsTrieSpec)

/-- ITS FALSE NEIGHBOUR: 'it returns false'. Refute it at one input. -/
def fnExactIsTrieWrong : ChangeSpec := { name := "fnExactIsTrie", fn := fun _ => fun
  | [d] => { results := [.lit (.bool false)], args := [d] }
  | _ => none }
def FnExactIsTrieWrongFalsely : Prop := fnExactIsTrieRow.holds Try.pinned (OpenSpec.ofChange fnExactIsTrieWrong)

/-- 'laws.FnExactNodesOf': WHATEVER THE INPUT: true; the input reads as it did. -/
def fnExactNodesOfSpec : ChangeSpec := { name := "fnExactNodesOf", fn := fun _ => fun
  | [d] => { results := [.lit (.bool true)], args := [d] }
  | _ => none }
def fnExactNodesOfRow : OpenClaim := { program := "ytalfkfddpamnjaa", sum := "a63710d333534b27f49d1ff56b296a4e9667ab16edbfb3662b325fd16977e965", func := "loop.example/g01097/laws.FnExactNodesOf", spec := "fnExactNodesOf", inPlace := ["internal/bytealg.abigen_runtime_cmpstring"], unfollowed := true, recurses := true, apart := false }
def FnExactNodesOfSaid : Prop := fnExactNodesOfRow.holds Try.pinned (OpenSpec.ofChange fnExactNodesOfSpec)

/-- ITS FALSE NEIGHBOUR: 'it returns false'. Refute it at one input. -/
def fnExactNodesOfWrong : ChangeSpec := { name := "fnExactNodesOf", fn := fun _ => fun
  | [d] => { results := [.lit (.bool false)], args := [d] }
  | _ => none }
def FnExactNodesOfWrongFalsely : Prop := fnExactNodesOfRow.holds Try.pinned (OpenSpec.ofChange fnExactNodesOfWrong)

/-- 'laws.FnExactTrieBits': WHATEVER THE INPUT: true; the input reads as it did. -/
def fnExactTrieBitsSpec : ChangeSpec := { name := "fnExactTrieBits", fn := fun _ => fun
  | [d] => { results := [.lit (.bool true)], args := [d] }
  | _ => none }
def fnExactTrieBitsRow : OpenClaim := { program := "ytalfkfddpamnjaa", sum := "a63710d333534b27f49d1ff56b296a4e9667ab16edbfb3662b325fd16977e965", func := "loop.example/g01097/laws.FnExactTrieBits", spec := "fnExactTrieBits", inPlace := ["internal/bytealg.abigen_runtime_cmpstring"], unfollowed := true, recurses := true, apart := false }
def FnExactTrieBitsSaid : Prop := fnExactTrieBitsRow.holds Try.pinned (OpenSpec.ofChange fnExactTrieBitsSpec)

/-- ITS FALSE NEIGHBOUR: 'it returns false'. Refute it at one input. -/
def fnExactTrieBitsWrong : ChangeSpec := { name := "fnExactTrieBits", fn := fun _ => fun
  | [d] => { results := [.lit (.bool false)], args := [d] }
  | _ => none }
def FnExactTrieBitsWrongFalsely : Prop := fnExactTrieBitsRow.holds Try.pinned (OpenSpec.ofChange fnExactTrieBitsWrong)

/-- 'laws.FnExactTrieHas': WHATEVER THE INPUT: true; the input reads as it did. -/
def fnExactTrieHasSpec : ChangeSpec := { name := "fnExactTrieHas", fn := fun _ => fun
  | [d1, d2] => { results := [.lit (.bool true)], args := [d1, d2] }
  | _ => none }
def fnExactTrieHasRow : OpenClaim := { program := "ytalfkfddpamnjaa", sum := "a63710d333534b27f49d1ff56b296a4e9667ab16edbfb3662b325fd16977e965", func := "loop.example/g01097/laws.FnExactTrieHas", spec := "fnExactTrieHas", inPlace := ["internal/bytealg.abigen_runtime_cmpstring"], unfollowed := true, recurses := true, apart := false }
def FnExactTrieHasSaid : Prop := fnExactTrieHasRow.holds Try.pinned (OpenSpec.ofChange fnExactTrieHasSpec)

/-- ITS FALSE NEIGHBOUR: 'it returns false'. Refute it at one input. -/
def fnExactTrieHasWrong : ChangeSpec := { name := "fnExactTrieHas", fn := fun _ => fun
  | [d1, d2] => { results := [.lit (.bool false)], args := [d1, d2] }
  | _ => none }
def FnExactTrieHasWrongFalsely : Prop := fnExactTrieHasRow.holds Try.pinned (OpenSpec.ofChange fnExactTrieHasWrong)

/-- 'laws.FnExactPathOf': WHATEVER THE INPUT: true; the input reads as it did. -/
def fnExactPathOfSpec : ChangeSpec := { name := "fnExactPathOf", fn := fun _ => fun
  | [d1, d2] => { results := [.lit (.bool true)], args := [d1, d2] }
  | _ => none }
def fnExactPathOfRow : OpenClaim := { program := "ytalfkfddpamnjaa", sum := "a63710d333534b27f49d1ff56b296a4e9667ab16edbfb3662b325fd16977e965", func := "loop.example/g01097/laws.FnExactPathOf", spec := "fnExactPathOf", inPlace := ["internal/bytealg.abigen_runtime_cmpstring"], unfollowed := true, recurses := true, apart := false }
def FnExactPathOfSaid : Prop := fnExactPathOfRow.holds Try.pinned (OpenSpec.ofChange fnExactPathOfSpec)

/-- ITS FALSE NEIGHBOUR: 'it returns false'. Refute it at one input. -/
def fnExactPathOfWrong : ChangeSpec := { name := "fnExactPathOf", fn := fun _ => fun
  | [d1, d2] => { results := [.lit (.bool false)], args := [d1, d2] }
  | _ => none }
def FnExactPathOfWrongFalsely : Prop := fnExactPathOfRow.holds Try.pinned (OpenSpec.ofChange fnExactPathOfWrong)

/- THE SECOND FORM. 'bulk': how many values and letters a reading holds, each counted each time it is reached (what is shared counts as often as it is met; a slice's spare places count too). A statement '..UptoSaid' is the law's where the arguments, and the package variables that the reading takes, are together of bulk at most 1048576: NARROWER than '..Said'. Prove '..Said' where nothing that the law and all that it calls make is longer than what came in: it says more and counts as full. Else prove '..UptoSaid'. A law counts once. -/
mutual
def uptoBulk {H : Type} : DataW H → Nat
  | .lit (.string bytes) => bytes.length + 1
  | .lit _ => 1
  | .nil => 1
  | .ptr d => uptoBulk d + 1
  | .slice elems spare => uptoBulkAll elems + uptoBulkAll spare + 1
  | .agg parts => uptoBulkAll parts + 1
  | .iface _ d => uptoBulk d + 1
  | .map entries => uptoBulkEntries entries + 1
  | .held _ => 1
def uptoBulkAll {H : Type} : List (DataW H) → Nat
  | [] => 0
  | d :: r => uptoBulk d + uptoBulkAll r
def uptoBulkEntries {H : Type} : List (Lit × DataW H) → Nat
  | [] => 0
  | x :: r => uptoBulkEntry x + uptoBulkEntries r
def uptoBulkEntry {H : Type} : Lit × DataW H → Nat
  | (.string bytes, d) => bytes.length + uptoBulk d + 1
  | (_, d) => uptoBulk d + 1
 end
def uptoSmall : (H : Type) → List (DataW H) → Bool := fun _ ds => decide (uptoBulkAll ds ≤ 1048576)
def OpenSpec.upto (s : _root_.Go.ChangeSpec) : _root_.Go.OpenSpec := { _root_.Go.OpenSpec.ofChange s with cond := some uptoSmall }

/-- 'laws.FnExactLongestKey', WHERE WHAT IT READS IS OF BULK AT MOST 1048576: true; the input reads as it did. -/
def fnExactLongestKeyUptoRow : OpenClaim := { program := "ytalfkfddpamnjaa", sum := "a63710d333534b27f49d1ff56b296a4e9667ab16edbfb3662b325fd16977e965", func := "loop.example/g01097/laws.FnExactLongestKey", spec := "fnExactLongestKey", inPlace := ["internal/bytealg.abigen_runtime_cmpstring"], unfollowed := true, recurses := true, apart := false, narrowed := true }
def FnExactLongestKeyUptoSaid : Prop := fnExactLongestKeyUptoRow.holds Try.pinned (OpenSpec.upto fnExactLongestKeySpec)

/-- 'laws.FnExactTrieKeyAt', WHERE WHAT IT READS IS OF BULK AT MOST 1048576: true; the input reads as it did. -/
def fnExactTrieKeyAtUptoRow : OpenClaim := { program := "ytalfkfddpamnjaa", sum := "a63710d333534b27f49d1ff56b296a4e9667ab16edbfb3662b325fd16977e965", func := "loop.example/g01097/laws.FnExactTrieKeyAt", spec := "fnExactTrieKeyAt", inPlace := ["internal/bytealg.abigen_runtime_cmpstring"], unfollowed := true, recurses := true, apart := false, narrowed := true }
def FnExactTrieKeyAtUptoSaid : Prop := fnExactTrieKeyAtUptoRow.holds Try.pinned (OpenSpec.upto fnExactTrieKeyAtSpec)

/-- 'laws.FnExactLabelsAt', WHERE WHAT IT READS IS OF BULK AT MOST 1048576: true; the input reads as it did. -/
def fnExactLabelsAtUptoRow : OpenClaim := { program := "ytalfkfddpamnjaa", sum := "a63710d333534b27f49d1ff56b296a4e9667ab16edbfb3662b325fd16977e965", func := "loop.example/g01097/laws.FnExactLabelsAt", spec := "fnExactLabelsAt", inPlace := ["internal/bytealg.abigen_runtime_cmpstring"], unfollowed := true, recurses := true, apart := false, narrowed := true }
def FnExactLabelsAtUptoSaid : Prop := fnExactLabelsAtUptoRow.holds Try.pinned (OpenSpec.upto fnExactLabelsAtSpec)

/-- 'laws.FnExactBuildTrie', WHERE WHAT IT READS IS OF BULK AT MOST 1048576: true; the input reads as it did. -/
def fnExactBuildTrieUptoRow : OpenClaim := { program := "ytalfkfddpamnjaa", sum := "a63710d333534b27f49d1ff56b296a4e9667ab16edbfb3662b325fd16977e965", func := "loop.example/g01097/laws.FnExactBuildTrie", spec := "fnExactBuildTrie", inPlace := ["internal/bytealg.abigen_runtime_cmpstring"], unfollowed := true, recurses := true, apart := false, narrowed := true }
def FnExactBuildTrieUptoSaid : Prop := fnExactBuildTrieUptoRow.holds Try.pinned (OpenSpec.upto fnExactBuildTrieSpec)

/-- 'laws.FnExactIsTrie', WHERE WHAT IT READS IS OF BULK AT MOST 1048576: true; the input reads as it did. -/
def fnExactIsTrieUptoRow : OpenClaim := { program := "ytalfkfddpamnjaa", sum := "a63710d333534b27f49d1ff56b296a4e9667ab16edbfb3662b325fd16977e965", func := "loop.example/g01097/laws.FnExactIsTrie", spec := "fnExactIsTrie", inPlace := ["internal/bytealg.abigen_runtime_cmpstring"], unfollowed := true, recurses := true, apart := false, narrowed := true }
def FnExactIsTrieUptoSaid : Prop := fnExactIsTrieUptoRow.holds Try.pinned (OpenSpec.upto fnExactIsTrieSpec)

/-- 'laws.FnExactNodesOf', WHERE WHAT IT READS IS OF BULK AT MOST 1048576: true; the input reads as it did. -/
def fnExactNodesOfUptoRow : OpenClaim := { program := "ytalfkfddpamnjaa", sum := "a63710d333534b27f49d1ff56b296a4e9667ab16edbfb3662b325fd16977e965", func := "loop.example/g01097/laws.FnExactNodesOf", spec := "fnExactNodesOf", inPlace := ["internal/bytealg.abigen_runtime_cmpstring"], unfollowed := true, recurses := true, apart := false, narrowed := true }
def FnExactNodesOfUptoSaid : Prop := fnExactNodesOfUptoRow.holds Try.pinned (OpenSpec.upto fnExactNodesOfSpec)

/-- 'laws.FnExactTrieBits', WHERE WHAT IT READS IS OF BULK AT MOST 1048576: true; the input reads as it did. -/
def fnExactTrieBitsUptoRow : OpenClaim := { program := "ytalfkfddpamnjaa", sum := "a63710d333534b27f49d1ff56b296a4e9667ab16edbfb3662b325fd16977e965", func := "loop.example/g01097/laws.FnExactTrieBits", spec := "fnExactTrieBits", inPlace := ["internal/bytealg.abigen_runtime_cmpstring"], unfollowed := true, recurses := true, apart := false, narrowed := true }
def FnExactTrieBitsUptoSaid : Prop := fnExactTrieBitsUptoRow.holds Try.pinned (OpenSpec.upto fnExactTrieBitsSpec)

/-- 'laws.FnExactTrieHas', WHERE WHAT IT READS IS OF BULK AT MOST 1048576: true; the input reads as it did. -/
def fnExactTrieHasUptoRow : OpenClaim := { program := "ytalfkfddpamnjaa", sum := "a63710d333534b27f49d1ff56b296a4e9667ab16edbfb3662b325fd16977e965", func := "loop.example/g01097/laws.FnExactTrieHas", spec := "fnExactTrieHas", inPlace := ["internal/bytealg.abigen_runtime_cmpstring"], unfollowed := true, recurses := true, apart := false, narrowed := true }
def FnExactTrieHasUptoSaid : Prop := fnExactTrieHasUptoRow.holds Try.pinned (OpenSpec.upto fnExactTrieHasSpec)

/-- 'laws.FnExactPathOf', WHERE WHAT IT READS IS OF BULK AT MOST 1048576: true; the input reads as it did. -/
def fnExactPathOfUptoRow : OpenClaim := { program := "ytalfkfddpamnjaa", sum := "a63710d333534b27f49d1ff56b296a4e9667ab16edbfb3662b325fd16977e965", func := "loop.example/g01097/laws.FnExactPathOf", spec := "fnExactPathOf", inPlace := ["internal/bytealg.abigen_runtime_cmpstring"], unfollowed := true, recurses := true, apart := false, narrowed := true }
def FnExactPathOfUptoSaid : Prop := fnExactPathOfUptoRow.holds Try.pinned (OpenSpec.upto fnExactPathOfSpec)

end Rows
end Go.Proofs.Ytalfkfddpamnjaa
