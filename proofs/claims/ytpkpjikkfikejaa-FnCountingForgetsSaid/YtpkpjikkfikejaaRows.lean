/-
  No cell of these rows narrows 'for every input' (looked for: loops, veiled, ifaces, maps, wideKeys, modest, calm, conditions, laid).
  DERIVED. THE GIVEN ROWS OF THIS SEAT. 11 by the template 'for every input the law returns true; each argument reads behind the call as it read before'; 0 by the template 'total and deterministic' (their statements: YtpkpjikkfikejaaTotals.lean).
  GIVEN WITH THE SEED: the statements are not yours to turn. If you find one false, say at which input.
  Laid BY PROGRAM, IN A SANDBOX (cutbox-rows.mjs): the forced cells as the released guide's own fill.sh prints them over the translation 1481a907bf47d7e6… (all of the seat's roots in one cut). By AI agents, Wed Nov 11 2026. No macro, syntax, notation, axiom, sorry.
-/
import Derived.Test.YtpkpjikkfikejaaChecked
import GoSem.Claim
import GoSem.ClaimJoined
import GoSem.ClaimMapViews
import Derived.JoinedTies
import Derived.KernelRfl
namespace Go.Proofs.Ytpkpjikkfikejaa
/- THE CELL 'sum', in the pinned program and in every row, IS THE sha256 OF THE DUMP (.gsa) THAT YtpkpjikkfikejaaProg.lean LOADS. Nothing in Lean hashes anything: it is a label: what it is worth is what the hold of that sum in a sandbox is worth. -/
noncomputable def Try.pinned : Pinned := { name := "ytpkpjikkfikejaa", sum := "1481a907bf47d7e6b1558afbd61b8b73652f374eb37554b45f010edd49951283", checked := Try.checked }
namespace Rows
def none {H : Type} : Left H := { results := [], args := [] }

/-- 'laws.FnExactBloomOf': WHATEVER THE INPUT: true; the input reads as it did. -/
def fnExactBloomOfSpec : ChangeSpec := { name := "fnExactBloomOf", fn := fun _ => fun
  | [d1, d2, d3, d4] => { results := [.lit (.bool true)], args := [d1, d2, d3, d4] }
  | _ => none }
def fnExactBloomOfRow : OpenClaim := { program := "ytpkpjikkfikejaa", sum := "1481a907bf47d7e6b1558afbd61b8b73652f374eb37554b45f010edd49951283", func := "loop.example/g01097/laws.FnExactBloomOf", spec := "fnExactBloomOf", apart := false }
def FnExactBloomOfSaid : Prop := fnExactBloomOfRow.holds Try.pinned (OpenSpec.ofChange fnExactBloomOfSpec)

/-- ITS FALSE NEIGHBOUR: 'it returns false'. Refute it at one input. -/
def fnExactBloomOfWrong : ChangeSpec := { name := "fnExactBloomOf", fn := fun _ => fun
  | [d1, d2, d3, d4] => { results := [.lit (.bool false)], args := [d1, d2, d3, d4] }
  | _ => none }
def FnExactBloomOfWrongFalsely : Prop := fnExactBloomOfRow.holds Try.pinned (OpenSpec.ofChange fnExactBloomOfWrong)

/-- 'laws.FnExactBloomAdd': WHATEVER THE INPUT: true; the input reads as it did. -/
def fnExactBloomAddSpec : ChangeSpec := { name := "fnExactBloomAdd", fn := fun _ => fun
  | [d1, d2] => { results := [.lit (.bool true)], args := [d1, d2] }
  | _ => none }
def fnExactBloomAddRow : OpenClaim := { program := "ytpkpjikkfikejaa", sum := "1481a907bf47d7e6b1558afbd61b8b73652f374eb37554b45f010edd49951283", func := "loop.example/g01097/laws.FnExactBloomAdd", spec := "fnExactBloomAdd", apart := false }
def FnExactBloomAddSaid : Prop := fnExactBloomAddRow.holds Try.pinned (OpenSpec.ofChange fnExactBloomAddSpec)

/-- ITS FALSE NEIGHBOUR: 'it returns false'. Refute it at one input. -/
def fnExactBloomAddWrong : ChangeSpec := { name := "fnExactBloomAdd", fn := fun _ => fun
  | [d1, d2] => { results := [.lit (.bool false)], args := [d1, d2] }
  | _ => none }
def FnExactBloomAddWrongFalsely : Prop := fnExactBloomAddRow.holds Try.pinned (OpenSpec.ofChange fnExactBloomAddWrong)

/-- 'laws.FnExactLeastBloom': WHATEVER THE INPUT: true; the input reads as it did. -/
def fnExactLeastBloomSpec : ChangeSpec := { name := "fnExactLeastBloom", fn := fun _ => fun
  | [d1, d2, d3, d4, d5] => { results := [.lit (.bool true)], args := [d1, d2, d3, d4, d5] }
  | _ => none }
def fnExactLeastBloomRow : OpenClaim := { program := "ytpkpjikkfikejaa", sum := "1481a907bf47d7e6b1558afbd61b8b73652f374eb37554b45f010edd49951283", func := "loop.example/g01097/laws.FnExactLeastBloom", spec := "fnExactLeastBloom", unfollowed := true, recurses := true, apart := false }
def FnExactLeastBloomSaid : Prop := fnExactLeastBloomRow.holds Try.pinned (OpenSpec.ofChange fnExactLeastBloomSpec)

/-- ITS FALSE NEIGHBOUR: 'it returns false'. Refute it at one input. -/
def fnExactLeastBloomWrong : ChangeSpec := { name := "fnExactLeastBloom", fn := fun _ => fun
  | [d1, d2, d3, d4, d5] => { results := [.lit (.bool false)], args := [d1, d2, d3, d4, d5] }
  | _ => none }
def FnExactLeastBloomWrongFalsely : Prop := fnExactLeastBloomRow.holds Try.pinned (OpenSpec.ofChange fnExactLeastBloomWrong)

/-- 'laws.FnExactCountingRemove': WHATEVER THE INPUT: true; the input reads as it did. -/
def fnExactCountingRemoveSpec : ChangeSpec := { name := "fnExactCountingRemove", fn := fun _ => fun
  | [d1, d2] => { results := [.lit (.bool true)], args := [d1, d2] }
  | _ => none }
def fnExactCountingRemoveRow : OpenClaim := { program := "ytpkpjikkfikejaa", sum := "1481a907bf47d7e6b1558afbd61b8b73652f374eb37554b45f010edd49951283", func := "loop.example/g01097/laws.FnExactCountingRemove", spec := "fnExactCountingRemove", unfollowed := true, recurses := true, apart := false }
def FnExactCountingRemoveSaid : Prop := fnExactCountingRemoveRow.holds Try.pinned (OpenSpec.ofChange fnExactCountingRemoveSpec)

/-- ITS FALSE NEIGHBOUR: 'it returns false'. Refute it at one input. -/
def fnExactCountingRemoveWrong : ChangeSpec := { name := "fnExactCountingRemove", fn := fun _ => fun
  | [d1, d2] => { results := [.lit (.bool false)], args := [d1, d2] }
  | _ => none }
def FnExactCountingRemoveWrongFalsely : Prop := fnExactCountingRemoveRow.holds Try.pinned (OpenSpec.ofChange fnExactCountingRemoveWrong)

/-- 'laws.FnExactShareOf': WHATEVER THE INPUT: true; the input reads as it did. -/
def fnExactShareOfSpec : ChangeSpec := { name := "fnExactShareOf", fn := fun _ => fun
  | [d1, d2, d3] => { results := [.lit (.bool true)], args := [d1, d2, d3] }
  | _ => none }
def fnExactShareOfRow : OpenClaim := { program := "ytpkpjikkfikejaa", sum := "1481a907bf47d7e6b1558afbd61b8b73652f374eb37554b45f010edd49951283", func := "loop.example/g01097/laws.FnExactShareOf", spec := "fnExactShareOf", unfollowed := true, recurses := true, apart := false }
def FnExactShareOfSaid : Prop := fnExactShareOfRow.holds Try.pinned (OpenSpec.ofChange fnExactShareOfSpec)

/-- ITS FALSE NEIGHBOUR: 'it returns false'. Refute it at one input. -/
def fnExactShareOfWrong : ChangeSpec := { name := "fnExactShareOf", fn := fun _ => fun
  | [d1, d2, d3] => { results := [.lit (.bool false)], args := [d1, d2, d3] }
  | _ => none }
def FnExactShareOfWrongFalsely : Prop := fnExactShareOfRow.holds Try.pinned (OpenSpec.ofChange fnExactShareOfWrong)

/-- 'laws.FnExactFalseAnswers': WHATEVER THE INPUT: true; the input reads as it did. -/
def fnExactFalseAnswersSpec : ChangeSpec := { name := "fnExactFalseAnswers", fn := fun _ => fun
  | [d1, d2, d3] => { results := [.lit (.bool true)], args := [d1, d2, d3] }
  | _ => none }
def fnExactFalseAnswersRow : OpenClaim := { program := "ytpkpjikkfikejaa", sum := "1481a907bf47d7e6b1558afbd61b8b73652f374eb37554b45f010edd49951283", func := "loop.example/g01097/laws.FnExactFalseAnswers", spec := "fnExactFalseAnswers", unfollowed := true, recurses := true, apart := false }
def FnExactFalseAnswersSaid : Prop := fnExactFalseAnswersRow.holds Try.pinned (OpenSpec.ofChange fnExactFalseAnswersSpec)

/-- ITS FALSE NEIGHBOUR: 'it returns false'. Refute it at one input. -/
def fnExactFalseAnswersWrong : ChangeSpec := { name := "fnExactFalseAnswers", fn := fun _ => fun
  | [d1, d2, d3] => { results := [.lit (.bool false)], args := [d1, d2, d3] }
  | _ => none }
def FnExactFalseAnswersWrongFalsely : Prop := fnExactFalseAnswersRow.holds Try.pinned (OpenSpec.ofChange fnExactFalseAnswersWrong)

/-- 'laws.FnExactPrintFalse': WHATEVER THE INPUT: true; the input reads as it did. -/
def fnExactPrintFalseSpec : ChangeSpec := { name := "fnExactPrintFalse", fn := fun _ => fun
  | [d1, d2, d3] => { results := [.lit (.bool true)], args := [d1, d2, d3] }
  | _ => none }
def fnExactPrintFalseRow : OpenClaim := { program := "ytpkpjikkfikejaa", sum := "1481a907bf47d7e6b1558afbd61b8b73652f374eb37554b45f010edd49951283", func := "loop.example/g01097/laws.FnExactPrintFalse", spec := "fnExactPrintFalse", unfollowed := true, recurses := true, apart := false }
def FnExactPrintFalseSaid : Prop := fnExactPrintFalseRow.holds Try.pinned (OpenSpec.ofChange fnExactPrintFalseSpec)

/-- ITS FALSE NEIGHBOUR: 'it returns false'. Refute it at one input. -/
def fnExactPrintFalseWrong : ChangeSpec := { name := "fnExactPrintFalse", fn := fun _ => fun
  | [d1, d2, d3] => { results := [.lit (.bool false)], args := [d1, d2, d3] }
  | _ => none }
def FnExactPrintFalseWrongFalsely : Prop := fnExactPrintFalseRow.holds Try.pinned (OpenSpec.ofChange fnExactPrintFalseWrong)

/-- 'laws.FnBloomAnswers': WHATEVER THE INPUT: true; the input reads as it did. -/
def fnBloomAnswersSpec : ChangeSpec := { name := "fnBloomAnswers", fn := fun _ => fun
  | [d1, d2] => { results := [.lit (.bool true)], args := [d1, d2] }
  | _ => none }
def fnBloomAnswersRow : OpenClaim := { program := "ytpkpjikkfikejaa", sum := "1481a907bf47d7e6b1558afbd61b8b73652f374eb37554b45f010edd49951283", func := "loop.example/g01097/laws.FnBloomAnswers", spec := "fnBloomAnswers", apart := false }
def FnBloomAnswersSaid : Prop := fnBloomAnswersRow.holds Try.pinned (OpenSpec.ofChange fnBloomAnswersSpec)

/-- ITS FALSE NEIGHBOUR: 'it returns false'. Refute it at one input. -/
def fnBloomAnswersWrong : ChangeSpec := { name := "fnBloomAnswers", fn := fun _ => fun
  | [d1, d2] => { results := [.lit (.bool false)], args := [d1, d2] }
  | _ => none }
def FnBloomAnswersWrongFalsely : Prop := fnBloomAnswersRow.holds Try.pinned (OpenSpec.ofChange fnBloomAnswersWrong)

/-- 'laws.FnCountingForgets': WHATEVER THE INPUT: true; the input reads as it did. -/
def fnCountingForgetsSpec : ChangeSpec := { name := "fnCountingForgets", fn := fun _ => fun
  | [d1, d2] => { results := [.lit (.bool true)], args := [d1, d2] }
  | _ => none }
def fnCountingForgetsRow : OpenClaim := { program := "ytpkpjikkfikejaa", sum := "1481a907bf47d7e6b1558afbd61b8b73652f374eb37554b45f010edd49951283", func := "loop.example/g01097/laws.FnCountingForgets", spec := "fnCountingForgets", unfollowed := true, recurses := true, apart := false }
def FnCountingForgetsSaid : Prop := fnCountingForgetsRow.holds Try.pinned (OpenSpec.ofChange fnCountingForgetsSpec)

/-- ITS FALSE NEIGHBOUR: 'it returns false'. Refute it at one input. -/
def fnCountingForgetsWrong : ChangeSpec := { name := "fnCountingForgets", fn := fun _ => fun
  | [d1, d2] => { results := [.lit (.bool false)], args := [d1, d2] }
  | _ => none }
def FnCountingForgetsWrongFalsely : Prop := fnCountingForgetsRow.holds Try.pinned (OpenSpec.ofChange fnCountingForgetsWrong)

/-- 'laws.FnBloomNeverDenies': WHATEVER THE INPUT: true; the input reads as it did. -/
def fnBloomNeverDeniesSpec : ChangeSpec := { name := "fnBloomNeverDenies", fn := fun _ => fun
  | [d1, d2] => { results := [.lit (.bool true)], args := [d1, d2] }
  | _ => none }
def fnBloomNeverDeniesRow : OpenClaim := { program := "ytpkpjikkfikejaa", sum := "1481a907bf47d7e6b1558afbd61b8b73652f374eb37554b45f010edd49951283", func := "loop.example/g01097/laws.FnBloomNeverDenies", spec := "fnBloomNeverDenies", unfollowed := true, recurses := true, apart := false }
def FnBloomNeverDeniesSaid : Prop := fnBloomNeverDeniesRow.holds Try.pinned (OpenSpec.ofChange fnBloomNeverDeniesSpec)

/-- ITS FALSE NEIGHBOUR: 'it returns false'. Refute it at one input. -/
def fnBloomNeverDeniesWrong : ChangeSpec := { name := "fnBloomNeverDenies", fn := fun _ => fun
  | [d1, d2] => { results := [.lit (.bool false)], args := [d1, d2] }
  | _ => none }
def FnBloomNeverDeniesWrongFalsely : Prop := fnBloomNeverDeniesRow.holds Try.pinned (OpenSpec.ofChange fnBloomNeverDeniesWrong)

/-- 'laws.FnFalseAnswers': WHATEVER THE INPUT: true; the input reads as it did. -/
def fnFalseAnswersSpec : ChangeSpec := { name := "fnFalseAnswers", fn := fun _ => fun
  | [d1, d2] => { results := [.lit (.bool true)], args := [d1, d2] }
  | _ => none }
def fnFalseAnswersRow : OpenClaim := { program := "ytpkpjikkfikejaa", sum := "1481a907bf47d7e6b1558afbd61b8b73652f374eb37554b45f010edd49951283", func := "loop.example/g01097/laws.FnFalseAnswers", spec := "fnFalseAnswers", unfollowed := true, recurses := true, apart := false }
def FnFalseAnswersSaid : Prop := fnFalseAnswersRow.holds Try.pinned (OpenSpec.ofChange fnFalseAnswersSpec)

/-- ITS FALSE NEIGHBOUR: 'it returns false'. Refute it at one input. -/
def fnFalseAnswersWrong : ChangeSpec := { name := "fnFalseAnswers", fn := fun _ => fun
  | [d1, d2] => { results := [.lit (.bool false)], args := [d1, d2] }
  | _ => none }
def FnFalseAnswersWrongFalsely : Prop := fnFalseAnswersRow.holds Try.pinned (OpenSpec.ofChange fnFalseAnswersWrong)

/- THE SECOND FORM. 'bulk': how many values and letters a reading holds, each counted each time it is reached (what is shared counts as often as it is met; a slice's spare places count too). A statement '..UptoSaid' is the law's where the arguments, and the package variables that the reading takes, are together of bulk at most 1048576: NARROWER than '..Said'. Prove '..Said' where nothing that the law and all that it calls make is longer than what came in: it says more and counts as full. Else prove '..UptoSaid'. A law counts once. -/
mutual
def uptoBulk {H : Type} : DataW H → Nat
  | .lit (.string bytes) => bytes.length + 1
  | .lit _ => 1
  | .nil => 1
  | .ptr d => uptoBulk d + 1
  | .slice elems spare => uptoBulkAll elems + uptoBulkAll spare + 1
  | .agg parts => uptoBulkAll parts + 1
  | .iface _ d => uptoBulk d + 1
  | .map entries => uptoBulkEntries entries + 1
  | .held _ => 1
def uptoBulkAll {H : Type} : List (DataW H) → Nat
  | [] => 0
  | d :: r => uptoBulk d + uptoBulkAll r
def uptoBulkEntries {H : Type} : List (Lit × DataW H) → Nat
  | [] => 0
  | x :: r => uptoBulkEntry x + uptoBulkEntries r
def uptoBulkEntry {H : Type} : Lit × DataW H → Nat
  | (.string bytes, d) => bytes.length + uptoBulk d + 1
  | (_, d) => uptoBulk d + 1
 end
def uptoSmall : (H : Type) → List (DataW H) → Bool := fun _ ds => decide (uptoBulkAll ds ≤ 1048576)
def OpenSpec.upto (s : _root_.Go.ChangeSpec) : _root_.Go.OpenSpec := { _root_.Go.OpenSpec.ofChange s with cond := some uptoSmall }

/-- 'laws.FnExactBloomOf', WHERE WHAT IT READS IS OF BULK AT MOST 1048576: true; the input reads as it did. -/
def fnExactBloomOfUptoRow : OpenClaim := { program := "ytpkpjikkfikejaa", sum := "1481a907bf47d7e6b1558afbd61b8b73652f374eb37554b45f010edd49951283", func := "loop.example/g01097/laws.FnExactBloomOf", spec := "fnExactBloomOf", apart := false, narrowed := true }
def FnExactBloomOfUptoSaid : Prop := fnExactBloomOfUptoRow.holds Try.pinned (OpenSpec.upto fnExactBloomOfSpec)

/-- 'laws.FnExactBloomAdd', WHERE WHAT IT READS IS OF BULK AT MOST 1048576: true; the input reads as it did. -/
def fnExactBloomAddUptoRow : OpenClaim := { program := "ytpkpjikkfikejaa", sum := "1481a907bf47d7e6b1558afbd61b8b73652f374eb37554b45f010edd49951283", func := "loop.example/g01097/laws.FnExactBloomAdd", spec := "fnExactBloomAdd", apart := false, narrowed := true }
def FnExactBloomAddUptoSaid : Prop := fnExactBloomAddUptoRow.holds Try.pinned (OpenSpec.upto fnExactBloomAddSpec)

/-- 'laws.FnExactLeastBloom', WHERE WHAT IT READS IS OF BULK AT MOST 1048576: true; the input reads as it did. -/
def fnExactLeastBloomUptoRow : OpenClaim := { program := "ytpkpjikkfikejaa", sum := "1481a907bf47d7e6b1558afbd61b8b73652f374eb37554b45f010edd49951283", func := "loop.example/g01097/laws.FnExactLeastBloom", spec := "fnExactLeastBloom", unfollowed := true, recurses := true, apart := false, narrowed := true }
def FnExactLeastBloomUptoSaid : Prop := fnExactLeastBloomUptoRow.holds Try.pinned (OpenSpec.upto fnExactLeastBloomSpec)

/-- 'laws.FnExactCountingRemove', WHERE WHAT IT READS IS OF BULK AT MOST 1048576: true; the input reads as it did. -/
def fnExactCountingRemoveUptoRow : OpenClaim := { program := "ytpkpjikkfikejaa", sum := "1481a907bf47d7e6b1558afbd61b8b73652f374eb37554b45f010edd49951283", func := "loop.example/g01097/laws.FnExactCountingRemove", spec := "fnExactCountingRemove", unfollowed := true, recurses := true, apart := false, narrowed := true }
def FnExactCountingRemoveUptoSaid : Prop := fnExactCountingRemoveUptoRow.holds Try.pinned (OpenSpec.upto fnExactCountingRemoveSpec)

/-- 'laws.FnExactShareOf', WHERE WHAT IT READS IS OF BULK AT MOST 1048576: true; the input reads as it did. -/
def fnExactShareOfUptoRow : OpenClaim := { program := "ytpkpjikkfikejaa", sum := "1481a907bf47d7e6b1558afbd61b8b73652f374eb37554b45f010edd49951283", func := "loop.example/g01097/laws.FnExactShareOf", spec := "fnExactShareOf", unfollowed := true, recurses := true, apart := false, narrowed := true }
def FnExactShareOfUptoSaid : Prop := fnExactShareOfUptoRow.holds Try.pinned (OpenSpec.upto fnExactShareOfSpec)

/-- 'laws.FnExactFalseAnswers', WHERE WHAT IT READS IS OF BULK AT MOST 1048576: true; the input reads as it did. -/
def fnExactFalseAnswersUptoRow : OpenClaim := { program := "ytpkpjikkfikejaa", sum := "1481a907bf47d7e6b1558afbd61b8b73652f374eb37554b45f010edd49951283", func := "loop.example/g01097/laws.FnExactFalseAnswers", spec := "fnExactFalseAnswers", unfollowed := true, recurses := true, apart := false, narrowed := true }
def FnExactFalseAnswersUptoSaid : Prop := fnExactFalseAnswersUptoRow.holds Try.pinned (OpenSpec.upto fnExactFalseAnswersSpec)

/-- 'laws.FnExactPrintFalse', WHERE WHAT IT READS IS OF BULK AT MOST 1048576: true; the input reads as it did. -/
def fnExactPrintFalseUptoRow : OpenClaim := { program := "ytpkpjikkfikejaa", sum := "1481a907bf47d7e6b1558afbd61b8b73652f374eb37554b45f010edd49951283", func := "loop.example/g01097/laws.FnExactPrintFalse", spec := "fnExactPrintFalse", unfollowed := true, recurses := true, apart := false, narrowed := true }
def FnExactPrintFalseUptoSaid : Prop := fnExactPrintFalseUptoRow.holds Try.pinned (OpenSpec.upto fnExactPrintFalseSpec)

/-- 'laws.FnBloomAnswers', WHERE WHAT IT READS IS OF BULK AT MOST 1048576: true; the input reads as it did. -/
def fnBloomAnswersUptoRow : OpenClaim := { program := "ytpkpjikkfikejaa", sum := "1481a907bf47d7e6b1558afbd61b8b73652f374eb37554b45f010edd49951283", func := "loop.example/g01097/laws.FnBloomAnswers", spec := "fnBloomAnswers", apart := false, narrowed := true }
def FnBloomAnswersUptoSaid : Prop := fnBloomAnswersUptoRow.holds Try.pinned (OpenSpec.upto fnBloomAnswersSpec)

/-- 'laws.FnCountingForgets', WHERE WHAT IT READS IS OF BULK AT MOST 1048576: true; the input reads as it did. -/
def fnCountingForgetsUptoRow : OpenClaim := { program := "ytpkpjikkfikejaa", sum := "1481a907bf47d7e6b1558afbd61b8b73652f374eb37554b45f010edd49951283", func := "loop.example/g01097/laws.FnCountingForgets", spec := "fnCountingForgets", unfollowed := true, recurses := true, apart := false, narrowed := true }
def FnCountingForgetsUptoSaid : Prop := fnCountingForgetsUptoRow.holds Try.pinned (OpenSpec.upto fnCountingForgetsSpec)

/-- 'laws.FnBloomNeverDenies', WHERE WHAT IT READS IS OF BULK AT MOST 1048576: true; the input reads as it did. -/
def fnBloomNeverDeniesUptoRow : OpenClaim := { program := "ytpkpjikkfikejaa", sum := "1481a907bf47d7e6b1558afbd61b8b73652f374eb37554b45f010edd49951283", func := "loop.example/g01097/laws.FnBloomNeverDenies", spec := "fnBloomNeverDenies", unfollowed := true, recurses := true, apart := false, narrowed := true }
def FnBloomNeverDeniesUptoSaid : Prop := fnBloomNeverDeniesUptoRow.holds Try.pinned (OpenSpec.upto fnBloomNeverDeniesSpec)

/-- 'laws.FnFalseAnswers', WHERE WHAT IT READS IS OF BULK AT MOST 1048576: true; the input reads as it did. -/
def fnFalseAnswersUptoRow : OpenClaim := { program := "ytpkpjikkfikejaa", sum := "1481a907bf47d7e6b1558afbd61b8b73652f374eb37554b45f010edd49951283", func := "loop.example/g01097/laws.FnFalseAnswers", spec := "fnFalseAnswers", unfollowed := true, recurses := true, apart := false, narrowed := true }
def FnFalseAnswersUptoSaid : Prop := fnFalseAnswersUptoRow.holds Try.pinned (OpenSpec.upto fnFalseAnswersSpec)

end Rows
end Go.Proofs.Ytpkpjikkfikejaa
