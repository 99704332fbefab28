/- The greater of two numbers. -/
import Derived.Test.YthkcgimnagpmaaaPAx7
import Derived.Test.YthkcgimnagpmaaaQ0
namespace Go.Proofs.YthkcgimnagpmaaaQ
open Go Go.RowKit Go.Proofs.YthkcgimnagpmaaaW.PrintWords Go.Proofs.YthkcgimnagpmaaaGp Go.Proofs.Ythkcgimnagpmaaa.PA

theorem most_f (a b : Int) : spec_l1Most.f a b = some (if a > b then a else b) := by
  unfold spec_l1Most.f
  split <;> rfl
end Go.Proofs.YthkcgimnagpmaaaQ
