/- Arguments of the laws: rows of whole numbers, their sizes. -/
import Derived.Test.YtpkpjikkfikejaaPAx19
import Derived.Test.YtpkpjikkfikejaaQ1
namespace Go.Proofs.YtpkpjikkfikejaaQ
open Go Go.RowKit Go.Proofs.YtpkpjikkfikejaaW.PrintWords Go.Proofs.YtpkpjikkfikejaaGp Go.Proofs.Ytpkpjikkfikejaa.PA

def leftI (a : Int) (l : List Int) : Int := neg1 (a - (l.length : Int))
theorem szIntS_f (l : List Int) (a : Int) (hl : l.length ≤ maxLen) (h0 : 0 ≤ a) (h1 : a ≤ 1048576) : laws_szIntS.f l a = some (leftI a l) := by
  have := maxLen_eq
  unfold laws_szIntS.f leftI neg1
  rw [w64 (by omega) (by omega)]
  split <;> rfl
theorem leftI_ok {a : Int} {l : List Int} (h : ¬ leftI a l < 0) : leftI a l = a - (l.length : Int) ∧ (l.length : Int) ≤ a := by
  unfold leftI neg1 at *
  split at h <;> omega
end Go.Proofs.YtpkpjikkfikejaaQ
