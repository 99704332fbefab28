/- Tables: sizes, copies, comparisons and marks. -/
import Derived.Test.YtpkpjikkfikejaaPAx40
import Derived.Test.YtpkpjikkfikejaaPAx41
import Derived.Test.YtpkpjikkfikejaaQ4
import Derived.Test.YtpkpjikkfikejaaQ4m
import Derived.Test.YtpkpjikkfikejaaQB6i
namespace Go.Proofs.YtpkpjikkfikejaaQ
open Go Go.RowKit Go.Proofs.YtpkpjikkfikejaaW.PrintWords Go.Proofs.YtpkpjikkfikejaaGp Go.Proofs.Ytpkpjikkfikejaa.PA

theorem szTable_f (a0 a1 a2 : Int) (l : List Int) (a : Int) (hl : l.length ≤ maxLen) (h0 : 0 ≤ a) (h1 : a ≤ 1048576) : laws_szTable.f a0 a1 a2 l a = some (leftI a l) := by
  unfold laws_szTable.f
  rw [szIntS_f l a hl h0 h1]
  simp only [Option.bind_some]
  unfold leftI neg1
  split
  · rfl
  · rfl
theorem toTable_f (a0 a1 n : Int) (l : List Int) (hl : (l.length : Int) ≤ 1048576) : Ev (fun k => laws_toTable.f k a0 a1 n l) (a0, a1, n, l) := by
  unfold laws_toTable.f
  exact ev_bind _ (toIntS_f l hl) (Ev.now _)
theorem eqTable_same (a0 a1 n : Int) (l : List Int) (hl : (l.length : Int) ≤ 9223372036854775806) : Ev (fun k => laws_eqTable.f k a0 a1 n l a0 a1 n l) true := by
  unfold laws_eqTable.f
  exact ev_pos rfl (ev_pos rfl (ev_pos rfl (ev_bind true (by simpa using eqIntS_f l l hl) (ev_pos rfl (Ev.now _)))))
theorem markTable_f (a0 a1 n : Int) (l : List Int) (a : Int) (h0 : 0 ≤ a) (h1 : a + (l.length : Int) ≤ 4611686018427387904) : Ev (fun k => laws_markTable.f k a0 a1 n l a) (a + (l.length : Int), counts l.length a) := by
  unfold laws_markTable.f
  exact ev_bind _ (markIntS_f l a h0 h1) (Ev.now _)
end Go.Proofs.YtpkpjikkfikejaaQ
