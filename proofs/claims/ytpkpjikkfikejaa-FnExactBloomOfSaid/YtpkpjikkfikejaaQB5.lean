/- Bits and Bloom filters: the same, marked and held. -/
import Derived.Test.YtpkpjikkfikejaaPAx13
import Derived.Test.YtpkpjikkfikejaaPAx16
import Derived.Test.YtpkpjikkfikejaaPAx17
import Derived.Test.YtpkpjikkfikejaaQ4
import Derived.Test.YtpkpjikkfikejaaQ4m
namespace Go.Proofs.YtpkpjikkfikejaaQ
open Go Go.RowKit Go.Proofs.YtpkpjikkfikejaaW.PrintWords Go.Proofs.YtpkpjikkfikejaaGp Go.Proofs.Ytpkpjikkfikejaa.PA

theorem eqBits_same (n : Int) (l : List Int) (hl : (l.length : Int) ≤ 9223372036854775806) : Ev (fun k => laws_eqBits.f k n l n l) true := by
  unfold laws_eqBits.f
  exact ev_pos rfl (ev_bind true (by simpa using eqIntS_f l l hl) (ev_pos rfl (Ev.now _)))
theorem eqBloom_same (a0 a1 n : Int) (l : List Int) (hl : (l.length : Int) ≤ 9223372036854775806) : Ev (fun k => laws_eqBloom.f k a0 a1 n l a0 a1 n l) true := by
  unfold laws_eqBloom.f
  exact ev_pos rfl (ev_pos rfl (ev_bind true (eqBits_same n l hl) (ev_pos rfl (Ev.now _))))
theorem markBloom_f (a0 a1 n : Int) (l : List Int) (a : Int) (h0 : 0 ≤ a) (h1 : a + (l.length : Int) ≤ 4611686018427387904) : Ev (fun k => laws_markBloom.f k a0 a1 n l a) (a + (l.length : Int), counts l.length a) := by
  unfold laws_markBloom.f laws_markBits.f
  exact ev_bind _ (ev_bind _ (markIntS_f l a h0 h1) (Ev.now _)) (Ev.now _)
theorem heldBloom_f (a0 a1 n : Int) (m : Nat) (a : Int) (h0 : 0 ≤ a) (h1 : a + (m : Int) ≤ 4611686018427387904) : Ev (fun k => laws_heldBloom.f k a0 a1 n (counts m a) a) (a + (m : Int)) := by
  unfold laws_heldBloom.f laws_heldBits.f
  exact ev_bind _ (ev_bind _ (heldIntS_f m a h0 h1) (ev_neg (by omega) (Ev.now _))) (ev_neg (by omega) (Ev.now _))
end Go.Proofs.YtpkpjikkfikejaaQ
