-- printed by a program of this session (wip/gp) out of the translation; Lean checks it
import Derived.Test.YtpkpjikkfikejaaPAx0
import Derived.Test.YtpkpjikkfikejaaPAx1
import Derived.Test.YtpkpjikkfikejaaPAx12
import Derived.Test.YtpkpjikkfikejaaPAx14
import Derived.Test.YtpkpjikkfikejaaPAx15
import Derived.Test.YtpkpjikkfikejaaPAx40
import Derived.Test.YtpkpjikkfikejaaPAx41
namespace Go.Proofs.Ytpkpjikkfikejaa.PA
open Go.RowKit Go.Proofs.YtpkpjikkfikejaaW.PrintWords Go.Proofs.YtpkpjikkfikejaaW.PrintLast Go.Proofs.YtpkpjikkfikejaaW.PrintMore
attribute [local go_sem] max2_int min2_int max_two min_two max_three min_three max_four min_four   -- for this text's walks alone
attribute [local go_sem] Go.Proofs.YtpkpjikkfikejaaGp.str_geq Go.Proofs.YtpkpjikkfikejaaGp.str_gtr Go.Proofs.YtpkpjikkfikejaaGp.str_leq
set_option linter.unusedVariables false
set_option linter.unusedSimpArgs false

/-! ### laws_FnExactPrintFalse: function 9 -/
mutual
def laws_FnExactPrintFalse.j0 : Nat → List ByteArray → List ByteArray → List Int → Bool → List ByteArray → List ByteArray → List Int → Bool → Bool → Int → Int → Int → List Int → Int → Int → Int → List Int → Option (Bool)
 | 0, _, _, _, _, _, _, _, _, _, _, _, _, _, _, _, _, _ => none
 | k + 1, x1, x2, x8, x9, x11, x12, x13, x14, x66, x884000, x884001, x884002, x884003, x910000, x910001, x910002, x910003 => if x66 = true then (some false) else ((laws_toTable.f k x884000 x884001 x884002 x884003).bind fun bt921 => ((laws_eqTable.f k x910000 x910001 x910002 x910003 bt921.1 bt921.2.1 bt921.2.2.1 bt921.2.2.2).bind fun t927 => (if t927 = true then ((laws_toStringS.f k x1).bind fun t928 => ((laws_eqStringS.f k x11 t928).bind fun t931 => (if t931 = true then ((laws_toStringS.f k x2).bind fun t932 => ((laws_eqStringS.f k x12 t932).bind fun t935 => (if t935 = true then ((laws_markTable.f k x910000 x910001 x910002 x910003 1).bind fun bt936 => ((laws_markStringS.f k x11 bt936.1).bind fun bt938 => ((laws_markStringS.f k x12 bt938.1).bind fun bt940 => (if bt940.1 < 0 then (laws_FnExactPrintFalse.j1 k x1 x2 x8 x9 x13 true x884000 x884001 x884002 x884003) else ((laws_eqIntS.f k x13 x8).bind fun t942 => (if t942 = true then (laws_FnExactPrintFalse.j1 k x1 x2 x8 x9 x13 (x14 != x9) x884000 x884001 x884002 x884003) else (laws_FnExactPrintFalse.j1 k x1 x2 x8 x9 x13 true x884000 x884001 x884002 x884003))))))) else (some false)))) else (some false)))) else (some false))))
def laws_FnExactPrintFalse.j1 : Nat → List ByteArray → List ByteArray → List Int → Bool → List Int → Bool → Int → Int → Int → List Int → Option (Bool)
 | 0, _, _, _, _, _, _, _, _, _, _ => none
 | k + 1, x1, x2, x8, x9, x13, x103, x884000, x884001, x884002, x884003 => if x103 = true then (some false) else ((laws_markIntS.f k x13 1).bind fun bt943 => ((laws_heldIntS.f k bt943.2 1).bind fun t945 => (if t945 < 0 then (some false) else (if t945 = bt943.1 then ((laws_toTable.f k x884000 x884001 x884002 x884003).bind fun bt946 => ((laws_toStringS.f k x1).bind fun t952 => ((laws_toStringS.f k x2).bind fun t955 => ((impl_PrintFalse.f k bt946.1 bt946.2.1 bt946.2.2.1 bt946.2.2.2 t952 t955).bind fun bt958 => ((laws_eqIntS.f k bt958.1 x8).bind fun t962 => (if t962 = true then (laws_FnExactPrintFalse.j2 k bt943.2 bt943.1 (bt958.2 != x9)) else (laws_FnExactPrintFalse.j2 k bt943.2 bt943.1 true))))))) else (some false)))))
def laws_FnExactPrintFalse.j2 : Nat → List Int → Int → Bool → Option (Bool)
 | 0, _, _, _ => none
 | k + 1, x13, x16, x133 => if x133 = true then (some false) else ((laws_heldIntS.f k x13 1).bind fun t963 => (if t963 < 0 then (some false) else (if t963 = x16 then (some true) else (some false))))
end
def laws_FnExactPrintFalse.f (k : Nat) (a0_0 : Int) (a0_1 : Int) (a0_2 : Int) (l0_3 : List Int) (l1 : List ByteArray) (l2 : List ByteArray) : Option (Bool) := (laws_szTable.f a0_0 a0_1 a0_2 l0_3 1048576).bind fun t884 => (if t884 < 0 then (some true) else ((laws_szStringS.f k l1 t884).bind fun t885 => (if t885 < 0 then (some true) else ((laws_szStringS.f k l2 t885).bind fun t886 => (if t886 < 0 then (some true) else ((laws_toTable.f k a0_0 a0_1 a0_2 l0_3).bind fun bt887 => ((laws_toStringS.f k l1).bind fun t893 => ((laws_toStringS.f k l2).bind fun t896 => ((spec_PrintFalse.f k bt887.1 bt887.2.1 bt887.2.2.1 bt887.2.2.2 t893 t896).bind fun bt899 => ((laws_toTable.f k a0_0 a0_1 a0_2 l0_3).bind fun bt903 => ((laws_toStringS.f k l1).bind fun t910 => ((laws_toStringS.f k l2).bind fun t913 => ((impl_PrintFalse.f k bt903.1 bt903.2.1 bt903.2.2.1 bt903.2.2.2 t910 t913).bind fun bt916 => ((laws_eqIntS.f k bt916.1 bt899.1).bind fun t920 => (if t920 = true then (laws_FnExactPrintFalse.j0 k l1 l2 bt899.1 bt899.2 t910 t913 bt916.1 bt916.2 (bt916.2 != bt899.2) a0_0 a0_1 a0_2 l0_3 bt903.1 bt903.2.1 bt903.2.2.1 bt903.2.2.2) else (laws_FnExactPrintFalse.j0 k l1 l2 bt899.1 bt899.2 t910 t913 bt916.1 bt916.2 true a0_0 a0_1 a0_2 l0_3 bt903.1 bt903.2.1 bt903.2.2.1 bt903.2.2.2))))))))))))))))
theorem laws_FnExactPrintFalse.mono_l : ∀ k, (∀ y0 y1 y2 y3 y4 y5 y6 y7 y8 y9 y10 y11 y12 y13 y14 y15 y16, LeO (laws_FnExactPrintFalse.j0 k y0 y1 y2 y3 y4 y5 y6 y7 y8 y9 y10 y11 y12 y13 y14 y15 y16) (laws_FnExactPrintFalse.j0 (k + 1) y0 y1 y2 y3 y4 y5 y6 y7 y8 y9 y10 y11 y12 y13 y14 y15 y16)) ∧ (∀ y0 y1 y2 y3 y4 y5 y6 y7 y8 y9, LeO (laws_FnExactPrintFalse.j1 k y0 y1 y2 y3 y4 y5 y6 y7 y8 y9) (laws_FnExactPrintFalse.j1 (k + 1) y0 y1 y2 y3 y4 y5 y6 y7 y8 y9)) ∧ (∀ y0 y1 y2, LeO (laws_FnExactPrintFalse.j2 k y0 y1 y2) (laws_FnExactPrintFalse.j2 (k + 1) y0 y1 y2))
 | 0 => ⟨fun _ _ _ _ _ _ _ _ _ _ _ _ _ _ _ _ _ r h => by simp [laws_FnExactPrintFalse.j0] at h, fun _ _ _ _ _ _ _ _ _ _ r h => by simp [laws_FnExactPrintFalse.j1] at h, fun _ _ _ r h => by simp [laws_FnExactPrintFalse.j2] at h⟩
 | k + 1 => by
  obtain ⟨ih0, ih1, ih2⟩ := laws_FnExactPrintFalse.mono_l k
  refine ⟨?_, ?_, ?_⟩
  ·intro y0 y1 y2 y3 y4 y5 y6 y7 y8 y9 y10 y11 y12 y13 y14 y15 y16
   unfold laws_FnExactPrintFalse.j0
   repeat' first
   | (with_reducible exact ih0 _ _ _ _ _ _ _ _ _ _ _ _ _ _ _ _ _)
   | (with_reducible exact ih1 _ _ _ _ _ _ _ _ _ _)
   | (with_reducible exact ih2 _ _ _)
   | (with_reducible exact impl_PrintFalse.mono _ _ _ _ _ _ _)
   | (with_reducible exact laws_eqIntS.mono _ _ _)
   | (with_reducible exact laws_eqStringS.mono _ _ _)
   | (with_reducible exact laws_eqTable.mono _ _ _ _ _ _ _ _ _)
   | (with_reducible exact laws_heldIntS.mono _ _ _)
   | (with_reducible exact laws_markIntS.mono _ _ _)
   | (with_reducible exact laws_markStringS.mono _ _ _)
   | (with_reducible exact laws_markTable.mono _ _ _ _ _ _)
   | (with_reducible exact laws_szStringS.mono _ _ _)
   | (with_reducible exact laws_toStringS.mono _ _)
   | (with_reducible exact laws_toTable.mono _ _ _ _ _)
   | (with_reducible exact spec_PrintFalse.mono _ _ _ _ _ _ _)
   | (with_reducible exact LeO.refl _)
   | (with_reducible exact LeO.none _)
   | (with_reducible refine LeO.ite ?_ ?_)
   | (with_reducible refine LeO.bind ?_ (fun _ => ?_))
   | exact ih0 _ _ _ _ _ _ _ _ _ _ _ _ _ _ _ _ _
   | exact ih1 _ _ _ _ _ _ _ _ _ _
   | exact ih2 _ _ _
   | exact impl_PrintFalse.mono _ _ _ _ _ _ _
   | exact laws_eqIntS.mono _ _ _
   | exact laws_eqStringS.mono _ _ _
   | exact laws_eqTable.mono _ _ _ _ _ _ _ _ _
   | exact laws_heldIntS.mono _ _ _
   | exact laws_markIntS.mono _ _ _
   | exact laws_markStringS.mono _ _ _
   | exact laws_markTable.mono _ _ _ _ _ _
   | exact laws_szStringS.mono _ _ _
   | exact laws_toStringS.mono _ _
   | exact laws_toTable.mono _ _ _ _ _
   | exact spec_PrintFalse.mono _ _ _ _ _ _ _
   | exact LeO.none _
   | refine LeO.ite ?_ ?_
   | refine LeO.bind ?_ (fun _ => ?_)
  ·intro y0 y1 y2 y3 y4 y5 y6 y7 y8 y9
   unfold laws_FnExactPrintFalse.j1
   repeat' first
   | (with_reducible exact ih0 _ _ _ _ _ _ _ _ _ _ _ _ _ _ _ _ _)
   | (with_reducible exact ih1 _ _ _ _ _ _ _ _ _ _)
   | (with_reducible exact ih2 _ _ _)
   | (with_reducible exact impl_PrintFalse.mono _ _ _ _ _ _ _)
   | (with_reducible exact laws_eqIntS.mono _ _ _)
   | (with_reducible exact laws_eqStringS.mono _ _ _)
   | (with_reducible exact laws_eqTable.mono _ _ _ _ _ _ _ _ _)
   | (with_reducible exact laws_heldIntS.mono _ _ _)
   | (with_reducible exact laws_markIntS.mono _ _ _)
   | (with_reducible exact laws_markStringS.mono _ _ _)
   | (with_reducible exact laws_markTable.mono _ _ _ _ _ _)
   | (with_reducible exact laws_szStringS.mono _ _ _)
   | (with_reducible exact laws_toStringS.mono _ _)
   | (with_reducible exact laws_toTable.mono _ _ _ _ _)
   | (with_reducible exact spec_PrintFalse.mono _ _ _ _ _ _ _)
   | (with_reducible exact LeO.refl _)
   | (with_reducible exact LeO.none _)
   | (with_reducible refine LeO.ite ?_ ?_)
   | (with_reducible refine LeO.bind ?_ (fun _ => ?_))
   | exact ih0 _ _ _ _ _ _ _ _ _ _ _ _ _ _ _ _ _
   | exact ih1 _ _ _ _ _ _ _ _ _ _
   | exact ih2 _ _ _
   | exact impl_PrintFalse.mono _ _ _ _ _ _ _
   | exact laws_eqIntS.mono _ _ _
   | exact laws_eqStringS.mono _ _ _
   | exact laws_eqTable.mono _ _ _ _ _ _ _ _ _
   | exact laws_heldIntS.mono _ _ _
   | exact laws_markIntS.mono _ _ _
   | exact laws_markStringS.mono _ _ _
   | exact laws_markTable.mono _ _ _ _ _ _
   | exact laws_szStringS.mono _ _ _
   | exact laws_toStringS.mono _ _
   | exact laws_toTable.mono _ _ _ _ _
   | exact spec_PrintFalse.mono _ _ _ _ _ _ _
   | exact LeO.none _
   | refine LeO.ite ?_ ?_
   | refine LeO.bind ?_ (fun _ => ?_)
  ·intro y0 y1 y2
   unfold laws_FnExactPrintFalse.j2
   repeat' first
   | (with_reducible exact ih0 _ _ _ _ _ _ _ _ _ _ _ _ _ _ _ _ _)
   | (with_reducible exact ih1 _ _ _ _ _ _ _ _ _ _)
   | (with_reducible exact ih2 _ _ _)
   | (with_reducible exact impl_PrintFalse.mono _ _ _ _ _ _ _)
   | (with_reducible exact laws_eqIntS.mono _ _ _)
   | (with_reducible exact laws_eqStringS.mono _ _ _)
   | (with_reducible exact laws_eqTable.mono _ _ _ _ _ _ _ _ _)
   | (with_reducible exact laws_heldIntS.mono _ _ _)
   | (with_reducible exact laws_markIntS.mono _ _ _)
   | (with_reducible exact laws_markStringS.mono _ _ _)
   | (with_reducible exact laws_markTable.mono _ _ _ _ _ _)
   | (with_reducible exact laws_szStringS.mono _ _ _)
   | (with_reducible exact laws_toStringS.mono _ _)
   | (with_reducible exact laws_toTable.mono _ _ _ _ _)
   | (with_reducible exact spec_PrintFalse.mono _ _ _ _ _ _ _)
   | (with_reducible exact LeO.refl _)
   | (with_reducible exact LeO.none _)
   | (with_reducible refine LeO.ite ?_ ?_)
   | (with_reducible refine LeO.bind ?_ (fun _ => ?_))
   | exact ih0 _ _ _ _ _ _ _ _ _ _ _ _ _ _ _ _ _
   | exact ih1 _ _ _ _ _ _ _ _ _ _
   | exact ih2 _ _ _
   | exact impl_PrintFalse.mono _ _ _ _ _ _ _
   | exact laws_eqIntS.mono _ _ _
   | exact laws_eqStringS.mono _ _ _
   | exact laws_eqTable.mono _ _ _ _ _ _ _ _ _
   | exact laws_heldIntS.mono _ _ _
   | exact laws_markIntS.mono _ _ _
   | exact laws_markStringS.mono _ _ _
   | exact laws_markTable.mono _ _ _ _ _ _
   | exact laws_szStringS.mono _ _ _
   | exact laws_toStringS.mono _ _
   | exact laws_toTable.mono _ _ _ _ _
   | exact spec_PrintFalse.mono _ _ _ _ _ _ _
   | exact LeO.none _
   | refine LeO.ite ?_ ?_
   | refine LeO.bind ?_ (fun _ => ?_)
theorem laws_FnExactPrintFalse.mono : ∀ a0 a1 a2 a3 a4 a5 k, LeO (laws_FnExactPrintFalse.f k a0 a1 a2 a3 a4 a5) (laws_FnExactPrintFalse.f (k + 1) a0 a1 a2 a3 a4 a5) := by
 intro a0 a1 a2 a3 a4 a5 k
 obtain ⟨ih0, ih1, ih2⟩ := laws_FnExactPrintFalse.mono_l k
 unfold laws_FnExactPrintFalse.f
 repeat' first
   | (with_reducible exact ih0 _ _ _ _ _ _ _ _ _ _ _ _ _ _ _ _ _)
   | (with_reducible exact ih1 _ _ _ _ _ _ _ _ _ _)
   | (with_reducible exact ih2 _ _ _)
   | (with_reducible exact impl_PrintFalse.mono _ _ _ _ _ _ _)
   | (with_reducible exact laws_eqIntS.mono _ _ _)
   | (with_reducible exact laws_eqStringS.mono _ _ _)
   | (with_reducible exact laws_eqTable.mono _ _ _ _ _ _ _ _ _)
   | (with_reducible exact laws_heldIntS.mono _ _ _)
   | (with_reducible exact laws_markIntS.mono _ _ _)
   | (with_reducible exact laws_markStringS.mono _ _ _)
   | (with_reducible exact laws_markTable.mono _ _ _ _ _ _)
   | (with_reducible exact laws_szStringS.mono _ _ _)
   | (with_reducible exact laws_toStringS.mono _ _)
   | (with_reducible exact laws_toTable.mono _ _ _ _ _)
   | (with_reducible exact spec_PrintFalse.mono _ _ _ _ _ _ _)
   | (with_reducible exact LeO.refl _)
   | (with_reducible exact LeO.none _)
   | (with_reducible refine LeO.ite ?_ ?_)
   | (with_reducible refine LeO.bind ?_ (fun _ => ?_))
   | exact ih0 _ _ _ _ _ _ _ _ _ _ _ _ _ _ _ _ _
   | exact ih1 _ _ _ _ _ _ _ _ _ _
   | exact ih2 _ _ _
   | exact impl_PrintFalse.mono _ _ _ _ _ _ _
   | exact laws_eqIntS.mono _ _ _
   | exact laws_eqStringS.mono _ _ _
   | exact laws_eqTable.mono _ _ _ _ _ _ _ _ _
   | exact laws_heldIntS.mono _ _ _
   | exact laws_markIntS.mono _ _ _
   | exact laws_markStringS.mono _ _ _
   | exact laws_markTable.mono _ _ _ _ _ _
   | exact laws_szStringS.mono _ _ _
   | exact laws_toStringS.mono _ _
   | exact laws_toTable.mono _ _ _ _ _
   | exact spec_PrintFalse.mono _ _ _ _ _ _ _
   | exact LeO.none _
   | refine LeO.ite ?_ ?_
   | refine LeO.bind ?_ (fun _ => ?_)
set_option maxHeartbeats 8000000 in
set_option maxRecDepth 100000 in
theorem laws_FnExactPrintFalse.calls (k : Nat) (a0_0 : Int) (a0_1 : Int) (a0_2 : Int) (A0_3 : Option Addr) (c0_3 : Nat) (l0_3 : List Int) (A1 : Option Addr) (c1 : Nat) (l1 : List ByteArray) (A2 : Option Addr) (c2 : Nat) (l2 : List ByteArray) (r : Bool) (w : World) (hr0_3 : Kd.C (Kd.int .i64) w A0_3 l0_3.length l0_3) (hc0_3 : l0_3.length ≤ c0_3) (hr1 : Kd.C Kd.string w A1 l1.length l1) (hc1 : l1.length ≤ c1) (hr2 : Kd.C Kd.string w A2 l2.length l2) (hc2 : l2.length ≤ c2) (h : laws_FnExactPrintFalse.f k a0_0 a0_1 a0_2 l0_3 l1 l2 = some r) :
  Calls Try.prog 9 #[.agg #[.int .i64 a0_0, .int .i64 a0_1, .int .i64 a0_2, .slice A0_3 l0_3.length c0_3], .slice A1 l1.length c1, .slice A2 l2.length c2] w fun e w' => e = .returned (.bool r) ∧ Below w.heap.size w w' := by
 have hu65 := Try.underlying65
 have hu68 := Try.underlying68
 have HR0_3 := Aside0.mk hr0_3
 have HC0_3 := Aside0.mk hc0_3
 clear hr0_3 hc0_3
 have HR1 := Aside0.mk hr1
 have HC1 := Aside0.mk hc1
 clear hr1 hc1
 have HR2 := Aside0.mk hr2
 have HC2 := Aside0.mk hc2
 clear hr2 hc2
 have HB := Aside0.mk (Below.refl w.heap.size w)
 have H : ((laws_szTable.f a0_0 a0_1 a0_2 l0_3 1048576).bind fun t884 => (if t884 < 0 then (some true) else ((laws_szStringS.f k l1 t884).bind fun t885 => (if t885 < 0 then (some true) else ((laws_szStringS.f k l2 t885).bind fun t886 => (if t886 < 0 then (some true) else ((laws_toTable.f k a0_0 a0_1 a0_2 l0_3).bind fun bt887 => ((laws_toStringS.f k l1).bind fun t893 => ((laws_toStringS.f k l2).bind fun t896 => ((spec_PrintFalse.f k bt887.1 bt887.2.1 bt887.2.2.1 bt887.2.2.2 t893 t896).bind fun bt899 => ((laws_toTable.f k a0_0 a0_1 a0_2 l0_3).bind fun bt903 => ((laws_toStringS.f k l1).bind fun t910 => ((laws_toStringS.f k l2).bind fun t913 => ((impl_PrintFalse.f k bt903.1 bt903.2.1 bt903.2.2.1 bt903.2.2.2 t910 t913).bind fun bt916 => ((laws_eqIntS.f k bt916.1 bt899.1).bind fun t920 => (if t920 = true then (laws_FnExactPrintFalse.j0 k l1 l2 bt899.1 bt899.2 t910 t913 bt916.1 bt916.2 (bt916.2 != bt899.2) a0_0 a0_1 a0_2 l0_3 bt903.1 bt903.2.1 bt903.2.2.1 bt903.2.2.2) else (laws_FnExactPrintFalse.j0 k l1 l2 bt899.1 bt899.2 t910 t913 bt916.1 bt916.2 true a0_0 a0_1 a0_2 l0_3 bt903.1 bt903.2.1 bt903.2.2.1 bt903.2.2.2))))))))))))))))) = some r := h
 clear h
 replace H := Option.bind_eq_some_iff.mp H
 obtain ⟨t884, A40, H⟩ := H
 replace H : (if t884 < 0 then (some true) else ((laws_szStringS.f k l1 t884).bind fun t885 => (if t885 < 0 then (some true) else ((laws_szStringS.f k l2 t885).bind fun t886 => (if t886 < 0 then (some true) else ((laws_toTable.f k a0_0 a0_1 a0_2 l0_3).bind fun bt887 => ((laws_toStringS.f k l1).bind fun t893 => ((laws_toStringS.f k l2).bind fun t896 => ((spec_PrintFalse.f k bt887.1 bt887.2.1 bt887.2.2.1 bt887.2.2.2 t893 t896).bind fun bt899 => ((laws_toTable.f k a0_0 a0_1 a0_2 l0_3).bind fun bt903 => ((laws_toStringS.f k l1).bind fun t910 => ((laws_toStringS.f k l2).bind fun t913 => ((impl_PrintFalse.f k bt903.1 bt903.2.1 bt903.2.2.1 bt903.2.2.2 t910 t913).bind fun bt916 => ((laws_eqIntS.f k bt916.1 bt899.1).bind fun t920 => (if t920 = true then (laws_FnExactPrintFalse.j0 k l1 l2 bt899.1 bt899.2 t910 t913 bt916.1 bt916.2 (bt916.2 != bt899.2) a0_0 a0_1 a0_2 l0_3 bt903.1 bt903.2.1 bt903.2.2.1 bt903.2.2.2) else (laws_FnExactPrintFalse.j0 k l1 l2 bt899.1 bt899.2 t910 t913 bt916.1 bt916.2 true a0_0 a0_1 a0_2 l0_3 bt903.1 bt903.2.1 bt903.2.2.1 bt903.2.2.2)))))))))))))))) = some r := H
 have A4 := Aside0.mk A40
 clear A40
 by_cases c5 : t884 < 0
 ·rw [if_pos c5] at H
  have c5b0 : decide (t884 < 0) = true := decide_eq_true c5
  clear c5
  obtain rfl := Option.some.inj H
  go_enter Try.func9, Try.ntmps9
  go_wp2_with (first | ((with_reducible refine gate_dst (N := 3) rfl ?_); refine box_event ?hg (N := 3) ?hd (cs := #[.int .i64 a0_0, .int .i64 a0_1, .int .i64 a0_2, .slice A0_3 l0_3.length c0_3]) (t := 65) ?hr ?_; (case hd => rfl); (case hg => rfl); (case hr => first | (go_simp; done) | (go_simp; rfl)); intro gb883 hg w6 hbox hb; have n0_ := Aside0.mk (below_step (by repeat (first | (with_reducible first | exact HB.out | apply below_alloc | apply pw_below_drewN | apply below_drew1) | exact HB.out)) hb); have n1_ := Aside0.mk (hbox); have n2_ := Aside0.mk ((by rw [hg]; exact (below_size (by repeat (first | (with_reducible first | exact HB.out | apply below_alloc | apply pw_below_drewN | apply below_drew1) | exact HB.out))) : w.heap.size ≤ gb883)); have n3_ := Aside0.mk ((by rw [hg]; exact (below_size (by repeat (first | (with_reducible first | exact HB.out | apply below_alloc | apply pw_below_drewN | apply below_drew1) | exact HB.out))) : w.heap.size ≤ gb883)); clear HB; have HB := n0_; have BK883 := n1_; have GW883 := n2_; have GE883 := n3_; clear n0_ n1_ n2_ n3_; clear hb hbox hg; have hcz7_0 : w6.cell? ⟨gb883, 0, none⟩ = some (.int .i64 a0_0) := (blk_cell BK883.out 0).trans rfl; have hcz7_1 : w6.cell? ⟨gb883, 1, none⟩ = some (.int .i64 a0_1) := (blk_cell BK883.out 1).trans rfl; have hcz7_2 : w6.cell? ⟨gb883, 2, none⟩ = some (.int .i64 a0_2) := (blk_cell BK883.out 2).trans rfl; have hcz7_3 : w6.cell? ⟨gb883, 3, none⟩ = some (.slice A0_3 l0_3.length c0_3) := (blk_cell BK883.out 3).trans rfl; have hfz7_0 := blk_frozen BK883.out 0; have hfz7_1 := blk_frozen BK883.out 1; have hfz7_2 := blk_frozen BK883.out 2; have hfz7_3 := blk_frozen BK883.out 3) | ((with_reducible refine gate_callee (f := 43) rfl ?_); refine goesL_ (some 22) rfl rfl Try.func43 (by kernel_rfl) rfl #[.agg #[.int .i64 a0_0, .int .i64 a0_1, .int .i64 a0_2, .slice A0_3 l0_3.length c0_3], .int .i64 1048576] rfl (by (try simp only [List.map_toArray, List.map_cons, List.map_nil]); first | done | rfl | (simp only [List.length_drop, List.length_take]; rfl)) ?_; (with_reducible refine (laws_szTable.calls a0_0 a0_1 a0_2 _ _ l0_3 1048576 t884 _ ?side1 ?side2 A4.out).mono ?_); (case side1 => repeat (first | exact (Kd.C_below HR0_3.out HB.out) | (with_reducible refine Kd.C_alloc ?_ _) | (with_reducible refine Kd.C_drewN ?_ _) | (with_reducible refine Kd.C_drew ?_))); (case side2 => exact HC0_3.out); rintro e w8 ⟨rfl, hb⟩; refine ⟨_, rfl, ?_⟩; have n0_ := Aside0.mk (blk_below (g := gb883) (o := .cells #[.int .i64 a0_0, .int .i64 a0_1, .int .i64 a0_2, .slice A0_3 l0_3.length c0_3] 65 (0, 0)) (by (with_reducible repeat (first | refine blk_drewN ?_ _ | refine blk_drew ?_ | refine blk_alloc ?_ _)); exact BK883.out) hb); have n1_ := Aside0.mk (below_step (by repeat (first | (with_reducible first | exact HB.out | apply below_alloc | apply pw_below_drewN | apply below_drew1 | refine below_set ?_ GE883.out) | exact HB.out)) hb); clear BK883; clear HB; have BK883 := n0_; have HB := n1_; clear n0_ n1_; (try clear hb); (try clear hb2); (try clear hk); (try clear hi)))
  go_ret
  exact ⟨by first | rfl | (simp [errW_none, errW_some] <;> rfl) | (simp [*, errW_none, errW_some] <;> rfl), by repeat (first | (with_reducible first | exact HB.out | apply below_alloc | apply pw_below_drewN | apply below_drew1 | refine below_set ?_ GE883.out) | exact HB.out)⟩
 ·rw [if_neg c5] at H
  have c5b0 : decide (t884 < 0) = false := decide_eq_false c5
  clear c5
  replace H := Option.bind_eq_some_iff.mp H
  obtain ⟨t885, A90, H⟩ := H
  replace H : (if t885 < 0 then (some true) else ((laws_szStringS.f k l2 t885).bind fun t886 => (if t886 < 0 then (some true) else ((laws_toTable.f k a0_0 a0_1 a0_2 l0_3).bind fun bt887 => ((laws_toStringS.f k l1).bind fun t893 => ((laws_toStringS.f k l2).bind fun t896 => ((spec_PrintFalse.f k bt887.1 bt887.2.1 bt887.2.2.1 bt887.2.2.2 t893 t896).bind fun bt899 => ((laws_toTable.f k a0_0 a0_1 a0_2 l0_3).bind fun bt903 => ((laws_toStringS.f k l1).bind fun t910 => ((laws_toStringS.f k l2).bind fun t913 => ((impl_PrintFalse.f k bt903.1 bt903.2.1 bt903.2.2.1 bt903.2.2.2 t910 t913).bind fun bt916 => ((laws_eqIntS.f k bt916.1 bt899.1).bind fun t920 => (if t920 = true then (laws_FnExactPrintFalse.j0 k l1 l2 bt899.1 bt899.2 t910 t913 bt916.1 bt916.2 (bt916.2 != bt899.2) a0_0 a0_1 a0_2 l0_3 bt903.1 bt903.2.1 bt903.2.2.1 bt903.2.2.2) else (laws_FnExactPrintFalse.j0 k l1 l2 bt899.1 bt899.2 t910 t913 bt916.1 bt916.2 true a0_0 a0_1 a0_2 l0_3 bt903.1 bt903.2.1 bt903.2.2.1 bt903.2.2.2)))))))))))))) = some r := H
  have A9 := Aside0.mk A90
  clear A90
  by_cases c10 : t885 < 0
  ·rw [if_pos c10] at H
   have c10b0 : decide (t885 < 0) = true := decide_eq_true c10
   clear c10
   obtain rfl := Option.some.inj H
   go_enter Try.func9, Try.ntmps9
   go_wp2_with (first | ((with_reducible refine gate_dst (N := 3) rfl ?_); refine box_event ?hg (N := 3) ?hd (cs := #[.int .i64 a0_0, .int .i64 a0_1, .int .i64 a0_2, .slice A0_3 l0_3.length c0_3]) (t := 65) ?hr ?_; (case hd => rfl); (case hg => rfl); (case hr => first | (go_simp; done) | (go_simp; rfl)); intro gb883 hg w11 hbox hb; have n0_ := Aside0.mk (below_step (by repeat (first | (with_reducible first | exact HB.out | apply below_alloc | apply pw_below_drewN | apply below_drew1) | exact HB.out)) hb); have n1_ := Aside0.mk (hbox); have n2_ := Aside0.mk ((by rw [hg]; exact (below_size (by repeat (first | (with_reducible first | exact HB.out | apply below_alloc | apply pw_below_drewN | apply below_drew1) | exact HB.out))) : w.heap.size ≤ gb883)); have n3_ := Aside0.mk ((by rw [hg]; exact (below_size (by repeat (first | (with_reducible first | exact HB.out | apply below_alloc | apply pw_below_drewN | apply below_drew1) | exact HB.out))) : w.heap.size ≤ gb883)); clear HB; have HB := n0_; have BK883 := n1_; have GW883 := n2_; have GE883 := n3_; clear n0_ n1_ n2_ n3_; clear hb hbox hg; have hcz12_0 : w11.cell? ⟨gb883, 0, none⟩ = some (.int .i64 a0_0) := (blk_cell BK883.out 0).trans rfl; have hcz12_1 : w11.cell? ⟨gb883, 1, none⟩ = some (.int .i64 a0_1) := (blk_cell BK883.out 1).trans rfl; have hcz12_2 : w11.cell? ⟨gb883, 2, none⟩ = some (.int .i64 a0_2) := (blk_cell BK883.out 2).trans rfl; have hcz12_3 : w11.cell? ⟨gb883, 3, none⟩ = some (.slice A0_3 l0_3.length c0_3) := (blk_cell BK883.out 3).trans rfl; have hfz12_0 := blk_frozen BK883.out 0; have hfz12_1 := blk_frozen BK883.out 1; have hfz12_2 := blk_frozen BK883.out 2; have hfz12_3 := blk_frozen BK883.out 3) | ((with_reducible refine gate_callee (f := 43) rfl ?_); refine goesL_ (some 22) rfl rfl Try.func43 (by kernel_rfl) rfl #[.agg #[.int .i64 a0_0, .int .i64 a0_1, .int .i64 a0_2, .slice A0_3 l0_3.length c0_3], .int .i64 1048576] rfl (by (try simp only [List.map_toArray, List.map_cons, List.map_nil]); first | done | rfl | (simp only [List.length_drop, List.length_take]; rfl)) ?_; (with_reducible refine (laws_szTable.calls a0_0 a0_1 a0_2 _ _ l0_3 1048576 t884 _ ?side1 ?side2 A4.out).mono ?_); (case side1 => repeat (first | exact (Kd.C_below HR0_3.out HB.out) | (with_reducible refine Kd.C_alloc ?_ _) | (with_reducible refine Kd.C_drewN ?_ _) | (with_reducible refine Kd.C_drew ?_))); (case side2 => exact HC0_3.out); rintro e w13 ⟨rfl, hb⟩; refine ⟨_, rfl, ?_⟩; have n0_ := Aside0.mk (blk_below (g := gb883) (o := .cells #[.int .i64 a0_0, .int .i64 a0_1, .int .i64 a0_2, .slice A0_3 l0_3.length c0_3] 65 (0, 0)) (by (with_reducible repeat (first | refine blk_drewN ?_ _ | refine blk_drew ?_ | refine blk_alloc ?_ _)); exact BK883.out) hb); have n1_ := Aside0.mk (below_step (by repeat (first | (with_reducible first | exact HB.out | apply below_alloc | apply pw_below_drewN | apply below_drew1 | refine below_set ?_ GE883.out) | exact HB.out)) hb); clear BK883; clear HB; have BK883 := n0_; have HB := n1_; clear n0_ n1_; (try clear hb); (try clear hb2); (try clear hk); (try clear hi)) | ((with_reducible refine gate_callee (f := 14) rfl ?_); refine goesL_ (some 27) rfl rfl Try.func14 (by kernel_rfl) rfl #[.slice A1 l1.length c1, .int .i64 t884] rfl (by (try simp only [List.map_toArray, List.map_cons, List.map_nil]); first | done | rfl | (simp only [List.length_drop, List.length_take]; rfl)) ?_; (with_reducible refine (laws_szStringS.calls k _ _ l1 t884 t885 _ ?side1 ?side2 A9.out).mono ?_); (case side1 => repeat (first | exact (Kd.C_below HR1.out HB.out) | (with_reducible refine Kd.C_alloc ?_ _) | (with_reducible refine Kd.C_drewN ?_ _) | (with_reducible refine Kd.C_drew ?_))); (case side2 => exact HC1.out); rintro e w' ⟨rfl, ⟨nd, rfl⟩⟩; refine ⟨_, rfl, ?_⟩))
   go_ret
   exact ⟨by first | rfl | (simp [errW_none, errW_some] <;> rfl) | (simp [*, errW_none, errW_some] <;> rfl), by repeat (first | (with_reducible first | exact HB.out | apply below_alloc | apply pw_below_drewN | apply below_drew1 | refine below_set ?_ GE883.out) | exact HB.out)⟩
  ·rw [if_neg c10] at H
   have c10b0 : decide (t885 < 0) = false := decide_eq_false c10
   clear c10
   replace H := Option.bind_eq_some_iff.mp H
   obtain ⟨t886, A140, H⟩ := H
   replace H : (if t886 < 0 then (some true) else ((laws_toTable.f k a0_0 a0_1 a0_2 l0_3).bind fun bt887 => ((laws_toStringS.f k l1).bind fun t893 => ((laws_toStringS.f k l2).bind fun t896 => ((spec_PrintFalse.f k bt887.1 bt887.2.1 bt887.2.2.1 bt887.2.2.2 t893 t896).bind fun bt899 => ((laws_toTable.f k a0_0 a0_1 a0_2 l0_3).bind fun bt903 => ((laws_toStringS.f k l1).bind fun t910 => ((laws_toStringS.f k l2).bind fun t913 => ((impl_PrintFalse.f k bt903.1 bt903.2.1 bt903.2.2.1 bt903.2.2.2 t910 t913).bind fun bt916 => ((laws_eqIntS.f k bt916.1 bt899.1).bind fun t920 => (if t920 = true then (laws_FnExactPrintFalse.j0 k l1 l2 bt899.1 bt899.2 t910 t913 bt916.1 bt916.2 (bt916.2 != bt899.2) a0_0 a0_1 a0_2 l0_3 bt903.1 bt903.2.1 bt903.2.2.1 bt903.2.2.2) else (laws_FnExactPrintFalse.j0 k l1 l2 bt899.1 bt899.2 t910 t913 bt916.1 bt916.2 true a0_0 a0_1 a0_2 l0_3 bt903.1 bt903.2.1 bt903.2.2.1 bt903.2.2.2)))))))))))) = some r := H
   have A14 := Aside0.mk A140
   clear A140
   by_cases c15 : t886 < 0
   ·rw [if_pos c15] at H
    have c15b0 : decide (t886 < 0) = true := decide_eq_true c15
    clear c15
    obtain rfl := Option.some.inj H
    go_enter Try.func9, Try.ntmps9
    go_wp2_with (first | ((with_reducible refine gate_dst (N := 3) rfl ?_); refine box_event ?hg (N := 3) ?hd (cs := #[.int .i64 a0_0, .int .i64 a0_1, .int .i64 a0_2, .slice A0_3 l0_3.length c0_3]) (t := 65) ?hr ?_; (case hd => rfl); (case hg => rfl); (case hr => first | (go_simp; done) | (go_simp; rfl)); intro gb883 hg w16 hbox hb; have n0_ := Aside0.mk (below_step (by repeat (first | (with_reducible first | exact HB.out | apply below_alloc | apply pw_below_drewN | apply below_drew1) | exact HB.out)) hb); have n1_ := Aside0.mk (hbox); have n2_ := Aside0.mk ((by rw [hg]; exact (below_size (by repeat (first | (with_reducible first | exact HB.out | apply below_alloc | apply pw_below_drewN | apply below_drew1) | exact HB.out))) : w.heap.size ≤ gb883)); have n3_ := Aside0.mk ((by rw [hg]; exact (below_size (by repeat (first | (with_reducible first | exact HB.out | apply below_alloc | apply pw_below_drewN | apply below_drew1) | exact HB.out))) : w.heap.size ≤ gb883)); clear HB; have HB := n0_; have BK883 := n1_; have GW883 := n2_; have GE883 := n3_; clear n0_ n1_ n2_ n3_; clear hb hbox hg; have hcz17_0 : w16.cell? ⟨gb883, 0, none⟩ = some (.int .i64 a0_0) := (blk_cell BK883.out 0).trans rfl; have hcz17_1 : w16.cell? ⟨gb883, 1, none⟩ = some (.int .i64 a0_1) := (blk_cell BK883.out 1).trans rfl; have hcz17_2 : w16.cell? ⟨gb883, 2, none⟩ = some (.int .i64 a0_2) := (blk_cell BK883.out 2).trans rfl; have hcz17_3 : w16.cell? ⟨gb883, 3, none⟩ = some (.slice A0_3 l0_3.length c0_3) := (blk_cell BK883.out 3).trans rfl; have hfz17_0 := blk_frozen BK883.out 0; have hfz17_1 := blk_frozen BK883.out 1; have hfz17_2 := blk_frozen BK883.out 2; have hfz17_3 := blk_frozen BK883.out 3) | ((with_reducible refine gate_callee (f := 43) rfl ?_); refine goesL_ (some 22) rfl rfl Try.func43 (by kernel_rfl) rfl #[.agg #[.int .i64 a0_0, .int .i64 a0_1, .int .i64 a0_2, .slice A0_3 l0_3.length c0_3], .int .i64 1048576] rfl (by (try simp only [List.map_toArray, List.map_cons, List.map_nil]); first | done | rfl | (simp only [List.length_drop, List.length_take]; rfl)) ?_; (with_reducible refine (laws_szTable.calls a0_0 a0_1 a0_2 _ _ l0_3 1048576 t884 _ ?side1 ?side2 A4.out).mono ?_); (case side1 => repeat (first | exact (Kd.C_below HR0_3.out HB.out) | (with_reducible refine Kd.C_alloc ?_ _) | (with_reducible refine Kd.C_drewN ?_ _) | (with_reducible refine Kd.C_drew ?_))); (case side2 => exact HC0_3.out); rintro e w18 ⟨rfl, hb⟩; refine ⟨_, rfl, ?_⟩; have n0_ := Aside0.mk (blk_below (g := gb883) (o := .cells #[.int .i64 a0_0, .int .i64 a0_1, .int .i64 a0_2, .slice A0_3 l0_3.length c0_3] 65 (0, 0)) (by (with_reducible repeat (first | refine blk_drewN ?_ _ | refine blk_drew ?_ | refine blk_alloc ?_ _)); exact BK883.out) hb); have n1_ := Aside0.mk (below_step (by repeat (first | (with_reducible first | exact HB.out | apply below_alloc | apply pw_below_drewN | apply below_drew1 | refine below_set ?_ GE883.out) | exact HB.out)) hb); clear BK883; clear HB; have BK883 := n0_; have HB := n1_; clear n0_ n1_; (try clear hb); (try clear hb2); (try clear hk); (try clear hi)) | ((with_reducible refine gate_callee (f := 14) rfl ?_); refine goesL_ (some 27) rfl rfl Try.func14 (by kernel_rfl) rfl #[.slice A1 l1.length c1, .int .i64 t884] rfl (by (try simp only [List.map_toArray, List.map_cons, List.map_nil]); first | done | rfl | (simp only [List.length_drop, List.length_take]; rfl)) ?_; (with_reducible refine (laws_szStringS.calls k _ _ l1 t884 t885 _ ?side1 ?side2 A9.out).mono ?_); (case side1 => repeat (first | exact (Kd.C_below HR1.out HB.out) | (with_reducible refine Kd.C_alloc ?_ _) | (with_reducible refine Kd.C_drewN ?_ _) | (with_reducible refine Kd.C_drew ?_))); (case side2 => exact HC1.out); rintro e w' ⟨rfl, ⟨nd, rfl⟩⟩; refine ⟨_, rfl, ?_⟩) | ((with_reducible refine gate_callee (f := 14) rfl ?_); refine goesL_ (some 32) rfl rfl Try.func14 (by kernel_rfl) rfl #[.slice A2 l2.length c2, .int .i64 t885] rfl (by (try simp only [List.map_toArray, List.map_cons, List.map_nil]); first | done | rfl | (simp only [List.length_drop, List.length_take]; rfl)) ?_; (with_reducible refine (laws_szStringS.calls k _ _ l2 t885 t886 _ ?side1 ?side2 A14.out).mono ?_); (case side1 => repeat (first | exact (Kd.C_below HR2.out (by repeat (first | (with_reducible first | exact HB.out | apply below_alloc | apply pw_below_drewN | apply below_drew1 | refine below_set ?_ GE883.out) | exact HB.out))) | (with_reducible refine Kd.C_alloc ?_ _) | (with_reducible refine Kd.C_drewN ?_ _) | (with_reducible refine Kd.C_drew ?_))); (case side2 => exact HC2.out); rintro e w' ⟨rfl, ⟨nd, rfl⟩⟩; refine ⟨_, rfl, ?_⟩))
    go_ret
    exact ⟨by first | rfl | (simp [errW_none, errW_some] <;> rfl) | (simp [*, errW_none, errW_some] <;> rfl), by repeat (first | (with_reducible first | exact HB.out | apply below_alloc | apply pw_below_drewN | apply below_drew1 | refine below_set ?_ GE883.out) | exact HB.out)⟩
   ·rw [if_neg c15] at H
    have c15b0 : decide (t886 < 0) = false := decide_eq_false c15
    clear c15
    replace H := Option.bind_eq_some_iff.mp H
    obtain ⟨⟨t887, t888, t889, t890⟩, A190, H⟩ := H
    replace H : ((laws_toStringS.f k l1).bind fun t893 => ((laws_toStringS.f k l2).bind fun t896 => ((spec_PrintFalse.f k t887 t888 t889 t890 t893 t896).bind fun bt899 => ((laws_toTable.f k a0_0 a0_1 a0_2 l0_3).bind fun bt903 => ((laws_toStringS.f k l1).bind fun t910 => ((laws_toStringS.f k l2).bind fun t913 => ((impl_PrintFalse.f k bt903.1 bt903.2.1 bt903.2.2.1 bt903.2.2.2 t910 t913).bind fun bt916 => ((laws_eqIntS.f k bt916.1 bt899.1).bind fun t920 => (if t920 = true then (laws_FnExactPrintFalse.j0 k l1 l2 bt899.1 bt899.2 t910 t913 bt916.1 bt916.2 (bt916.2 != bt899.2) a0_0 a0_1 a0_2 l0_3 bt903.1 bt903.2.1 bt903.2.2.1 bt903.2.2.2) else (laws_FnExactPrintFalse.j0 k l1 l2 bt899.1 bt899.2 t910 t913 bt916.1 bt916.2 true a0_0 a0_1 a0_2 l0_3 bt903.1 bt903.2.1 bt903.2.2.1 bt903.2.2.2)))))))))) = some r := H
    have A19 := Aside0.mk A190
    clear A190
    replace H := Option.bind_eq_some_iff.mp H
    obtain ⟨t893, A200, H⟩ := H
    replace H : ((laws_toStringS.f k l2).bind fun t896 => ((spec_PrintFalse.f k t887 t888 t889 t890 t893 t896).bind fun bt899 => ((laws_toTable.f k a0_0 a0_1 a0_2 l0_3).bind fun bt903 => ((laws_toStringS.f k l1).bind fun t910 => ((laws_toStringS.f k l2).bind fun t913 => ((impl_PrintFalse.f k bt903.1 bt903.2.1 bt903.2.2.1 bt903.2.2.2 t910 t913).bind fun bt916 => ((laws_eqIntS.f k bt916.1 bt899.1).bind fun t920 => (if t920 = true then (laws_FnExactPrintFalse.j0 k l1 l2 bt899.1 bt899.2 t910 t913 bt916.1 bt916.2 (bt916.2 != bt899.2) a0_0 a0_1 a0_2 l0_3 bt903.1 bt903.2.1 bt903.2.2.1 bt903.2.2.2) else (laws_FnExactPrintFalse.j0 k l1 l2 bt899.1 bt899.2 t910 t913 bt916.1 bt916.2 true a0_0 a0_1 a0_2 l0_3 bt903.1 bt903.2.1 bt903.2.2.1 bt903.2.2.2))))))))) = some r := H
    have A20 := Aside0.mk A200
    clear A200
    replace H := Option.bind_eq_some_iff.mp H
    obtain ⟨t896, A210, H⟩ := H
    replace H : ((spec_PrintFalse.f k t887 t888 t889 t890 t893 t896).bind fun bt899 => ((laws_toTable.f k a0_0 a0_1 a0_2 l0_3).bind fun bt903 => ((laws_toStringS.f k l1).bind fun t910 => ((laws_toStringS.f k l2).bind fun t913 => ((impl_PrintFalse.f k bt903.1 bt903.2.1 bt903.2.2.1 bt903.2.2.2 t910 t913).bind fun bt916 => ((laws_eqIntS.f k bt916.1 bt899.1).bind fun t920 => (if t920 = true then (laws_FnExactPrintFalse.j0 k l1 l2 bt899.1 bt899.2 t910 t913 bt916.1 bt916.2 (bt916.2 != bt899.2) a0_0 a0_1 a0_2 l0_3 bt903.1 bt903.2.1 bt903.2.2.1 bt903.2.2.2) else (laws_FnExactPrintFalse.j0 k l1 l2 bt899.1 bt899.2 t910 t913 bt916.1 bt916.2 true a0_0 a0_1 a0_2 l0_3 bt903.1 bt903.2.1 bt903.2.2.1 bt903.2.2.2)))))))) = some r := H
    have A21 := Aside0.mk A210
    clear A210
    replace H := Option.bind_eq_some_iff.mp H
    obtain ⟨⟨t899, t902⟩, A220, H⟩ := H
    replace H : ((laws_toTable.f k a0_0 a0_1 a0_2 l0_3).bind fun bt903 => ((laws_toStringS.f k l1).bind fun t910 => ((laws_toStringS.f k l2).bind fun t913 => ((impl_PrintFalse.f k bt903.1 bt903.2.1 bt903.2.2.1 bt903.2.2.2 t910 t913).bind fun bt916 => ((laws_eqIntS.f k bt916.1 t899).bind fun t920 => (if t920 = true then (laws_FnExactPrintFalse.j0 k l1 l2 t899 t902 t910 t913 bt916.1 bt916.2 (bt916.2 != t902) a0_0 a0_1 a0_2 l0_3 bt903.1 bt903.2.1 bt903.2.2.1 bt903.2.2.2) else (laws_FnExactPrintFalse.j0 k l1 l2 t899 t902 t910 t913 bt916.1 bt916.2 true a0_0 a0_1 a0_2 l0_3 bt903.1 bt903.2.1 bt903.2.2.1 bt903.2.2.2))))))) = some r := H
    have A22 := Aside0.mk A220
    clear A220
    replace H := Option.bind_eq_some_iff.mp H
    obtain ⟨⟨t903, t904, t905, t906⟩, A230, H⟩ := H
    replace H : ((laws_toStringS.f k l1).bind fun t910 => ((laws_toStringS.f k l2).bind fun t913 => ((impl_PrintFalse.f k t903 t904 t905 t906 t910 t913).bind fun bt916 => ((laws_eqIntS.f k bt916.1 t899).bind fun t920 => (if t920 = true then (laws_FnExactPrintFalse.j0 k l1 l2 t899 t902 t910 t913 bt916.1 bt916.2 (bt916.2 != t902) a0_0 a0_1 a0_2 l0_3 t903 t904 t905 t906) else (laws_FnExactPrintFalse.j0 k l1 l2 t899 t902 t910 t913 bt916.1 bt916.2 true a0_0 a0_1 a0_2 l0_3 t903 t904 t905 t906)))))) = some r := H
    have A23 := Aside0.mk A230
    clear A230
    replace H := Option.bind_eq_some_iff.mp H
    obtain ⟨t910, A240, H⟩ := H
    replace H : ((laws_toStringS.f k l2).bind fun t913 => ((impl_PrintFalse.f k t903 t904 t905 t906 t910 t913).bind fun bt916 => ((laws_eqIntS.f k bt916.1 t899).bind fun t920 => (if t920 = true then (laws_FnExactPrintFalse.j0 k l1 l2 t899 t902 t910 t913 bt916.1 bt916.2 (bt916.2 != t902) a0_0 a0_1 a0_2 l0_3 t903 t904 t905 t906) else (laws_FnExactPrintFalse.j0 k l1 l2 t899 t902 t910 t913 bt916.1 bt916.2 true a0_0 a0_1 a0_2 l0_3 t903 t904 t905 t906))))) = some r := H
    have A24 := Aside0.mk A240
    clear A240
    replace H := Option.bind_eq_some_iff.mp H
    obtain ⟨t913, A250, H⟩ := H
    replace H : ((impl_PrintFalse.f k t903 t904 t905 t906 t910 t913).bind fun bt916 => ((laws_eqIntS.f k bt916.1 t899).bind fun t920 => (if t920 = true then (laws_FnExactPrintFalse.j0 k l1 l2 t899 t902 t910 t913 bt916.1 bt916.2 (bt916.2 != t902) a0_0 a0_1 a0_2 l0_3 t903 t904 t905 t906) else (laws_FnExactPrintFalse.j0 k l1 l2 t899 t902 t910 t913 bt916.1 bt916.2 true a0_0 a0_1 a0_2 l0_3 t903 t904 t905 t906)))) = some r := H
    have A25 := Aside0.mk A250
    clear A250
    replace H := Option.bind_eq_some_iff.mp H
    obtain ⟨⟨t916, t919⟩, A260, H⟩ := H
    replace H : ((laws_eqIntS.f k t916 t899).bind fun t920 => (if t920 = true then (laws_FnExactPrintFalse.j0 k l1 l2 t899 t902 t910 t913 t916 t919 (t919 != t902) a0_0 a0_1 a0_2 l0_3 t903 t904 t905 t906) else (laws_FnExactPrintFalse.j0 k l1 l2 t899 t902 t910 t913 t916 t919 true a0_0 a0_1 a0_2 l0_3 t903 t904 t905 t906))) = some r := H
    have A26 := Aside0.mk A260
    clear A260
    have HC27 := Aside0.mk H
    clear H
    go_enter Try.func9, Try.ntmps9
    go_upto_region 16 with (first | ((with_reducible refine gate_dst (N := 3) rfl ?_); refine box_event ?hg (N := 3) ?hd (cs := #[.int .i64 a0_0, .int .i64 a0_1, .int .i64 a0_2, .slice A0_3 l0_3.length c0_3]) (t := 65) ?hr ?_; (case hd => rfl); (case hg => rfl); (case hr => first | (go_simp; done) | (go_simp; rfl)); intro gb883 hg w28 hbox hb; have n0_ := Aside0.mk (below_step (by repeat (first | (with_reducible first | exact HB.out | apply below_alloc | apply pw_below_drewN | apply below_drew1) | exact HB.out)) hb); have n1_ := Aside0.mk (hbox); have n2_ := Aside0.mk ((by rw [hg]; exact (below_size (by repeat (first | (with_reducible first | exact HB.out | apply below_alloc | apply pw_below_drewN | apply below_drew1) | exact HB.out))) : w.heap.size ≤ gb883)); have n3_ := Aside0.mk ((by rw [hg]; exact (below_size (by repeat (first | (with_reducible first | exact HB.out | apply below_alloc | apply pw_below_drewN | apply below_drew1) | exact HB.out))) : w.heap.size ≤ gb883)); clear HB; have HB := n0_; have BK883 := n1_; have GW883 := n2_; have GE883 := n3_; clear n0_ n1_ n2_ n3_; clear hb hbox hg; have hcz29_0 : w28.cell? ⟨gb883, 0, none⟩ = some (.int .i64 a0_0) := (blk_cell BK883.out 0).trans rfl; have hcz29_1 : w28.cell? ⟨gb883, 1, none⟩ = some (.int .i64 a0_1) := (blk_cell BK883.out 1).trans rfl; have hcz29_2 : w28.cell? ⟨gb883, 2, none⟩ = some (.int .i64 a0_2) := (blk_cell BK883.out 2).trans rfl; have hcz29_3 : w28.cell? ⟨gb883, 3, none⟩ = some (.slice A0_3 l0_3.length c0_3) := (blk_cell BK883.out 3).trans rfl; have hfz29_0 := blk_frozen BK883.out 0; have hfz29_1 := blk_frozen BK883.out 1; have hfz29_2 := blk_frozen BK883.out 2; have hfz29_3 := blk_frozen BK883.out 3) | ((with_reducible refine gate_callee (f := 43) rfl ?_); refine goesL_ (some 22) rfl rfl Try.func43 (by kernel_rfl) rfl #[.agg #[.int .i64 a0_0, .int .i64 a0_1, .int .i64 a0_2, .slice A0_3 l0_3.length c0_3], .int .i64 1048576] rfl (by (try simp only [List.map_toArray, List.map_cons, List.map_nil]); first | done | rfl | (simp only [List.length_drop, List.length_take]; rfl)) ?_; (with_reducible refine (laws_szTable.calls a0_0 a0_1 a0_2 _ _ l0_3 1048576 t884 _ ?side1 ?side2 A4.out).mono ?_); (case side1 => repeat (first | exact (Kd.C_below HR0_3.out HB.out) | (with_reducible refine Kd.C_alloc ?_ _) | (with_reducible refine Kd.C_drewN ?_ _) | (with_reducible refine Kd.C_drew ?_))); (case side2 => exact HC0_3.out); rintro e w30 ⟨rfl, hb⟩; refine ⟨_, rfl, ?_⟩; have n0_ := Aside0.mk (blk_below (g := gb883) (o := .cells #[.int .i64 a0_0, .int .i64 a0_1, .int .i64 a0_2, .slice A0_3 l0_3.length c0_3] 65 (0, 0)) (by (with_reducible repeat (first | refine blk_drewN ?_ _ | refine blk_drew ?_ | refine blk_alloc ?_ _)); exact BK883.out) hb); have n1_ := Aside0.mk (below_step (by repeat (first | (with_reducible first | exact HB.out | apply below_alloc | apply pw_below_drewN | apply below_drew1 | refine below_set ?_ GE883.out) | exact HB.out)) hb); clear BK883; clear HB; have BK883 := n0_; have HB := n1_; clear n0_ n1_; (try clear hb); (try clear hb2); (try clear hk); (try clear hi)) | ((with_reducible refine gate_callee (f := 14) rfl ?_); refine goesL_ (some 27) rfl rfl Try.func14 (by kernel_rfl) rfl #[.slice A1 l1.length c1, .int .i64 t884] rfl (by (try simp only [List.map_toArray, List.map_cons, List.map_nil]); first | done | rfl | (simp only [List.length_drop, List.length_take]; rfl)) ?_; (with_reducible refine (laws_szStringS.calls k _ _ l1 t884 t885 _ ?side1 ?side2 A9.out).mono ?_); (case side1 => repeat (first | exact (Kd.C_below HR1.out HB.out) | (with_reducible refine Kd.C_alloc ?_ _) | (with_reducible refine Kd.C_drewN ?_ _) | (with_reducible refine Kd.C_drew ?_))); (case side2 => exact HC1.out); rintro e w' ⟨rfl, ⟨nd, rfl⟩⟩; refine ⟨_, rfl, ?_⟩; (try (rw [drewN_self w30]; generalize hq_ : World.drewN w30 _ = w30; have n0_ : Aside0 (w30.heap[gb883]? = some (.cells #[.int .i64 a0_0, .int .i64 a0_1, .int .i64 a0_2, .slice A0_3 l0_3.length c0_3] 65 (0, 0))) := ⟨by rw [← hq_]; exact (by (with_reducible repeat (first | refine blk_drewN ?_ _ | refine blk_drew ?_ | refine blk_alloc ?_ _)); exact BK883.out)⟩; have n1_ : Aside0 (Below w.heap.size w w30) := ⟨by rw [← hq_]; exact (by repeat (first | (with_reducible first | exact HB.out | apply below_alloc | apply pw_below_drewN | apply below_drew1 | refine below_set ?_ GE883.out) | exact HB.out))⟩; clear BK883 HB hq_; have BK883 := n0_; have HB := n1_; clear n0_ n1_))) | ((with_reducible refine gate_callee (f := 14) rfl ?_); refine goesL_ (some 32) rfl rfl Try.func14 (by kernel_rfl) rfl #[.slice A2 l2.length c2, .int .i64 t885] rfl (by (try simp only [List.map_toArray, List.map_cons, List.map_nil]); first | done | rfl | (simp only [List.length_drop, List.length_take]; rfl)) ?_; (with_reducible refine (laws_szStringS.calls k _ _ l2 t885 t886 _ ?side1 ?side2 A14.out).mono ?_); (case side1 => repeat (first | exact (Kd.C_below HR2.out HB.out) | (with_reducible refine Kd.C_alloc ?_ _) | (with_reducible refine Kd.C_drewN ?_ _) | (with_reducible refine Kd.C_drew ?_))); (case side2 => exact HC2.out); rintro e w' ⟨rfl, ⟨nd, rfl⟩⟩; refine ⟨_, rfl, ?_⟩; (try (rw [drewN_self w30]; generalize hq_ : World.drewN w30 _ = w30; have n0_ : Aside0 (w30.heap[gb883]? = some (.cells #[.int .i64 a0_0, .int .i64 a0_1, .int .i64 a0_2, .slice A0_3 l0_3.length c0_3] 65 (0, 0))) := ⟨by rw [← hq_]; exact (by (with_reducible repeat (first | refine blk_drewN ?_ _ | refine blk_drew ?_ | refine blk_alloc ?_ _)); exact BK883.out)⟩; have n1_ : Aside0 (Below w.heap.size w w30) := ⟨by rw [← hq_]; exact (by repeat (first | (with_reducible first | exact HB.out | apply below_alloc | apply pw_below_drewN | apply below_drew1 | refine below_set ?_ GE883.out) | exact HB.out))⟩; clear BK883 HB hq_; have BK883 := n0_; have HB := n1_; clear n0_ n1_)); have hcz31_0 : w30.cell? ⟨gb883, 0, none⟩ = some (.int .i64 a0_0) := (blk_cell BK883.out 0).trans rfl; have hcz31_1 : w30.cell? ⟨gb883, 1, none⟩ = some (.int .i64 a0_1) := (blk_cell BK883.out 1).trans rfl; have hcz31_2 : w30.cell? ⟨gb883, 2, none⟩ = some (.int .i64 a0_2) := (blk_cell BK883.out 2).trans rfl; have hcz31_3 : w30.cell? ⟨gb883, 3, none⟩ = some (.slice A0_3 l0_3.length c0_3) := (blk_cell BK883.out 3).trans rfl; have hfz31_0 := blk_frozen BK883.out 0; have hfz31_1 := blk_frozen BK883.out 1; have hfz31_2 := blk_frozen BK883.out 2; have hfz31_3 := blk_frozen BK883.out 3) | ((with_reducible refine gate_callee (f := 45) rfl ?_); refine goesL_ (some 37) rfl rfl Try.func45 (by kernel_rfl) rfl #[.agg #[.int .i64 a0_0, .int .i64 a0_1, .int .i64 a0_2, .slice A0_3 l0_3.length c0_3]] rfl (by (try simp only [List.map_toArray, List.map_cons, List.map_nil]); first | done | rfl | (simp only [List.length_drop, List.length_take]; rfl)) ?_; (with_reducible refine (laws_toTable.calls k a0_0 a0_1 a0_2 _ _ l0_3 t887 t888 t889 t890 _ ?side1 ?side2 A19.out).mono ?_); (case side1 => repeat (first | exact (Kd.C_below HR0_3.out HB.out) | (with_reducible refine Kd.C_alloc ?_ _) | (with_reducible refine Kd.C_drewN ?_ _) | (with_reducible refine Kd.C_drew ?_))); (case side2 => exact HC0_3.out); rintro e w32 ⟨v891, rfl, ho0, hb⟩; refine ⟨_, rfl, ?_⟩; have n0_ := Aside0.mk (Kd.R_lower ho0 (below_size (by repeat (first | (with_reducible first | exact HB.out | apply below_alloc | apply pw_below_drewN | apply below_drew1 | refine below_set ?_ GE883.out) | exact HB.out)))); have n1_ := Aside0.mk (blk_below (g := gb883) (o := .cells #[.int .i64 a0_0, .int .i64 a0_1, .int .i64 a0_2, .slice A0_3 l0_3.length c0_3] 65 (0, 0)) (by (with_reducible repeat (first | refine blk_drewN ?_ _ | refine blk_drew ?_ | refine blk_alloc ?_ _)); exact BK883.out) hb); have n2_ := Aside0.mk (below_step (by repeat (first | (with_reducible first | exact HB.out | apply below_alloc | apply pw_below_drewN | apply below_drew1 | refine below_set ?_ GE883.out) | exact HB.out)) hb); clear BK883; clear HB; have HO892 := n0_; have BK883 := n1_; have HB := n2_; clear n0_ n1_ n2_; (try clear hb); (try clear hb2); (try clear hk); (try clear hi); (try clear ho0)) | ((with_reducible refine gate_callee (f := 16) rfl ?_); refine goesL_ (some 39) rfl rfl Try.func16 (by kernel_rfl) rfl #[.slice A1 l1.length c1] rfl (by (try simp only [List.map_toArray, List.map_cons, List.map_nil]); first | done | rfl | (simp only [List.length_drop, List.length_take]; rfl)) ?_; (with_reducible refine (laws_toStringS.calls k _ _ l1 t893 _ ?side1 ?side2 A20.out).mono ?_); (case side1 => repeat (first | exact (Kd.C_below HR1.out HB.out) | (with_reducible refine Kd.C_alloc ?_ _) | (with_reducible refine Kd.C_drewN ?_ _) | (with_reducible refine Kd.C_drew ?_))); (case side2 => exact HC1.out); rintro e w33 ⟨v894, rfl, ho0, hb⟩; refine ⟨_, rfl, ?_⟩; have n0_ := Aside0.mk (Kd.R_below (by (with_reducible repeat (first | apply Kd.R_alloc | apply Kd.R_drewN | apply Kd.R_drew)); exact HO892.out) hb); have n1_ := Aside0.mk (Kd.R_lower ho0 (below_size (by repeat (first | (with_reducible first | exact HB.out | apply below_alloc | apply pw_below_drewN | apply below_drew1 | refine below_set ?_ GE883.out) | exact HB.out)))); have n2_ := Aside0.mk (blk_below (g := gb883) (o := .cells #[.int .i64 a0_0, .int .i64 a0_1, .int .i64 a0_2, .slice A0_3 l0_3.length c0_3] 65 (0, 0)) (by (with_reducible repeat (first | refine blk_drewN ?_ _ | refine blk_drew ?_ | refine blk_alloc ?_ _)); exact BK883.out) hb); have n3_ := Aside0.mk (below_step (by repeat (first | (with_reducible first | exact HB.out | apply below_alloc | apply pw_below_drewN | apply below_drew1 | refine below_set ?_ GE883.out) | exact HB.out)) hb); clear HO892; clear BK883; clear HB; have HO892 := n0_; have HO895 := n1_; have BK883 := n2_; have HB := n3_; clear n0_ n1_ n2_ n3_; (try clear hb); (try clear hb2); (try clear hk); (try clear hi); (try clear ho0)) | ((with_reducible refine gate_callee (f := 16) rfl ?_); refine goesL_ (some 41) rfl rfl Try.func16 (by kernel_rfl) rfl #[.slice A2 l2.length c2] rfl (by (try simp only [List.map_toArray, List.map_cons, List.map_nil]); first | done | rfl | (simp only [List.length_drop, List.length_take]; rfl)) ?_; (with_reducible refine (laws_toStringS.calls k _ _ l2 t896 _ ?side1 ?side2 A21.out).mono ?_); (case side1 => repeat (first | exact (Kd.C_below HR2.out HB.out) | (with_reducible refine Kd.C_alloc ?_ _) | (with_reducible refine Kd.C_drewN ?_ _) | (with_reducible refine Kd.C_drew ?_))); (case side2 => exact HC2.out); rintro e w34 ⟨v897, rfl, ho0, hb⟩; refine ⟨_, rfl, ?_⟩; have n0_ := Aside0.mk (Kd.R_below (by (with_reducible repeat (first | apply Kd.R_alloc | apply Kd.R_drewN | apply Kd.R_drew)); exact HO892.out) hb); have n1_ := Aside0.mk (Kd.R_elder' (by (with_reducible repeat (first | apply Kd.R_alloc | apply Kd.R_drewN | apply Kd.R_drew)); exact HO895.out) (Kd.R_base ho0) hb); have n2_ := Aside0.mk (Kd.R_lower (Kd.R_new' ho0 (Kd.R_lt (by (with_reducible repeat (first | apply Kd.R_alloc | apply Kd.R_drewN | apply Kd.R_drew)); exact HO895.out))) (below_size (by repeat (first | (with_reducible first | exact HB.out | apply below_alloc | apply pw_below_drewN | apply below_drew1 | refine below_set ?_ GE883.out) | exact HB.out)))); have n3_ := Aside0.mk (blk_below (g := gb883) (o := .cells #[.int .i64 a0_0, .int .i64 a0_1, .int .i64 a0_2, .slice A0_3 l0_3.length c0_3] 65 (0, 0)) (by (with_reducible repeat (first | refine blk_drewN ?_ _ | refine blk_drew ?_ | refine blk_alloc ?_ _)); exact BK883.out) hb); have n4_ := Aside0.mk (below_step (by repeat (first | (with_reducible first | exact HB.out | apply below_alloc | apply pw_below_drewN | apply below_drew1 | refine below_set ?_ GE883.out) | exact HB.out)) hb); clear HO892; clear HO895; clear BK883; clear HB; have HO892 := n0_; have HO895 := n1_; have HO898 := n2_; have BK883 := n3_; have HB := n4_; clear n0_ n1_ n2_ n3_ n4_; (try clear hb); (try clear hb2); (try clear hk); (try clear hi); (try clear ho0); obtain ⟨Ao35, co35, eo35⟩ := Kd.R_slice HO892.out; subst eo35; obtain ⟨Ao36, co36, eo36⟩ := Kd.R_slice HO895.out; subst eo36; obtain ⟨Ao37, co37, eo37⟩ := Kd.R_slice HO898.out; subst eo37) | ((with_reducible refine gate_callee (f := 44) rfl ?_); refine goesL_ (some 42) rfl rfl Try.func44 (by kernel_rfl) rfl #[.agg #[.int .i64 t887, .int .i64 t888, .int .i64 t889, .slice Ao35 t890.length co35], .slice Ao36 t893.length co36, .slice Ao37 t896.length co37] rfl (by (try simp only [List.map_toArray, List.map_cons, List.map_nil]); first | done | rfl | (simp only [List.length_drop, List.length_take]; rfl)) ?_; (with_reducible refine (spec_PrintFalse.calls k t887 t888 t889 _ _ t890 _ _ t893 _ _ t896 t899 t902 _ ?side1 ?side2 ?side3 ?side4 ?side5 ?side6 A22.out).mono ?_); (case side1 => repeat (first | exact (Kd.R_reads' HO892.out).2.2 | (with_reducible refine Kd.C_alloc ?_ _) | (with_reducible refine Kd.C_drewN ?_ _) | (with_reducible refine Kd.C_drew ?_))); (case side2 => exact (Kd.R_reads' HO892.out).2.1); (case side3 => repeat (first | exact (Kd.R_reads' HO895.out).2.2 | (with_reducible refine Kd.C_alloc ?_ _) | (with_reducible refine Kd.C_drewN ?_ _) | (with_reducible refine Kd.C_drew ?_))); (case side4 => exact (Kd.R_reads' HO895.out).2.1); (case side5 => repeat (first | exact (Kd.R_reads' HO898.out).2.2 | (with_reducible refine Kd.C_alloc ?_ _) | (with_reducible refine Kd.C_drewN ?_ _) | (with_reducible refine Kd.C_drew ?_))); (case side6 => exact (Kd.R_reads' HO898.out).2.1); rintro e w38 ⟨v900, rfl, ho0, hb⟩; refine ⟨_, rfl, ?_⟩; have n0_ := Aside0.mk (Kd.R_elder' (by (with_reducible repeat (first | apply Kd.R_alloc | apply Kd.R_drewN | apply Kd.R_drew)); exact HO892.out) (Kd.R_base ho0) hb); have n1_ := Aside0.mk (Kd.R_below (by (with_reducible repeat (first | apply Kd.R_alloc | apply Kd.R_drewN | apply Kd.R_drew)); exact HO895.out) hb); have n2_ := Aside0.mk (Kd.R_below (by (with_reducible repeat (first | apply Kd.R_alloc | apply Kd.R_drewN | apply Kd.R_drew)); exact HO898.out) hb); have n3_ := Aside0.mk (Kd.R_lower (Kd.R_new' ho0 (Kd.R_lt (by (with_reducible repeat (first | apply Kd.R_alloc | apply Kd.R_drewN | apply Kd.R_drew)); exact HO892.out))) (below_size (by repeat (first | (with_reducible first | exact HB.out | apply below_alloc | apply pw_below_drewN | apply below_drew1 | refine below_set ?_ GE883.out) | exact HB.out)))); have n4_ := Aside0.mk (blk_below (g := gb883) (o := .cells #[.int .i64 a0_0, .int .i64 a0_1, .int .i64 a0_2, .slice A0_3 l0_3.length c0_3] 65 (0, 0)) (by (with_reducible repeat (first | refine blk_drewN ?_ _ | refine blk_drew ?_ | refine blk_alloc ?_ _)); exact BK883.out) hb); have n5_ := Aside0.mk (below_step (by repeat (first | (with_reducible first | exact HB.out | apply below_alloc | apply pw_below_drewN | apply below_drew1 | refine below_set ?_ GE883.out) | exact HB.out)) hb); clear HO892; clear HO895; clear HO898; clear BK883; clear HB; have HO892 := n0_; have HO895 := n1_; have HO898 := n2_; have HO901 := n3_; have BK883 := n4_; have HB := n5_; clear n0_ n1_ n2_ n3_ n4_ n5_; (try clear hb); (try clear hb2); (try clear hk); (try clear hi); (try clear ho0); have hcz39_0 : w38.cell? ⟨gb883, 0, none⟩ = some (.int .i64 a0_0) := (blk_cell BK883.out 0).trans rfl; have hcz39_1 : w38.cell? ⟨gb883, 1, none⟩ = some (.int .i64 a0_1) := (blk_cell BK883.out 1).trans rfl; have hcz39_2 : w38.cell? ⟨gb883, 2, none⟩ = some (.int .i64 a0_2) := (blk_cell BK883.out 2).trans rfl; have hcz39_3 : w38.cell? ⟨gb883, 3, none⟩ = some (.slice A0_3 l0_3.length c0_3) := (blk_cell BK883.out 3).trans rfl; have hfz39_0 := blk_frozen BK883.out 0; have hfz39_1 := blk_frozen BK883.out 1; have hfz39_2 := blk_frozen BK883.out 2; have hfz39_3 := blk_frozen BK883.out 3) | ((with_reducible refine gate_callee (f := 45) rfl ?_); refine goesL_ (some 46) rfl rfl Try.func45 (by kernel_rfl) rfl #[.agg #[.int .i64 a0_0, .int .i64 a0_1, .int .i64 a0_2, .slice A0_3 l0_3.length c0_3]] rfl (by (try simp only [List.map_toArray, List.map_cons, List.map_nil]); first | done | rfl | (simp only [List.length_drop, List.length_take]; rfl)) ?_; (with_reducible refine (laws_toTable.calls k a0_0 a0_1 a0_2 _ _ l0_3 t903 t904 t905 t906 _ ?side1 ?side2 A23.out).mono ?_); (case side1 => repeat (first | exact (Kd.C_below HR0_3.out HB.out) | (with_reducible refine Kd.C_alloc ?_ _) | (with_reducible refine Kd.C_drewN ?_ _) | (with_reducible refine Kd.C_drew ?_))); (case side2 => exact HC0_3.out); rintro e w40 ⟨v907, rfl, ho0, hb⟩; refine ⟨_, rfl, ?_⟩; have n0_ := Aside0.mk (Kd.R_elder' (by (with_reducible repeat (first | apply Kd.R_alloc | apply Kd.R_drewN | apply Kd.R_drew)); exact HO892.out) (Kd.R_base ho0) hb); have n1_ := Aside0.mk (Kd.R_below (by (with_reducible repeat (first | apply Kd.R_alloc | apply Kd.R_drewN | apply Kd.R_drew)); exact HO895.out) hb); have n2_ := Aside0.mk (Kd.R_below (by (with_reducible repeat (first | apply Kd.R_alloc | apply Kd.R_drewN | apply Kd.R_drew)); exact HO898.out) hb); have n3_ := Aside0.mk (Kd.R_elder' (by (with_reducible repeat (first | apply Kd.R_alloc | apply Kd.R_drewN | apply Kd.R_drew)); exact HO901.out) (Kd.R_base ho0) hb); have n4_ := Aside0.mk (Kd.R_lower (Kd.R_new' (Kd.R_new' ho0 (Kd.R_lt (by (with_reducible repeat (first | apply Kd.R_alloc | apply Kd.R_drewN | apply Kd.R_drew)); exact HO892.out))) (Kd.R_lt (by (with_reducible repeat (first | apply Kd.R_alloc | apply Kd.R_drewN | apply Kd.R_drew)); exact HO901.out))) (below_size (by repeat (first | (with_reducible first | exact HB.out | apply below_alloc | apply pw_below_drewN | apply below_drew1 | refine below_set ?_ GE883.out) | exact HB.out)))); have n5_ := Aside0.mk (blk_below (g := gb883) (o := .cells #[.int .i64 a0_0, .int .i64 a0_1, .int .i64 a0_2, .slice A0_3 l0_3.length c0_3] 65 (0, 0)) (by (with_reducible repeat (first | refine blk_drewN ?_ _ | refine blk_drew ?_ | refine blk_alloc ?_ _)); exact BK883.out) hb); have n6_ := Aside0.mk (below_step (by repeat (first | (with_reducible first | exact HB.out | apply below_alloc | apply pw_below_drewN | apply below_drew1 | refine below_set ?_ GE883.out) | exact HB.out)) hb); clear HO892; clear HO895; clear HO898; clear HO901; clear BK883; clear HB; have HO892 := n0_; have HO895 := n1_; have HO898 := n2_; have HO901 := n3_; have HO908 := n4_; have BK883 := n5_; have HB := n6_; clear n0_ n1_ n2_ n3_ n4_ n5_ n6_; (try clear hb); (try clear hb2); (try clear hk); (try clear hi); (try clear ho0)) | ((with_reducible refine gate_dst (N := 10) rfl ?_); refine box_event ?hg (N := 10) ?hd (cs := #[.int .i64 0, .int .i64 0, .int .i64 0, .slice none 0 0]) (t := 68) ?hr ?_; (case hd => rfl); (case hg => rfl); (case hr => first | (go_simp; done) | (go_simp; rfl)); intro gb909 hg w41 hbox hb; have n0_ := Aside0.mk (Kd.R_below (by (with_reducible repeat (first | apply Kd.R_alloc | apply Kd.R_drewN | apply Kd.R_drew)); exact HO892.out) hb); have n1_ := Aside0.mk (Kd.R_below (by (with_reducible repeat (first | apply Kd.R_alloc | apply Kd.R_drewN | apply Kd.R_drew)); exact HO895.out) hb); have n2_ := Aside0.mk (Kd.R_below (by (with_reducible repeat (first | apply Kd.R_alloc | apply Kd.R_drewN | apply Kd.R_drew)); exact HO898.out) hb); have n3_ := Aside0.mk (Kd.R_below (by (with_reducible repeat (first | apply Kd.R_alloc | apply Kd.R_drewN | apply Kd.R_drew)); exact HO901.out) hb); have n4_ := Aside0.mk (Kd.R_below (by (with_reducible repeat (first | apply Kd.R_alloc | apply Kd.R_drewN | apply Kd.R_drew)); exact HO908.out) hb); have n5_ := Aside0.mk (blk_below (g := gb883) (o := .cells #[.int .i64 a0_0, .int .i64 a0_1, .int .i64 a0_2, .slice A0_3 l0_3.length c0_3] 65 (0, 0)) (by (with_reducible repeat (first | refine blk_drewN ?_ _ | refine blk_drew ?_ | refine blk_alloc ?_ _)); exact BK883.out) hb); have n6_ := Aside0.mk (below_step (by repeat (first | (with_reducible first | exact HB.out | apply below_alloc | apply pw_below_drewN | apply below_drew1 | refine below_set ?_ GE883.out) | exact HB.out)) hb); have n7_ := Aside0.mk (hbox); have n8_ := Aside0.mk ((by rw [hg]; exact (below_size (by repeat (first | (with_reducible first | exact HB.out | apply below_alloc | apply pw_below_drewN | apply below_drew1 | refine below_set ?_ GE883.out) | exact HB.out))) : w.heap.size ≤ gb909)); have n9_ := Aside0.mk ((by rw [hg]; exact (below_size (by repeat (first | (with_reducible first | exact HB.out | apply below_alloc | apply pw_below_drewN | apply below_drew1 | refine below_set ?_ GE883.out) | exact HB.out))) : w.heap.size ≤ gb909)); have n10_ := Aside0.mk ((by rw [hg]; exact Nat.ne_of_lt (blk_lt (g := gb883) (o := .cells #[.int .i64 a0_0, .int .i64 a0_1, .int .i64 a0_2, .slice A0_3 l0_3.length c0_3] 65 (0, 0)) (by (with_reducible repeat (first | refine blk_drewN ?_ _ | refine blk_drew ?_ | refine blk_alloc ?_ _)); exact BK883.out)) : gb883 ≠ gb909)); have n11_ := Aside0.mk ((by rw [hg]; exact Nat.ne_of_gt (blk_lt (g := gb883) (o := .cells #[.int .i64 a0_0, .int .i64 a0_1, .int .i64 a0_2, .slice A0_3 l0_3.length c0_3] 65 (0, 0)) (by (with_reducible repeat (first | refine blk_drewN ?_ _ | refine blk_drew ?_ | refine blk_alloc ?_ _)); exact BK883.out)) : gb909 ≠ gb883)); clear HO892; clear HO895; clear HO898; clear HO901; clear HO908; clear BK883; clear HB; have HO892 := n0_; have HO895 := n1_; have HO898 := n2_; have HO901 := n3_; have HO908 := n4_; have BK883 := n5_; have HB := n6_; have BK909 := n7_; have GW909 := n8_; have GE909 := n9_; have NB883_909 := n10_; have NB909_883 := n11_; clear n0_ n1_ n2_ n3_ n4_ n5_ n6_ n7_ n8_ n9_ n10_ n11_; clear hb hbox hg; have hnb42 := NB909_883.out; have hnc42 := NB883_909.out; have hcz43_0 : w41.cell? ⟨gb909, 0, none⟩ = some (.int .i64 0) := (blk_cell BK909.out 0).trans rfl; have hcz43_1 : w41.cell? ⟨gb909, 1, none⟩ = some (.int .i64 0) := (blk_cell BK909.out 1).trans rfl; have hcz43_2 : w41.cell? ⟨gb909, 2, none⟩ = some (.int .i64 0) := (blk_cell BK909.out 2).trans rfl; have hcz43_3 : w41.cell? ⟨gb909, 3, none⟩ = some (.slice none 0 0) := (blk_cell BK909.out 3).trans rfl; have hfz43_0 := blk_frozen BK909.out 0; have hfz43_1 := blk_frozen BK909.out 1; have hfz43_2 := blk_frozen BK909.out 2; have hfz43_3 := blk_frozen BK909.out 3; obtain ⟨Ao44, co44, eo44⟩ := Kd.R_slice HO908.out; subst eo44) | ((with_reducible refine gate_callee (f := 16) rfl ?_); refine goesL_ (some 48) rfl rfl Try.func16 (by kernel_rfl) rfl #[.slice A1 l1.length c1] rfl (by (try simp only [List.map_toArray, List.map_cons, List.map_nil]); first | done | rfl | (simp only [List.length_drop, List.length_take]; rfl)) ?_; (with_reducible refine (laws_toStringS.calls k _ _ l1 t910 _ ?side1 ?side2 A24.out).mono ?_); (case side1 => exact Kd.C_below HR1.out (by repeat (first | (with_reducible first | exact HB.out | apply below_alloc | apply pw_below_drewN | apply below_drew1 | refine below_set ?_ GE883.out | refine below_set ?_ GE909.out) | exact HB.out))); (case side2 => exact HC1.out); rintro e w45 ⟨v911, rfl, ho0, hb⟩; refine ⟨_, rfl, ?_⟩; have n0_ := Aside0.mk (Kd.R_below (by (with_reducible repeat (first | apply Kd.R_alloc | apply Kd.R_drewN | apply Kd.R_drew)); exact (Kd.R_mono (Kd.R_far (p := ⟨gb909, 3, none⟩) (Kd.R_far (p := ⟨gb909, 2, none⟩) (Kd.R_far (p := ⟨gb909, 1, none⟩) (Kd.R_far (p := ⟨gb909, 0, none⟩) (Kd.R_types HO892.out BK909.out (by decide)) (fun _ hk => hk.2) (.int .i64 t903)) (fun _ hk => hk.2) (.int .i64 t904)) (fun _ hk => hk.2) (.int .i64 t905)) (fun _ hk => hk.2) (.slice Ao44 t906.length co44)) (fun _ h_ => h_.1))) hb); have n1_ := Aside0.mk (Kd.R_elder' (by (with_reducible repeat (first | apply Kd.R_alloc | apply Kd.R_drewN | apply Kd.R_drew)); exact (Kd.R_mono (Kd.R_far (p := ⟨gb909, 3, none⟩) (Kd.R_far (p := ⟨gb909, 2, none⟩) (Kd.R_far (p := ⟨gb909, 1, none⟩) (Kd.R_far (p := ⟨gb909, 0, none⟩) (Kd.R_types HO895.out BK909.out (by decide)) (fun _ hk => hk.2) (.int .i64 t903)) (fun _ hk => hk.2) (.int .i64 t904)) (fun _ hk => hk.2) (.int .i64 t905)) (fun _ hk => hk.2) (.slice Ao44 t906.length co44)) (fun _ h_ => h_.1))) (Kd.R_base ho0) hb); have n2_ := Aside0.mk (Kd.R_elder' (by (with_reducible repeat (first | apply Kd.R_alloc | apply Kd.R_drewN | apply Kd.R_drew)); exact (Kd.R_mono (Kd.R_far (p := ⟨gb909, 3, none⟩) (Kd.R_far (p := ⟨gb909, 2, none⟩) (Kd.R_far (p := ⟨gb909, 1, none⟩) (Kd.R_far (p := ⟨gb909, 0, none⟩) (Kd.R_types HO898.out BK909.out (by decide)) (fun _ hk => hk.2) (.int .i64 t903)) (fun _ hk => hk.2) (.int .i64 t904)) (fun _ hk => hk.2) (.int .i64 t905)) (fun _ hk => hk.2) (.slice Ao44 t906.length co44)) (fun _ h_ => h_.1))) (Kd.R_base ho0) hb); have n3_ := Aside0.mk (Kd.R_below (by (with_reducible repeat (first | apply Kd.R_alloc | apply Kd.R_drewN | apply Kd.R_drew)); exact (Kd.R_mono (Kd.R_far (p := ⟨gb909, 3, none⟩) (Kd.R_far (p := ⟨gb909, 2, none⟩) (Kd.R_far (p := ⟨gb909, 1, none⟩) (Kd.R_far (p := ⟨gb909, 0, none⟩) (Kd.R_types HO901.out BK909.out (by decide)) (fun _ hk => hk.2) (.int .i64 t903)) (fun _ hk => hk.2) (.int .i64 t904)) (fun _ hk => hk.2) (.int .i64 t905)) (fun _ hk => hk.2) (.slice Ao44 t906.length co44)) (fun _ h_ => h_.1))) hb); have n4_ := Aside0.mk (Kd.R_below (by (with_reducible repeat (first | apply Kd.R_alloc | apply Kd.R_drewN | apply Kd.R_drew)); exact (Kd.R_mono (Kd.R_far (p := ⟨gb909, 3, none⟩) (Kd.R_far (p := ⟨gb909, 2, none⟩) (Kd.R_far (p := ⟨gb909, 1, none⟩) (Kd.R_far (p := ⟨gb909, 0, none⟩) (Kd.R_types HO908.out BK909.out (by decide)) (fun _ hk => hk.2) (.int .i64 t903)) (fun _ hk => hk.2) (.int .i64 t904)) (fun _ hk => hk.2) (.int .i64 t905)) (fun _ hk => hk.2) (.slice Ao44 t906.length co44)) (fun _ h_ => h_.1))) hb); have n5_ := Aside0.mk (Kd.R_lower (Kd.R_new' (Kd.R_new' ho0 (Kd.R_lt (by (with_reducible repeat (first | apply Kd.R_alloc | apply Kd.R_drewN | apply Kd.R_drew)); exact (Kd.R_mono (Kd.R_far (p := ⟨gb909, 3, none⟩) (Kd.R_far (p := ⟨gb909, 2, none⟩) (Kd.R_far (p := ⟨gb909, 1, none⟩) (Kd.R_far (p := ⟨gb909, 0, none⟩) (Kd.R_types HO895.out BK909.out (by decide)) (fun _ hk => hk.2) (.int .i64 t903)) (fun _ hk => hk.2) (.int .i64 t904)) (fun _ hk => hk.2) (.int .i64 t905)) (fun _ hk => hk.2) (.slice Ao44 t906.length co44)) (fun _ h_ => h_.1))))) (Kd.R_lt (by (with_reducible repeat (first | apply Kd.R_alloc | apply Kd.R_drewN | apply Kd.R_drew)); exact (Kd.R_mono (Kd.R_far (p := ⟨gb909, 3, none⟩) (Kd.R_far (p := ⟨gb909, 2, none⟩) (Kd.R_far (p := ⟨gb909, 1, none⟩) (Kd.R_far (p := ⟨gb909, 0, none⟩) (Kd.R_types HO898.out BK909.out (by decide)) (fun _ hk => hk.2) (.int .i64 t903)) (fun _ hk => hk.2) (.int .i64 t904)) (fun _ hk => hk.2) (.int .i64 t905)) (fun _ hk => hk.2) (.slice Ao44 t906.length co44)) (fun _ h_ => h_.1))))) (below_size (by repeat (first | (with_reducible first | exact HB.out | apply below_alloc | apply pw_below_drewN | apply below_drew1 | refine below_set ?_ GE883.out | refine below_set ?_ GE909.out) | exact HB.out)))); have n6_ := Aside0.mk (blk_below (g := gb883) (o := .cells #[.int .i64 a0_0, .int .i64 a0_1, .int .i64 a0_2, .slice A0_3 l0_3.length c0_3] 65 (0, 0)) (by (with_reducible repeat (first | refine blk_drewN ?_ _ | refine blk_drew ?_ | refine blk_alloc ?_ _)); refine blk_far ?_ NB883_909.out _; (with_reducible repeat (first | refine blk_drewN ?_ _ | refine blk_drew ?_ | refine blk_alloc ?_ _)); refine blk_far ?_ NB883_909.out _; (with_reducible repeat (first | refine blk_drewN ?_ _ | refine blk_drew ?_ | refine blk_alloc ?_ _)); refine blk_far ?_ NB883_909.out _; (with_reducible repeat (first | refine blk_drewN ?_ _ | refine blk_drew ?_ | refine blk_alloc ?_ _)); refine blk_far ?_ NB883_909.out _; (with_reducible repeat (first | refine blk_drewN ?_ _ | refine blk_drew ?_ | refine blk_alloc ?_ _)); exact BK883.out) hb); have n7_ := Aside0.mk (blk_below (g := gb909) (o := .cells #[.int .i64 t903, .int .i64 t904, .int .i64 t905, .slice Ao44 t906.length co44] 68 (0, 0)) (by (with_reducible repeat (first | refine blk_drewN ?_ _ | refine blk_drew ?_ | refine blk_alloc ?_ _)); refine blk_put (cs := #[.int .i64 t903, .int .i64 t904, .int .i64 t905, .slice none 0 0]) ?_ 3 _ rfl; (with_reducible repeat (first | refine blk_drewN ?_ _ | refine blk_drew ?_ | refine blk_alloc ?_ _)); refine blk_put (cs := #[.int .i64 t903, .int .i64 t904, .int .i64 0, .slice none 0 0]) ?_ 2 _ rfl; (with_reducible repeat (first | refine blk_drewN ?_ _ | refine blk_drew ?_ | refine blk_alloc ?_ _)); refine blk_put (cs := #[.int .i64 t903, .int .i64 0, .int .i64 0, .slice none 0 0]) ?_ 1 _ rfl; (with_reducible repeat (first | refine blk_drewN ?_ _ | refine blk_drew ?_ | refine blk_alloc ?_ _)); refine blk_put (cs := #[.int .i64 0, .int .i64 0, .int .i64 0, .slice none 0 0]) ?_ 0 _ rfl; (with_reducible repeat (first | refine blk_drewN ?_ _ | refine blk_drew ?_ | refine blk_alloc ?_ _)); exact BK909.out) hb); have n8_ := Aside0.mk (below_step (by repeat (first | (with_reducible first | exact HB.out | apply below_alloc | apply pw_below_drewN | apply below_drew1 | refine below_set ?_ GE883.out | refine below_set ?_ GE909.out) | exact HB.out)) hb); clear HO892; clear HO895; clear HO898; clear HO901; clear HO908; clear BK883; clear BK909; clear HB; have HO892 := n0_; have HO895 := n1_; have HO898 := n2_; have HO901 := n3_; have HO908 := n4_; have HO912 := n5_; have BK883 := n6_; have BK909 := n7_; have HB := n8_; clear n0_ n1_ n2_ n3_ n4_ n5_ n6_ n7_ n8_; (try clear hb); (try clear hb2); (try clear hk); (try clear hi); (try clear ho0)) | ((with_reducible refine gate_callee (f := 16) rfl ?_); refine goesL_ (some 50) rfl rfl Try.func16 (by kernel_rfl) rfl #[.slice A2 l2.length c2] rfl (by (try simp only [List.map_toArray, List.map_cons, List.map_nil]); first | done | rfl | (simp only [List.length_drop, List.length_take]; rfl)) ?_; (with_reducible refine (laws_toStringS.calls k _ _ l2 t913 _ ?side1 ?side2 A25.out).mono ?_); (case side1 => repeat (first | exact (Kd.C_below HR2.out HB.out) | (with_reducible refine Kd.C_alloc ?_ _) | (with_reducible refine Kd.C_drewN ?_ _) | (with_reducible refine Kd.C_drew ?_))); (case side2 => exact HC2.out); rintro e w46 ⟨v914, rfl, ho0, hb⟩; refine ⟨_, rfl, ?_⟩; have n0_ := Aside0.mk (Kd.R_below (by (with_reducible repeat (first | apply Kd.R_alloc | apply Kd.R_drewN | apply Kd.R_drew)); exact HO892.out) hb); have n1_ := Aside0.mk (Kd.R_elder' (by (with_reducible repeat (first | apply Kd.R_alloc | apply Kd.R_drewN | apply Kd.R_drew)); exact HO895.out) (Kd.R_base ho0) hb); have n2_ := Aside0.mk (Kd.R_elder' (by (with_reducible repeat (first | apply Kd.R_alloc | apply Kd.R_drewN | apply Kd.R_drew)); exact HO898.out) (Kd.R_base ho0) hb); have n3_ := Aside0.mk (Kd.R_below (by (with_reducible repeat (first | apply Kd.R_alloc | apply Kd.R_drewN | apply Kd.R_drew)); exact HO901.out) hb); have n4_ := Aside0.mk (Kd.R_below (by (with_reducible repeat (first | apply Kd.R_alloc | apply Kd.R_drewN | apply Kd.R_drew)); exact HO908.out) hb); have n5_ := Aside0.mk (Kd.R_elder' (by (with_reducible repeat (first | apply Kd.R_alloc | apply Kd.R_drewN | apply Kd.R_drew)); exact HO912.out) (Kd.R_base ho0) hb); have n6_ := Aside0.mk (Kd.R_lower (Kd.R_new' (Kd.R_new' (Kd.R_new' ho0 (Kd.R_lt (by (with_reducible repeat (first | apply Kd.R_alloc | apply Kd.R_drewN | apply Kd.R_drew)); exact HO895.out))) (Kd.R_lt (by (with_reducible repeat (first | apply Kd.R_alloc | apply Kd.R_drewN | apply Kd.R_drew)); exact HO898.out))) (Kd.R_lt (by (with_reducible repeat (first | apply Kd.R_alloc | apply Kd.R_drewN | apply Kd.R_drew)); exact HO912.out))) (below_size (by repeat (first | (with_reducible first | exact HB.out | apply below_alloc | apply pw_below_drewN | apply below_drew1 | refine below_set ?_ GE883.out | refine below_set ?_ GE909.out) | exact HB.out)))); have n7_ := Aside0.mk (blk_below (g := gb883) (o := .cells #[.int .i64 a0_0, .int .i64 a0_1, .int .i64 a0_2, .slice A0_3 l0_3.length c0_3] 65 (0, 0)) (by (with_reducible repeat (first | refine blk_drewN ?_ _ | refine blk_drew ?_ | refine blk_alloc ?_ _)); exact BK883.out) hb); have n8_ := Aside0.mk (blk_below (g := gb909) (o := .cells #[.int .i64 t903, .int .i64 t904, .int .i64 t905, .slice Ao44 t906.length co44] 68 (0, 0)) (by (with_reducible repeat (first | refine blk_drewN ?_ _ | refine blk_drew ?_ | refine blk_alloc ?_ _)); exact BK909.out) hb); have n9_ := Aside0.mk (below_step (by repeat (first | (with_reducible first | exact HB.out | apply below_alloc | apply pw_below_drewN | apply below_drew1 | refine below_set ?_ GE883.out | refine below_set ?_ GE909.out) | exact HB.out)) hb); clear HO892; clear HO895; clear HO898; clear HO901; clear HO908; clear HO912; clear BK883; clear BK909; clear HB; have HO892 := n0_; have HO895 := n1_; have HO898 := n2_; have HO901 := n3_; have HO908 := n4_; have HO912 := n5_; have HO915 := n6_; have BK883 := n7_; have BK909 := n8_; have HB := n9_; clear n0_ n1_ n2_ n3_ n4_ n5_ n6_ n7_ n8_ n9_; (try clear hb); (try clear hb2); (try clear hk); (try clear hi); (try clear ho0); have hcz47_0 : w46.cell? ⟨gb909, 0, none⟩ = some (.int .i64 t903) := (blk_cell BK909.out 0).trans rfl; have hcz47_1 : w46.cell? ⟨gb909, 1, none⟩ = some (.int .i64 t904) := (blk_cell BK909.out 1).trans rfl; have hcz47_2 : w46.cell? ⟨gb909, 2, none⟩ = some (.int .i64 t905) := (blk_cell BK909.out 2).trans rfl; have hcz47_3 : w46.cell? ⟨gb909, 3, none⟩ = some (.slice Ao44 t906.length co44) := (blk_cell BK909.out 3).trans rfl; have hfz47_0 := blk_frozen BK909.out 0; have hfz47_1 := blk_frozen BK909.out 1; have hfz47_2 := blk_frozen BK909.out 2; have hfz47_3 := blk_frozen BK909.out 3; obtain ⟨Ao48, co48, eo48⟩ := Kd.R_slice HO912.out; subst eo48; obtain ⟨Ao49, co49, eo49⟩ := Kd.R_slice HO915.out; subst eo49) | ((with_reducible refine gate_callee (f := 46) rfl ?_); refine goesL_ (some 55) rfl rfl Try.func46 (by kernel_rfl) rfl #[.agg #[.int .i64 t903, .int .i64 t904, .int .i64 t905, .slice Ao44 t906.length co44], .slice Ao48 t910.length co48, .slice Ao49 t913.length co49] rfl (by (try simp only [List.map_toArray, List.map_cons, List.map_nil]); first | done | rfl | (simp only [List.length_drop, List.length_take]; rfl)) ?_; (with_reducible refine (impl_PrintFalse.calls k t903 t904 t905 _ _ t906 _ _ t910 _ _ t913 t916 t919 _ ?side1 ?side2 ?side3 ?side4 ?side5 ?side6 A26.out).mono ?_); (case side1 => repeat (first | exact (Kd.R_reads' HO908.out).2.2 | (with_reducible refine Kd.C_alloc ?_ _) | (with_reducible refine Kd.C_drewN ?_ _) | (with_reducible refine Kd.C_drew ?_))); (case side2 => exact (Kd.R_reads' HO908.out).2.1); (case side3 => repeat (first | exact (Kd.R_reads' HO912.out).2.2 | (with_reducible refine Kd.C_alloc ?_ _) | (with_reducible refine Kd.C_drewN ?_ _) | (with_reducible refine Kd.C_drew ?_))); (case side4 => exact (Kd.R_reads' HO912.out).2.1); (case side5 => repeat (first | exact (Kd.R_reads' HO915.out).2.2 | (with_reducible refine Kd.C_alloc ?_ _) | (with_reducible refine Kd.C_drewN ?_ _) | (with_reducible refine Kd.C_drew ?_))); (case side6 => exact (Kd.R_reads' HO915.out).2.1); rintro e w50 ⟨v917, rfl, ho0, hb⟩; refine ⟨_, rfl, ?_⟩; have n0_ := Aside0.mk (Kd.R_elder' (by (with_reducible repeat (first | apply Kd.R_alloc | apply Kd.R_drewN | apply Kd.R_drew)); exact HO892.out) (Kd.R_base ho0) hb); have n1_ := Aside0.mk (Kd.R_below (by (with_reducible repeat (first | apply Kd.R_alloc | apply Kd.R_drewN | apply Kd.R_drew)); exact HO895.out) hb); have n2_ := Aside0.mk (Kd.R_below (by (with_reducible repeat (first | apply Kd.R_alloc | apply Kd.R_drewN | apply Kd.R_drew)); exact HO898.out) hb); have n3_ := Aside0.mk (Kd.R_elder' (by (with_reducible repeat (first | apply Kd.R_alloc | apply Kd.R_drewN | apply Kd.R_drew)); exact HO901.out) (Kd.R_base ho0) hb); have n4_ := Aside0.mk (Kd.R_elder' (by (with_reducible repeat (first | apply Kd.R_alloc | apply Kd.R_drewN | apply Kd.R_drew)); exact HO908.out) (Kd.R_base ho0) hb); have n5_ := Aside0.mk (Kd.R_below (by (with_reducible repeat (first | apply Kd.R_alloc | apply Kd.R_drewN | apply Kd.R_drew)); exact HO912.out) hb); have n6_ := Aside0.mk (Kd.R_below (by (with_reducible repeat (first | apply Kd.R_alloc | apply Kd.R_drewN | apply Kd.R_drew)); exact HO915.out) hb); have n7_ := Aside0.mk (Kd.R_lower (Kd.R_new' (Kd.R_new' (Kd.R_new' ho0 (Kd.R_lt (by (with_reducible repeat (first | apply Kd.R_alloc | apply Kd.R_drewN | apply Kd.R_drew)); exact HO892.out))) (Kd.R_lt (by (with_reducible repeat (first | apply Kd.R_alloc | apply Kd.R_drewN | apply Kd.R_drew)); exact HO901.out))) (Kd.R_lt (by (with_reducible repeat (first | apply Kd.R_alloc | apply Kd.R_drewN | apply Kd.R_drew)); exact HO908.out))) (below_size (by repeat (first | (with_reducible first | exact HB.out | apply below_alloc | apply pw_below_drewN | apply below_drew1 | refine below_set ?_ GE883.out | refine below_set ?_ GE909.out) | exact HB.out)))); have n8_ := Aside0.mk (blk_below (g := gb883) (o := .cells #[.int .i64 a0_0, .int .i64 a0_1, .int .i64 a0_2, .slice A0_3 l0_3.length c0_3] 65 (0, 0)) (by (with_reducible repeat (first | refine blk_drewN ?_ _ | refine blk_drew ?_ | refine blk_alloc ?_ _)); exact BK883.out) hb); have n9_ := Aside0.mk (blk_below (g := gb909) (o := .cells #[.int .i64 t903, .int .i64 t904, .int .i64 t905, .slice Ao44 t906.length co44] 68 (0, 0)) (by (with_reducible repeat (first | refine blk_drewN ?_ _ | refine blk_drew ?_ | refine blk_alloc ?_ _)); exact BK909.out) hb); have n10_ := Aside0.mk (below_step (by repeat (first | (with_reducible first | exact HB.out | apply below_alloc | apply pw_below_drewN | apply below_drew1 | refine below_set ?_ GE883.out | refine below_set ?_ GE909.out) | exact HB.out)) hb); clear HO892; clear HO895; clear HO898; clear HO901; clear HO908; clear HO912; clear HO915; clear BK883; clear BK909; clear HB; have HO892 := n0_; have HO895 := n1_; have HO898 := n2_; have HO901 := n3_; have HO908 := n4_; have HO912 := n5_; have HO915 := n6_; have HO918 := n7_; have BK883 := n8_; have BK909 := n9_; have HB := n10_; clear n0_ n1_ n2_ n3_ n4_ n5_ n6_ n7_ n8_ n9_ n10_; (try clear hb); (try clear hb2); (try clear hk); (try clear hi); (try clear ho0)))
    (try simp only [Act.put, List.setIfInBounds_toArray, List.set_cons_zero, List.set_cons_succ])
    go_cut [66] (fun v66 wc => ∃ (kq : Nat) (x66_26 : Bool), v66 = .bool x66_26 ∧ Aside0 (laws_FnExactPrintFalse.j0 kq l1 l2 t899 t902 t910 t913 t916 t919 x66_26 a0_0 a0_1 a0_2 l0_3 t903 t904 t905 t906 = some r) ∧ Aside0 (kq ≤ k) ∧ Aside0 (Kd.R (Kd.int .i64) 3 wc w.heap.size (fun k_ => some k_ ≠ (v917 : Value).ownBlock ∧ some k_ ≠ ((.slice Ao44 t906.length co44) : Value).ownBlock) v900 t899) ∧ Aside0 (Kd.R Kd.string 9 wc w.heap.size (fun k_ => some k_ ≠ ((.slice Ao49 t913.length co49) : Value).ownBlock) (.slice Ao48 t910.length co48) t910) ∧ Aside0 (Kd.R Kd.string 9 wc w.heap.size (fun k_ => some k_ ≠ ((.slice Ao48 t910.length co48) : Value).ownBlock) (.slice Ao49 t913.length co49) t913) ∧ Aside0 (Kd.R (Kd.int .i64) 3 wc w.heap.size (fun k_ => some k_ ≠ (v900 : Value).ownBlock ∧ some k_ ≠ ((.slice Ao44 t906.length co44) : Value).ownBlock) v917 t916) ∧ Aside0 (Kd.R (Kd.int .i64) 3 wc w.heap.size (fun k_ => some k_ ≠ (v900 : Value).ownBlock ∧ some k_ ≠ (v917 : Value).ownBlock) (.slice Ao44 t906.length co44) t906) ∧ Aside0 (wc.heap[gb883]? = some (.cells #[.int .i64 a0_0, .int .i64 a0_1, .int .i64 a0_2, (.slice A0_3 l0_3.length c0_3)] 65 (0, 0))) ∧ Aside0 (wc.heap[gb909]? = some (.cells #[.int .i64 t903, .int .i64 t904, .int .i64 t905, (.slice Ao44 t906.length co44)] 68 (0, 0))) ∧ Aside0 (Below w.heap.size w wc))
    case first =>
     have H := HC27.out
     clear HC27
     replace H := Option.bind_eq_some_iff.mp H
     obtain ⟨t920, A510, H⟩ := H
     replace H : (if t920 = true then (laws_FnExactPrintFalse.j0 k l1 l2 t899 t902 t910 t913 t916 t919 (t919 != t902) a0_0 a0_1 a0_2 l0_3 t903 t904 t905 t906) else (laws_FnExactPrintFalse.j0 k l1 l2 t899 t902 t910 t913 t916 t919 true a0_0 a0_1 a0_2 l0_3 t903 t904 t905 t906)) = some r := H
     have A51 := Aside0.mk A510
     clear A510
     by_cases c52 : t920 = true
     ·subst c52
      have H1 : (laws_FnExactPrintFalse.j0 k l1 l2 t899 t902 t910 t913 t916 t919 (t919 != t902) a0_0 a0_1 a0_2 l0_3 t903 t904 t905 t906) = some r := by rw [if_pos rfl] at H; exact H
      clear H
      have H := H1
      clear H1
      have H' := Aside0.mk H
      clear H
      obtain ⟨Ao53, co53, eo53⟩ := Kd.R_slice HO918.out
      subst eo53
      obtain ⟨Ao54, co54, eo54⟩ := Kd.R_slice HO901.out
      subst eo54
      go_wp2_with (first | ((with_reducible refine gate_callee (f := 40) rfl ?_); refine goesL_ (some 60) rfl rfl Try.func40 (by kernel_rfl) rfl #[.slice Ao53 t916.length co53, .slice Ao54 t899.length co54] rfl (by (try simp only [List.map_toArray, List.map_cons, List.map_nil]); first | done | rfl | (simp only [List.length_drop, List.length_take]; rfl)) ?_; (with_reducible refine (laws_eqIntS.calls k _ _ t916 _ _ t899 true _ ?side1 ?side2 ?side3 ?side4 A51.out).mono ?_); (case side1 => repeat (first | exact (Kd.R_reads' HO918.out).2.2 | (with_reducible refine Kd.C_alloc ?_ _) | (with_reducible refine Kd.C_drewN ?_ _) | (with_reducible refine Kd.C_drew ?_))); (case side2 => exact (Kd.R_reads' HO918.out).2.1); (case side3 => repeat (first | exact (Kd.R_reads' HO901.out).2.2 | (with_reducible refine Kd.C_alloc ?_ _) | (with_reducible refine Kd.C_drewN ?_ _) | (with_reducible refine Kd.C_drew ?_))); (case side4 => exact (Kd.R_reads' HO901.out).2.1); rintro e w' ⟨rfl, ⟨nd, rfl⟩⟩; refine ⟨_, rfl, ?_⟩))
      go_meet
      case rel => exact ⟨_, ((t919 != t902)), (by first | rfl | (simp; done) | (simp [*]; done)), H', ⟨by first | omega | exact Nat.le_refl _⟩, ⟨by (with_reducible repeat (first | apply Kd.R_alloc | apply Kd.R_drewN | apply Kd.R_drew)); exact Kd.R_mono HO901.out (fun _ hk => ⟨hk.2, hk.1.2⟩)⟩, ⟨by (with_reducible repeat (first | apply Kd.R_alloc | apply Kd.R_drewN | apply Kd.R_drew)); exact Kd.R_mono HO912.out (fun _ hk => hk.2)⟩, ⟨by (with_reducible repeat (first | apply Kd.R_alloc | apply Kd.R_drewN | apply Kd.R_drew)); exact Kd.R_mono HO915.out (fun _ hk => hk.2)⟩, ⟨by (with_reducible repeat (first | apply Kd.R_alloc | apply Kd.R_drewN | apply Kd.R_drew)); exact Kd.R_mono HO918.out (fun _ hk => ⟨hk.1.2, hk.2⟩)⟩, ⟨by (with_reducible repeat (first | apply Kd.R_alloc | apply Kd.R_drewN | apply Kd.R_drew)); exact Kd.R_mono HO908.out (fun _ hk => ⟨hk.1.2, hk.2⟩)⟩, ⟨by (with_reducible repeat (first | refine blk_drewN ?_ _ | refine blk_drew ?_ | refine blk_alloc ?_ _)); exact BK883.out⟩, ⟨by (with_reducible repeat (first | refine blk_drewN ?_ _ | refine blk_drew ?_ | refine blk_alloc ?_ _)); exact BK909.out⟩, ⟨by repeat (first | (with_reducible first | exact HB.out | apply below_alloc | apply pw_below_drewN | apply below_drew1 | refine below_set ?_ GE883.out | refine below_set ?_ GE909.out) | exact HB.out)⟩⟩
     ·replace c52 := Bool.eq_false_iff.mpr c52
      subst c52
      have H1 : (laws_FnExactPrintFalse.j0 k l1 l2 t899 t902 t910 t913 t916 t919 true a0_0 a0_1 a0_2 l0_3 t903 t904 t905 t906) = some r := by rw [if_neg (show ¬ (false = true) by decide)] at H; exact H
      clear H
      have H := H1
      clear H1
      have H' := Aside0.mk H
      clear H
      obtain ⟨Ao55, co55, eo55⟩ := Kd.R_slice HO918.out
      subst eo55
      obtain ⟨Ao56, co56, eo56⟩ := Kd.R_slice HO901.out
      subst eo56
      go_wp2_with (first | ((with_reducible refine gate_callee (f := 40) rfl ?_); refine goesL_ (some 60) rfl rfl Try.func40 (by kernel_rfl) rfl #[.slice Ao55 t916.length co55, .slice Ao56 t899.length co56] rfl (by (try simp only [List.map_toArray, List.map_cons, List.map_nil]); first | done | rfl | (simp only [List.length_drop, List.length_take]; rfl)) ?_; (with_reducible refine (laws_eqIntS.calls k _ _ t916 _ _ t899 false _ ?side1 ?side2 ?side3 ?side4 A51.out).mono ?_); (case side1 => repeat (first | exact (Kd.R_reads' HO918.out).2.2 | (with_reducible refine Kd.C_alloc ?_ _) | (with_reducible refine Kd.C_drewN ?_ _) | (with_reducible refine Kd.C_drew ?_))); (case side2 => exact (Kd.R_reads' HO918.out).2.1); (case side3 => repeat (first | exact (Kd.R_reads' HO901.out).2.2 | (with_reducible refine Kd.C_alloc ?_ _) | (with_reducible refine Kd.C_drewN ?_ _) | (with_reducible refine Kd.C_drew ?_))); (case side4 => exact (Kd.R_reads' HO901.out).2.1); rintro e w' ⟨rfl, ⟨nd, rfl⟩⟩; refine ⟨_, rfl, ?_⟩))
      go_meet
      case rel => exact ⟨_, (true), (by first | rfl | (simp; done) | (simp [*]; done)), H', ⟨by first | omega | exact Nat.le_refl _⟩, ⟨by (with_reducible repeat (first | apply Kd.R_alloc | apply Kd.R_drewN | apply Kd.R_drew)); exact Kd.R_mono HO901.out (fun _ hk => ⟨hk.2, hk.1.2⟩)⟩, ⟨by (with_reducible repeat (first | apply Kd.R_alloc | apply Kd.R_drewN | apply Kd.R_drew)); exact Kd.R_mono HO912.out (fun _ hk => hk.2)⟩, ⟨by (with_reducible repeat (first | apply Kd.R_alloc | apply Kd.R_drewN | apply Kd.R_drew)); exact Kd.R_mono HO915.out (fun _ hk => hk.2)⟩, ⟨by (with_reducible repeat (first | apply Kd.R_alloc | apply Kd.R_drewN | apply Kd.R_drew)); exact Kd.R_mono HO918.out (fun _ hk => ⟨hk.1.2, hk.2⟩)⟩, ⟨by (with_reducible repeat (first | apply Kd.R_alloc | apply Kd.R_drewN | apply Kd.R_drew)); exact Kd.R_mono HO908.out (fun _ hk => ⟨hk.1.2, hk.2⟩)⟩, ⟨by (with_reducible repeat (first | refine blk_drewN ?_ _ | refine blk_drew ?_ | refine blk_alloc ?_ _)); exact BK883.out⟩, ⟨by (with_reducible repeat (first | refine blk_drewN ?_ _ | refine blk_drew ?_ | refine blk_alloc ?_ _)); exact BK909.out⟩, ⟨by repeat (first | (with_reducible first | exact HB.out | apply below_alloc | apply pw_below_drewN | apply below_drew1 | refine below_set ?_ GE883.out | refine below_set ?_ GE909.out) | exact HB.out)⟩⟩
    case rest =>
     clear HC27
     try clear c1
     try clear c2
     try clear p2
     try clear c4
     try clear c5
     try clear c5b0
     try clear c9
     try clear c10
     try clear c10b0
     try clear c14
     try clear c15
     try clear c15b0
     try clear c16
     try clear c40
     try clear c42
     try clear c43
     try clear c44
     try clear c45
     try clear c46
     try clear c52
     try clear hcz12_0
     try clear hcz12_1
     try clear hcz12_2
     try clear hcz12_3
     try clear hcz17_0
     try clear hcz17_1
     try clear hcz17_2
     try clear hcz17_3
     try clear hcz29_0
     try clear hcz29_1
     try clear hcz29_2
     try clear hcz29_3
     try clear hcz31_0
     try clear hcz31_1
     try clear hcz31_2
     try clear hcz31_3
     try clear hcz39_0
     try clear hcz39_1
     try clear hcz39_2
     try clear hcz39_3
     try clear hcz43_0
     try clear hcz43_1
     try clear hcz43_2
     try clear hcz43_3
     try clear hcz47_0
     try clear hcz47_1
     try clear hcz47_2
     try clear hcz47_3
     try clear hcz7_0
     try clear hcz7_1
     try clear hcz7_2
     try clear hcz7_3
     try clear hfz12_0
     try clear hfz12_1
     try clear hfz12_2
     try clear hfz12_3
     try clear hfz17_0
     try clear hfz17_1
     try clear hfz17_2
     try clear hfz17_3
     try clear hfz29_0
     try clear hfz29_1
     try clear hfz29_2
     try clear hfz29_3
     try clear hfz31_0
     try clear hfz31_1
     try clear hfz31_2
     try clear hfz31_3
     try clear hfz39_0
     try clear hfz39_1
     try clear hfz39_2
     try clear hfz39_3
     try clear hfz43_0
     try clear hfz43_1
     try clear hfz43_2
     try clear hfz43_3
     try clear hfz47_0
     try clear hfz47_1
     try clear hfz47_2
     try clear hfz47_3
     try clear hfz7_0
     try clear hfz7_1
     try clear hfz7_2
     try clear hfz7_3
     obtain ⟨kq, x66_26, rfl, HA, HJ26, HO_8, HO_11, HO_12, HO_13, HO_910003, BK883, BK909, HB⟩ := hcut
     cases kq with
     | zero => exact absurd HA.out (by simp [laws_FnExactPrintFalse.j0])
     | succ kj26 =>
      have H := HA.out
      clear HA
      simp only [laws_FnExactPrintFalse.j0] at H
      by_cases c57 : x66_26 = true
      ·subst c57
       have H1 : (some false) = some r := by rw [if_pos rfl] at H; exact H
       clear H
       have H := H1
       clear H1
       obtain rfl := Option.some.inj H
       go_wp2
       go_ret
       exact ⟨by first | rfl | (simp [errW_none, errW_some] <;> rfl) | (simp [*, errW_none, errW_some] <;> rfl), by repeat (first | (with_reducible first | exact HB.out | apply below_alloc | apply pw_below_drewN | apply below_drew1 | refine below_set ?_ GE883.out | refine below_set ?_ GE909.out) | exact HB.out)⟩
      ·replace c57 := Bool.eq_false_iff.mpr c57
       subst c57
       have H1 : ((laws_toTable.f kj26 a0_0 a0_1 a0_2 l0_3).bind fun bt921 => ((laws_eqTable.f kj26 t903 t904 t905 t906 bt921.1 bt921.2.1 bt921.2.2.1 bt921.2.2.2).bind fun t927 => (if t927 = true then ((laws_toStringS.f kj26 l1).bind fun t928 => ((laws_eqStringS.f kj26 t910 t928).bind fun t931 => (if t931 = true then ((laws_toStringS.f kj26 l2).bind fun t932 => ((laws_eqStringS.f kj26 t913 t932).bind fun t935 => (if t935 = true then ((laws_markTable.f kj26 t903 t904 t905 t906 1).bind fun bt936 => ((laws_markStringS.f kj26 t910 bt936.1).bind fun bt938 => ((laws_markStringS.f kj26 t913 bt938.1).bind fun bt940 => (if bt940.1 < 0 then (laws_FnExactPrintFalse.j1 kj26 l1 l2 t899 t902 t916 true a0_0 a0_1 a0_2 l0_3) else ((laws_eqIntS.f kj26 t916 t899).bind fun t942 => (if t942 = true then (laws_FnExactPrintFalse.j1 kj26 l1 l2 t899 t902 t916 (t919 != t902) a0_0 a0_1 a0_2 l0_3) else (laws_FnExactPrintFalse.j1 kj26 l1 l2 t899 t902 t916 true a0_0 a0_1 a0_2 l0_3))))))) else (some false)))) else (some false)))) else (some false)))) = some r := by rw [if_neg (show ¬ (false = true) by decide)] at H; exact H
       clear H
       have H := H1
       clear H1
       replace H := Option.bind_eq_some_iff.mp H
       obtain ⟨⟨t921, t922, t923, t924⟩, A580, H⟩ := H
       replace H : ((laws_eqTable.f kj26 t903 t904 t905 t906 t921 t922 t923 t924).bind fun t927 => (if t927 = true then ((laws_toStringS.f kj26 l1).bind fun t928 => ((laws_eqStringS.f kj26 t910 t928).bind fun t931 => (if t931 = true then ((laws_toStringS.f kj26 l2).bind fun t932 => ((laws_eqStringS.f kj26 t913 t932).bind fun t935 => (if t935 = true then ((laws_markTable.f kj26 t903 t904 t905 t906 1).bind fun bt936 => ((laws_markStringS.f kj26 t910 bt936.1).bind fun bt938 => ((laws_markStringS.f kj26 t913 bt938.1).bind fun bt940 => (if bt940.1 < 0 then (laws_FnExactPrintFalse.j1 kj26 l1 l2 t899 t902 t916 true a0_0 a0_1 a0_2 l0_3) else ((laws_eqIntS.f kj26 t916 t899).bind fun t942 => (if t942 = true then (laws_FnExactPrintFalse.j1 kj26 l1 l2 t899 t902 t916 (t919 != t902) a0_0 a0_1 a0_2 l0_3) else (laws_FnExactPrintFalse.j1 kj26 l1 l2 t899 t902 t916 true a0_0 a0_1 a0_2 l0_3))))))) else (some false)))) else (some false)))) else (some false))) = some r := H
       have A58 := Aside0.mk A580
       clear A580
       replace H := Option.bind_eq_some_iff.mp H
       obtain ⟨t927, A590, H⟩ := H
       replace H : (if t927 = true then ((laws_toStringS.f kj26 l1).bind fun t928 => ((laws_eqStringS.f kj26 t910 t928).bind fun t931 => (if t931 = true then ((laws_toStringS.f kj26 l2).bind fun t932 => ((laws_eqStringS.f kj26 t913 t932).bind fun t935 => (if t935 = true then ((laws_markTable.f kj26 t903 t904 t905 t906 1).bind fun bt936 => ((laws_markStringS.f kj26 t910 bt936.1).bind fun bt938 => ((laws_markStringS.f kj26 t913 bt938.1).bind fun bt940 => (if bt940.1 < 0 then (laws_FnExactPrintFalse.j1 kj26 l1 l2 t899 t902 t916 true a0_0 a0_1 a0_2 l0_3) else ((laws_eqIntS.f kj26 t916 t899).bind fun t942 => (if t942 = true then (laws_FnExactPrintFalse.j1 kj26 l1 l2 t899 t902 t916 (t919 != t902) a0_0 a0_1 a0_2 l0_3) else (laws_FnExactPrintFalse.j1 kj26 l1 l2 t899 t902 t916 true a0_0 a0_1 a0_2 l0_3))))))) else (some false)))) else (some false)))) else (some false)) = some r := H
       have A59 := Aside0.mk A590
       clear A590
       by_cases c60 : t927 = true
       ·subst c60
        have H1 : ((laws_toStringS.f kj26 l1).bind fun t928 => ((laws_eqStringS.f kj26 t910 t928).bind fun t931 => (if t931 = true then ((laws_toStringS.f kj26 l2).bind fun t932 => ((laws_eqStringS.f kj26 t913 t932).bind fun t935 => (if t935 = true then ((laws_markTable.f kj26 t903 t904 t905 t906 1).bind fun bt936 => ((laws_markStringS.f kj26 t910 bt936.1).bind fun bt938 => ((laws_markStringS.f kj26 t913 bt938.1).bind fun bt940 => (if bt940.1 < 0 then (laws_FnExactPrintFalse.j1 kj26 l1 l2 t899 t902 t916 true a0_0 a0_1 a0_2 l0_3) else ((laws_eqIntS.f kj26 t916 t899).bind fun t942 => (if t942 = true then (laws_FnExactPrintFalse.j1 kj26 l1 l2 t899 t902 t916 (t919 != t902) a0_0 a0_1 a0_2 l0_3) else (laws_FnExactPrintFalse.j1 kj26 l1 l2 t899 t902 t916 true a0_0 a0_1 a0_2 l0_3))))))) else (some false)))) else (some false)))) = some r := by rw [if_pos rfl] at H; exact H
        clear H
        have H := H1
        clear H1
        replace H := Option.bind_eq_some_iff.mp H
        obtain ⟨t928, A610, H⟩ := H
        replace H : ((laws_eqStringS.f kj26 t910 t928).bind fun t931 => (if t931 = true then ((laws_toStringS.f kj26 l2).bind fun t932 => ((laws_eqStringS.f kj26 t913 t932).bind fun t935 => (if t935 = true then ((laws_markTable.f kj26 t903 t904 t905 t906 1).bind fun bt936 => ((laws_markStringS.f kj26 t910 bt936.1).bind fun bt938 => ((laws_markStringS.f kj26 t913 bt938.1).bind fun bt940 => (if bt940.1 < 0 then (laws_FnExactPrintFalse.j1 kj26 l1 l2 t899 t902 t916 true a0_0 a0_1 a0_2 l0_3) else ((laws_eqIntS.f kj26 t916 t899).bind fun t942 => (if t942 = true then (laws_FnExactPrintFalse.j1 kj26 l1 l2 t899 t902 t916 (t919 != t902) a0_0 a0_1 a0_2 l0_3) else (laws_FnExactPrintFalse.j1 kj26 l1 l2 t899 t902 t916 true a0_0 a0_1 a0_2 l0_3))))))) else (some false)))) else (some false))) = some r := H
        have A61 := Aside0.mk A610
        clear A610
        replace H := Option.bind_eq_some_iff.mp H
        obtain ⟨t931, A620, H⟩ := H
        replace H : (if t931 = true then ((laws_toStringS.f kj26 l2).bind fun t932 => ((laws_eqStringS.f kj26 t913 t932).bind fun t935 => (if t935 = true then ((laws_markTable.f kj26 t903 t904 t905 t906 1).bind fun bt936 => ((laws_markStringS.f kj26 t910 bt936.1).bind fun bt938 => ((laws_markStringS.f kj26 t913 bt938.1).bind fun bt940 => (if bt940.1 < 0 then (laws_FnExactPrintFalse.j1 kj26 l1 l2 t899 t902 t916 true a0_0 a0_1 a0_2 l0_3) else ((laws_eqIntS.f kj26 t916 t899).bind fun t942 => (if t942 = true then (laws_FnExactPrintFalse.j1 kj26 l1 l2 t899 t902 t916 (t919 != t902) a0_0 a0_1 a0_2 l0_3) else (laws_FnExactPrintFalse.j1 kj26 l1 l2 t899 t902 t916 true a0_0 a0_1 a0_2 l0_3))))))) else (some false)))) else (some false)) = some r := H
        have A62 := Aside0.mk A620
        clear A620
        by_cases c63 : t931 = true
        ·subst c63
         have H1 : ((laws_toStringS.f kj26 l2).bind fun t932 => ((laws_eqStringS.f kj26 t913 t932).bind fun t935 => (if t935 = true then ((laws_markTable.f kj26 t903 t904 t905 t906 1).bind fun bt936 => ((laws_markStringS.f kj26 t910 bt936.1).bind fun bt938 => ((laws_markStringS.f kj26 t913 bt938.1).bind fun bt940 => (if bt940.1 < 0 then (laws_FnExactPrintFalse.j1 kj26 l1 l2 t899 t902 t916 true a0_0 a0_1 a0_2 l0_3) else ((laws_eqIntS.f kj26 t916 t899).bind fun t942 => (if t942 = true then (laws_FnExactPrintFalse.j1 kj26 l1 l2 t899 t902 t916 (t919 != t902) a0_0 a0_1 a0_2 l0_3) else (laws_FnExactPrintFalse.j1 kj26 l1 l2 t899 t902 t916 true a0_0 a0_1 a0_2 l0_3))))))) else (some false)))) = some r := by rw [if_pos rfl] at H; exact H
         clear H
         have H := H1
         clear H1
         replace H := Option.bind_eq_some_iff.mp H
         obtain ⟨t932, A640, H⟩ := H
         replace H : ((laws_eqStringS.f kj26 t913 t932).bind fun t935 => (if t935 = true then ((laws_markTable.f kj26 t903 t904 t905 t906 1).bind fun bt936 => ((laws_markStringS.f kj26 t910 bt936.1).bind fun bt938 => ((laws_markStringS.f kj26 t913 bt938.1).bind fun bt940 => (if bt940.1 < 0 then (laws_FnExactPrintFalse.j1 kj26 l1 l2 t899 t902 t916 true a0_0 a0_1 a0_2 l0_3) else ((laws_eqIntS.f kj26 t916 t899).bind fun t942 => (if t942 = true then (laws_FnExactPrintFalse.j1 kj26 l1 l2 t899 t902 t916 (t919 != t902) a0_0 a0_1 a0_2 l0_3) else (laws_FnExactPrintFalse.j1 kj26 l1 l2 t899 t902 t916 true a0_0 a0_1 a0_2 l0_3))))))) else (some false))) = some r := H
         have A64 := Aside0.mk A640
         clear A640
         replace H := Option.bind_eq_some_iff.mp H
         obtain ⟨t935, A650, H⟩ := H
         replace H : (if t935 = true then ((laws_markTable.f kj26 t903 t904 t905 t906 1).bind fun bt936 => ((laws_markStringS.f kj26 t910 bt936.1).bind fun bt938 => ((laws_markStringS.f kj26 t913 bt938.1).bind fun bt940 => (if bt940.1 < 0 then (laws_FnExactPrintFalse.j1 kj26 l1 l2 t899 t902 t916 true a0_0 a0_1 a0_2 l0_3) else ((laws_eqIntS.f kj26 t916 t899).bind fun t942 => (if t942 = true then (laws_FnExactPrintFalse.j1 kj26 l1 l2 t899 t902 t916 (t919 != t902) a0_0 a0_1 a0_2 l0_3) else (laws_FnExactPrintFalse.j1 kj26 l1 l2 t899 t902 t916 true a0_0 a0_1 a0_2 l0_3))))))) else (some false)) = some r := H
         have A65 := Aside0.mk A650
         clear A650
         by_cases c66 : t935 = true
         ·subst c66
          have H1 : ((laws_markTable.f kj26 t903 t904 t905 t906 1).bind fun bt936 => ((laws_markStringS.f kj26 t910 bt936.1).bind fun bt938 => ((laws_markStringS.f kj26 t913 bt938.1).bind fun bt940 => (if bt940.1 < 0 then (laws_FnExactPrintFalse.j1 kj26 l1 l2 t899 t902 t916 true a0_0 a0_1 a0_2 l0_3) else ((laws_eqIntS.f kj26 t916 t899).bind fun t942 => (if t942 = true then (laws_FnExactPrintFalse.j1 kj26 l1 l2 t899 t902 t916 (t919 != t902) a0_0 a0_1 a0_2 l0_3) else (laws_FnExactPrintFalse.j1 kj26 l1 l2 t899 t902 t916 true a0_0 a0_1 a0_2 l0_3))))))) = some r := by rw [if_pos rfl] at H; exact H
          clear H
          have H := H1
          clear H1
          replace H := Option.bind_eq_some_iff.mp H
          obtain ⟨⟨t936, t937⟩, A670, H⟩ := H
          replace H : ((laws_markStringS.f kj26 t910 t936).bind fun bt938 => ((laws_markStringS.f kj26 t913 bt938.1).bind fun bt940 => (if bt940.1 < 0 then (laws_FnExactPrintFalse.j1 kj26 l1 l2 t899 t902 t916 true a0_0 a0_1 a0_2 l0_3) else ((laws_eqIntS.f kj26 t916 t899).bind fun t942 => (if t942 = true then (laws_FnExactPrintFalse.j1 kj26 l1 l2 t899 t902 t916 (t919 != t902) a0_0 a0_1 a0_2 l0_3) else (laws_FnExactPrintFalse.j1 kj26 l1 l2 t899 t902 t916 true a0_0 a0_1 a0_2 l0_3)))))) = some r := H
          have A67 := Aside0.mk A670
          clear A670
          replace H := Option.bind_eq_some_iff.mp H
          obtain ⟨⟨t938, t939⟩, A680, H⟩ := H
          replace H : ((laws_markStringS.f kj26 t913 t938).bind fun bt940 => (if bt940.1 < 0 then (laws_FnExactPrintFalse.j1 kj26 l1 l2 t899 t902 t916 true a0_0 a0_1 a0_2 l0_3) else ((laws_eqIntS.f kj26 t916 t899).bind fun t942 => (if t942 = true then (laws_FnExactPrintFalse.j1 kj26 l1 l2 t899 t902 t916 (t919 != t902) a0_0 a0_1 a0_2 l0_3) else (laws_FnExactPrintFalse.j1 kj26 l1 l2 t899 t902 t916 true a0_0 a0_1 a0_2 l0_3))))) = some r := H
          have A68 := Aside0.mk A680
          clear A680
          replace H := Option.bind_eq_some_iff.mp H
          obtain ⟨⟨t940, t941⟩, A690, H⟩ := H
          replace H : (if t940 < 0 then (laws_FnExactPrintFalse.j1 kj26 l1 l2 t899 t902 t916 true a0_0 a0_1 a0_2 l0_3) else ((laws_eqIntS.f kj26 t916 t899).bind fun t942 => (if t942 = true then (laws_FnExactPrintFalse.j1 kj26 l1 l2 t899 t902 t916 (t919 != t902) a0_0 a0_1 a0_2 l0_3) else (laws_FnExactPrintFalse.j1 kj26 l1 l2 t899 t902 t916 true a0_0 a0_1 a0_2 l0_3)))) = some r := H
          have A69 := Aside0.mk A690
          clear A690
          have HC70 := Aside0.mk H
          clear H
          try go_wp2
          have n0_ := Aside0.mk (Kd.R_drew HO_8.out)
          have n1_ := Aside0.mk (Kd.R_drew HO_11.out)
          have n2_ := Aside0.mk (Kd.R_drew HO_12.out)
          have n3_ := Aside0.mk (Kd.R_drew HO_13.out)
          have n4_ := Aside0.mk (Kd.R_drew HO_910003.out)
          have n5_ := Aside0.mk (blk_drew BK883.out)
          have n6_ := Aside0.mk (blk_drew BK909.out)
          have n7_ := Aside0.mk (below_drew1 HB.out)
          clear HO_8
          clear HO_11
          clear HO_12
          clear HO_13
          clear HO_910003
          clear BK883
          clear BK909
          clear HB
          have HO_8 := n0_
          have HO_11 := n1_
          have HO_12 := n2_
          have HO_13 := n3_
          have HO_910003 := n4_
          have BK883 := n5_
          have BK909 := n6_
          have HB := n7_
          clear n0_ n1_ n2_ n3_ n4_ n5_ n6_ n7_
          refine start_ (n := 5) (S := fun w' => w'.cell? ⟨gb909, 0, none⟩ = some (.int .i64 t903) ∧ w'.cell? ⟨gb909, 1, none⟩ = some (.int .i64 t904) ∧ w'.cell? ⟨gb909, 2, none⟩ = some (.int .i64 t905) ∧ w'.cell? ⟨gb909, 3, none⟩ = some (.slice Ao44 t906.length co44) ∧ w'.cell? ⟨gb883, 0, none⟩ = some (.int .i64 a0_0) ∧ w'.cell? ⟨gb883, 1, none⟩ = some (.int .i64 a0_1) ∧ w'.cell? ⟨gb883, 2, none⟩ = some (.int .i64 a0_2) ∧ w'.cell? ⟨gb883, 3, none⟩ = some (.slice A0_3 l0_3.length c0_3)) (ds := []) #[false, false, false, false, false] (by kernel_rfl) rfl rfl ⟨(blk_cell BK909.out 0).trans rfl, (blk_cell BK909.out 1).trans rfl, (blk_cell BK909.out 2).trans rfl, (blk_cell BK909.out 3).trans rfl, (blk_cell BK883.out 0).trans rfl, (blk_cell BK883.out 1).trans rfl, (blk_cell BK883.out 2).trans rfl, (blk_cell BK883.out 3).trans rfl⟩ (fun hHeld => ?_)
          generalize wc.drew = w71 at HO_8 HO_11 HO_12 HO_13 HO_910003 BK883 BK909 HB hHeld ⊢
          refine take_ (i := 0) (N := some 67) (v := ?_) (a' := ?_) #[true, false, false, false, false] rfl rfl (by kernel_rfl) (fun _ _ _ h => h) (Or.inl ⟨by rfl, ?_⟩) hHeld ?_ ?_
          rotate_left
          ·rintro w' ⟨s0, s1, s2, s3, s4, s5, s6, s7⟩
           go_simp
           with_reducible rfl
          rotate_left
          ·simp only [Act.put, List.setIfInBounds_toArray, List.set_cons_zero, List.set_cons_succ, i64_w, i32_w]
           rfl
          refine take_ (i := 1) (N := some 68) (v := ?_) (a' := ?_) #[true, true, false, false, false] rfl rfl (by kernel_rfl) (fun _ _ _ h => h) (Or.inl ⟨by rfl, ?_⟩) hHeld ?_ ?_
          rotate_left
          ·rintro w' ⟨s0, s1, s2, s3, s4, s5, s6, s7⟩
           go_simp
           with_reducible rfl
          rotate_left
          ·simp only [Act.put, List.setIfInBounds_toArray, List.set_cons_zero, List.set_cons_succ, i64_w, i32_w]
           rfl
          refine one_ (i := 2) (N := some 69) #[true, true, true, false, false] rfl rfl (by kernel_rfl) (by decide) (fun K hK => ?_)
          refine goes_ Try.func45 (by kernel_rfl) rfl #[.agg #[.int .i64 a0_0, .int .i64 a0_1, .int .i64 a0_2, .slice A0_3 l0_3.length c0_3]] (by rfl) rfl rfl (by (try simp only [List.map_toArray, List.map_cons, List.map_nil]); first | done | rfl | (simp only [List.length_drop, List.length_take]; rfl)) ?_
          with_reducible refine (laws_toTable.calls kj26 a0_0 a0_1 a0_2 _ _ l0_3 t921 t922 t923 t924 _ ?side1 ?side2 A58.out).mono ?_
          (case side1 => repeat (first | exact (Kd.C_below HR0_3.out HB.out) | (with_reducible refine Kd.C_alloc ?_ _) | (with_reducible refine Kd.C_drewN ?_ _) | (with_reducible refine Kd.C_drew ?_)))
          (case side2 => exact HC0_3.out)
          rintro e w72 ⟨v925, rfl, ho0, hb⟩
          refine ⟨_, rfl, ?_⟩
          have n0_ := Aside0.mk (Kd.R_elder' (by (with_reducible repeat (first | apply Kd.R_alloc | apply Kd.R_drewN | apply Kd.R_drew)); exact HO_8.out) (Kd.R_base ho0) hb)
          have n1_ := Aside0.mk (Kd.R_below (by (with_reducible repeat (first | apply Kd.R_alloc | apply Kd.R_drewN | apply Kd.R_drew)); exact HO_11.out) hb)
          have n2_ := Aside0.mk (Kd.R_below (by (with_reducible repeat (first | apply Kd.R_alloc | apply Kd.R_drewN | apply Kd.R_drew)); exact HO_12.out) hb)
          have n3_ := Aside0.mk (Kd.R_elder' (by (with_reducible repeat (first | apply Kd.R_alloc | apply Kd.R_drewN | apply Kd.R_drew)); exact HO_13.out) (Kd.R_base ho0) hb)
          have n4_ := Aside0.mk (Kd.R_elder' (by (with_reducible repeat (first | apply Kd.R_alloc | apply Kd.R_drewN | apply Kd.R_drew)); exact HO_910003.out) (Kd.R_base ho0) hb)
          have n5_ := Aside0.mk (Kd.R_lower (Kd.R_new' (Kd.R_new' (Kd.R_new' ho0 (Kd.R_lt (by (with_reducible repeat (first | apply Kd.R_alloc | apply Kd.R_drewN | apply Kd.R_drew)); exact HO_8.out))) (Kd.R_lt (by (with_reducible repeat (first | apply Kd.R_alloc | apply Kd.R_drewN | apply Kd.R_drew)); exact HO_13.out))) (Kd.R_lt (by (with_reducible repeat (first | apply Kd.R_alloc | apply Kd.R_drewN | apply Kd.R_drew)); exact HO_910003.out))) (below_size (by repeat (first | (with_reducible first | exact HB.out | apply below_alloc | apply pw_below_drewN | apply below_drew1 | refine below_set ?_ GE883.out | refine below_set ?_ GE909.out) | exact HB.out))))
          have n6_ := Aside0.mk (blk_below (g := gb883) (o := .cells #[.int .i64 a0_0, .int .i64 a0_1, .int .i64 a0_2, .slice A0_3 l0_3.length c0_3] 65 (0, 0)) (by (with_reducible repeat (first | refine blk_drewN ?_ _ | refine blk_drew ?_ | refine blk_alloc ?_ _)); exact BK883.out) hb)
          have n7_ := Aside0.mk (blk_below (g := gb909) (o := .cells #[.int .i64 t903, .int .i64 t904, .int .i64 t905, .slice Ao44 t906.length co44] 68 (0, 0)) (by (with_reducible repeat (first | refine blk_drewN ?_ _ | refine blk_drew ?_ | refine blk_alloc ?_ _)); exact BK909.out) hb)
          have n8_ := Aside0.mk (below_step (by repeat (first | (with_reducible first | exact HB.out | apply below_alloc | apply pw_below_drewN | apply below_drew1 | refine below_set ?_ GE883.out | refine below_set ?_ GE909.out) | exact HB.out)) hb)
          clear HO_8
          clear HO_11
          clear HO_12
          clear HO_13
          clear HO_910003
          clear BK883
          clear BK909
          clear HB
          have HO_8 := n0_
          have HO_11 := n1_
          have HO_12 := n2_
          have HO_13 := n3_
          have HO_910003 := n4_
          have HO926 := n5_
          have BK883 := n6_
          have BK909 := n7_
          have HB := n8_
          clear n0_ n1_ n2_ n3_ n4_ n5_ n6_ n7_ n8_
          (try clear hb)
          (try clear hb2)
          (try clear hk)
          (try clear hi)
          (try clear ho0)
          obtain ⟨Ao73, co73, eo73⟩ := Kd.R_slice HO926.out
          (first | subst eo73 | (injection eo73 with f1_ f2_ f3_; have f4_ := f1_.symm; have f5_ := f3_.symm; clear f1_ f2_ f3_; subst f4_; subst f5_))
          refine hK.out _ _ ⟨(blk_cell BK909.out 0).trans rfl, (blk_cell BK909.out 1).trans rfl, (blk_cell BK909.out 2).trans rfl, (blk_cell BK909.out 3).trans rfl, (blk_cell BK883.out 0).trans rfl, (blk_cell BK883.out 1).trans rfl, (blk_cell BK883.out 2).trans rfl, (blk_cell BK883.out 3).trans rfl⟩ (fun hHeld => ?_)
          clear hK K
          refine norm_ (a' := ?_) ?_ ?_
          rotate_left
          ·show Act.put _ (some 69) _ = _
           simp only [Act.put, List.setIfInBounds_toArray, List.set_cons_zero, List.set_cons_succ, i64_w, i32_w]
           rfl
          refine one_ (i := 3) (N := some 70) #[true, true, true, true, false] rfl rfl (by kernel_rfl) (by decide) (fun K hK => ?_)
          refine goes_ Try.func47 (by kernel_rfl) rfl #[.agg #[.int .i64 t903, .int .i64 t904, .int .i64 t905, .slice Ao44 t906.length co44], .agg #[.int .i64 t921, .int .i64 t922, .int .i64 t923, .slice Ao73 t924.length co73]] (by rfl) rfl rfl (by (try simp only [List.map_toArray, List.map_cons, List.map_nil]); first | done | rfl | (simp only [List.length_drop, List.length_take]; rfl)) ?_
          with_reducible refine (laws_eqTable.calls kj26 t903 t904 t905 _ _ t906 t921 t922 t923 _ _ t924 true _ ?side1 ?side2 ?side3 ?side4 A59.out).mono ?_
          (case side1 => repeat (first | exact (Kd.R_reads' HO_910003.out).2.2 | (with_reducible refine Kd.C_alloc ?_ _) | (with_reducible refine Kd.C_drewN ?_ _) | (with_reducible refine Kd.C_drew ?_)))
          (case side2 => exact (Kd.R_reads' HO_910003.out).2.1)
          (case side3 => repeat (first | exact (Kd.R_reads' HO926.out).2.2 | (with_reducible refine Kd.C_alloc ?_ _) | (with_reducible refine Kd.C_drewN ?_ _) | (with_reducible refine Kd.C_drew ?_)))
          (case side4 => exact (Kd.R_reads' HO926.out).2.1)
          rintro e w74 ⟨rfl, hb⟩
          refine ⟨_, rfl, ?_⟩
          have n0_ := Aside0.mk (Kd.R_below (by (with_reducible repeat (first | apply Kd.R_alloc | apply Kd.R_drewN | apply Kd.R_drew)); exact HO_8.out) hb)
          have n1_ := Aside0.mk (Kd.R_below (by (with_reducible repeat (first | apply Kd.R_alloc | apply Kd.R_drewN | apply Kd.R_drew)); exact HO_11.out) hb)
          have n2_ := Aside0.mk (Kd.R_below (by (with_reducible repeat (first | apply Kd.R_alloc | apply Kd.R_drewN | apply Kd.R_drew)); exact HO_12.out) hb)
          have n3_ := Aside0.mk (Kd.R_below (by (with_reducible repeat (first | apply Kd.R_alloc | apply Kd.R_drewN | apply Kd.R_drew)); exact HO_13.out) hb)
          have n4_ := Aside0.mk (Kd.R_below (by (with_reducible repeat (first | apply Kd.R_alloc | apply Kd.R_drewN | apply Kd.R_drew)); exact HO_910003.out) hb)
          have n5_ := Aside0.mk (Kd.R_below (by (with_reducible repeat (first | apply Kd.R_alloc | apply Kd.R_drewN | apply Kd.R_drew)); exact HO926.out) hb)
          have n6_ := Aside0.mk (blk_below (g := gb883) (o := .cells #[.int .i64 a0_0, .int .i64 a0_1, .int .i64 a0_2, .slice A0_3 l0_3.length c0_3] 65 (0, 0)) (by (with_reducible repeat (first | refine blk_drewN ?_ _ | refine blk_drew ?_ | refine blk_alloc ?_ _)); exact BK883.out) hb)
          have n7_ := Aside0.mk (blk_below (g := gb909) (o := .cells #[.int .i64 t903, .int .i64 t904, .int .i64 t905, .slice Ao44 t906.length co44] 68 (0, 0)) (by (with_reducible repeat (first | refine blk_drewN ?_ _ | refine blk_drew ?_ | refine blk_alloc ?_ _)); exact BK909.out) hb)
          have n8_ := Aside0.mk (below_step (by repeat (first | (with_reducible first | exact HB.out | apply below_alloc | apply pw_below_drewN | apply below_drew1 | refine below_set ?_ GE883.out | refine below_set ?_ GE909.out) | exact HB.out)) hb)
          clear HO_8
          clear HO_11
          clear HO_12
          clear HO_13
          clear HO_910003
          clear HO926
          clear BK883
          clear BK909
          clear HB
          have HO_8 := n0_
          have HO_11 := n1_
          have HO_12 := n2_
          have HO_13 := n3_
          have HO_910003 := n4_
          have HO926 := n5_
          have BK883 := n6_
          have BK909 := n7_
          have HB := n8_
          clear n0_ n1_ n2_ n3_ n4_ n5_ n6_ n7_ n8_
          (try clear hb)
          (try clear hb2)
          (try clear hk)
          (try clear hi)
          refine hK.out _ _ ⟨(blk_cell BK909.out 0).trans rfl, (blk_cell BK909.out 1).trans rfl, (blk_cell BK909.out 2).trans rfl, (blk_cell BK909.out 3).trans rfl, (blk_cell BK883.out 0).trans rfl, (blk_cell BK883.out 1).trans rfl, (blk_cell BK883.out 2).trans rfl, (blk_cell BK883.out 3).trans rfl⟩ (fun hHeld => ?_)
          clear hK K
          refine norm_ (a' := ?_) ?_ ?_
          rotate_left
          ·show Act.put _ (some 70) _ = _
           simp only [Act.put, List.setIfInBounds_toArray, List.set_cons_zero, List.set_cons_succ, i64_w, i32_w]
           rfl
          refine pure_ (i := 4) (N := some 71) (v := ?_) (a' := ?_) #[true, true, true, true, true] rfl rfl (by kernel_rfl) (fun _ _ _ h => h) (Or.inl ⟨by rfl, ?_⟩) ?_ ?_
          rotate_left
          ·intro w'
           go_simp
           with_reducible rfl
          rotate_left
          ·simp only [Act.put, List.setIfInBounds_toArray, List.set_cons_zero, List.set_cons_succ, i64_w, i32_w]
           rfl
          refine done_ (by kernel_rfl) ?_
          go_upto_region 28 with (first | ((with_reducible refine gate_callee (f := 16) rfl ?_); refine goesL_ (some 74) rfl rfl Try.func16 (by kernel_rfl) rfl #[.slice A1 l1.length c1] rfl (by (try simp only [List.map_toArray, List.map_cons, List.map_nil]); first | done | rfl | (simp only [List.length_drop, List.length_take]; rfl)) ?_; (with_reducible refine (laws_toStringS.calls kj26 _ _ l1 t928 _ ?side1 ?side2 A61.out).mono ?_); (case side1 => repeat (first | exact (Kd.C_below HR1.out HB.out) | (with_reducible refine Kd.C_alloc ?_ _) | (with_reducible refine Kd.C_drewN ?_ _) | (with_reducible refine Kd.C_drew ?_))); (case side2 => exact HC1.out); rintro e w75 ⟨v929, rfl, ho0, hb⟩; refine ⟨_, rfl, ?_⟩; have n0_ := Aside0.mk (Kd.R_below (by (with_reducible repeat (first | apply Kd.R_alloc | apply Kd.R_drewN | apply Kd.R_drew)); exact HO_8.out) hb); have n1_ := Aside0.mk (Kd.R_elder' (by (with_reducible repeat (first | apply Kd.R_alloc | apply Kd.R_drewN | apply Kd.R_drew)); exact HO_11.out) (Kd.R_base ho0) hb); have n2_ := Aside0.mk (Kd.R_elder' (by (with_reducible repeat (first | apply Kd.R_alloc | apply Kd.R_drewN | apply Kd.R_drew)); exact HO_12.out) (Kd.R_base ho0) hb); have n3_ := Aside0.mk (Kd.R_below (by (with_reducible repeat (first | apply Kd.R_alloc | apply Kd.R_drewN | apply Kd.R_drew)); exact HO_13.out) hb); have n4_ := Aside0.mk (Kd.R_below (by (with_reducible repeat (first | apply Kd.R_alloc | apply Kd.R_drewN | apply Kd.R_drew)); exact HO_910003.out) hb); have n5_ := Aside0.mk (Kd.R_below (by (with_reducible repeat (first | apply Kd.R_alloc | apply Kd.R_drewN | apply Kd.R_drew)); exact HO926.out) hb); have n6_ := Aside0.mk (Kd.R_lower (Kd.R_new' (Kd.R_new' ho0 (Kd.R_lt (by (with_reducible repeat (first | apply Kd.R_alloc | apply Kd.R_drewN | apply Kd.R_drew)); exact HO_11.out))) (Kd.R_lt (by (with_reducible repeat (first | apply Kd.R_alloc | apply Kd.R_drewN | apply Kd.R_drew)); exact HO_12.out))) (below_size (by repeat (first | (with_reducible first | exact HB.out | apply below_alloc | apply pw_below_drewN | apply below_drew1 | refine below_set ?_ GE883.out | refine below_set ?_ GE909.out) | exact HB.out)))); have n7_ := Aside0.mk (blk_below (g := gb883) (o := .cells #[.int .i64 a0_0, .int .i64 a0_1, .int .i64 a0_2, .slice A0_3 l0_3.length c0_3] 65 (0, 0)) (by (with_reducible repeat (first | refine blk_drewN ?_ _ | refine blk_drew ?_ | refine blk_alloc ?_ _)); exact BK883.out) hb); have n8_ := Aside0.mk (blk_below (g := gb909) (o := .cells #[.int .i64 t903, .int .i64 t904, .int .i64 t905, .slice Ao44 t906.length co44] 68 (0, 0)) (by (with_reducible repeat (first | refine blk_drewN ?_ _ | refine blk_drew ?_ | refine blk_alloc ?_ _)); exact BK909.out) hb); have n9_ := Aside0.mk (below_step (by repeat (first | (with_reducible first | exact HB.out | apply below_alloc | apply pw_below_drewN | apply below_drew1 | refine below_set ?_ GE883.out | refine below_set ?_ GE909.out) | exact HB.out)) hb); clear HO_8; clear HO_11; clear HO_12; clear HO_13; clear HO_910003; clear HO926; clear BK883; clear BK909; clear HB; have HO_8 := n0_; have HO_11 := n1_; have HO_12 := n2_; have HO_13 := n3_; have HO_910003 := n4_; have HO926 := n5_; have HO930 := n6_; have BK883 := n7_; have BK909 := n8_; have HB := n9_; clear n0_ n1_ n2_ n3_ n4_ n5_ n6_ n7_ n8_ n9_; (try clear hb); (try clear hb2); (try clear hk); (try clear hi); (try clear ho0); obtain ⟨Ao76, co76, eo76⟩ := Kd.R_slice HO930.out; subst eo76) | ((with_reducible refine gate_callee (f := 19) rfl ?_); refine goesL_ (some 75) rfl rfl Try.func19 (by kernel_rfl) rfl #[.slice Ao48 t910.length co48, .slice Ao76 t928.length co76] rfl (by (try simp only [List.map_toArray, List.map_cons, List.map_nil]); first | done | rfl | (simp only [List.length_drop, List.length_take]; rfl)) ?_; (with_reducible refine (laws_eqStringS.calls kj26 _ _ t910 _ _ t928 true _ ?side1 ?side2 ?side3 ?side4 A62.out).mono ?_); (case side1 => repeat (first | exact (Kd.R_reads' HO_11.out).2.2 | (with_reducible refine Kd.C_alloc ?_ _) | (with_reducible refine Kd.C_drewN ?_ _) | (with_reducible refine Kd.C_drew ?_))); (case side2 => exact (Kd.R_reads' HO_11.out).2.1); (case side3 => repeat (first | exact (Kd.R_reads' HO930.out).2.2 | (with_reducible refine Kd.C_alloc ?_ _) | (with_reducible refine Kd.C_drewN ?_ _) | (with_reducible refine Kd.C_drew ?_))); (case side4 => exact (Kd.R_reads' HO930.out).2.1); rintro e w' ⟨rfl, ⟨nd, rfl⟩⟩; refine ⟨_, rfl, ?_⟩) | ((with_reducible refine gate_callee (f := 16) rfl ?_); refine goesL_ (some 79) rfl rfl Try.func16 (by kernel_rfl) rfl #[.slice A2 l2.length c2] rfl (by (try simp only [List.map_toArray, List.map_cons, List.map_nil]); first | done | rfl | (simp only [List.length_drop, List.length_take]; rfl)) ?_; (with_reducible refine (laws_toStringS.calls kj26 _ _ l2 t932 _ ?side1 ?side2 A64.out).mono ?_); (case side1 => repeat (first | exact (Kd.C_below HR2.out (by repeat (first | (with_reducible first | exact HB.out | apply below_alloc | apply pw_below_drewN | apply below_drew1 | refine below_set ?_ GE883.out | refine below_set ?_ GE909.out) | exact HB.out))) | (with_reducible refine Kd.C_alloc ?_ _) | (with_reducible refine Kd.C_drewN ?_ _) | (with_reducible refine Kd.C_drew ?_))); (case side2 => exact HC2.out); rintro e w77 ⟨v933, rfl, ho0, hb⟩; refine ⟨_, rfl, ?_⟩; have n0_ := Aside0.mk (Kd.R_below (by (with_reducible repeat (first | apply Kd.R_alloc | apply Kd.R_drewN | apply Kd.R_drew)); exact HO_8.out) hb); have n1_ := Aside0.mk (Kd.R_elder' (by (with_reducible repeat (first | apply Kd.R_alloc | apply Kd.R_drewN | apply Kd.R_drew)); exact HO_11.out) (Kd.R_base ho0) hb); have n2_ := Aside0.mk (Kd.R_elder' (by (with_reducible repeat (first | apply Kd.R_alloc | apply Kd.R_drewN | apply Kd.R_drew)); exact HO_12.out) (Kd.R_base ho0) hb); have n3_ := Aside0.mk (Kd.R_below (by (with_reducible repeat (first | apply Kd.R_alloc | apply Kd.R_drewN | apply Kd.R_drew)); exact HO_13.out) hb); have n4_ := Aside0.mk (Kd.R_below (by (with_reducible repeat (first | apply Kd.R_alloc | apply Kd.R_drewN | apply Kd.R_drew)); exact HO_910003.out) hb); have n5_ := Aside0.mk (Kd.R_below (by (with_reducible repeat (first | apply Kd.R_alloc | apply Kd.R_drewN | apply Kd.R_drew)); exact HO926.out) hb); have n6_ := Aside0.mk (Kd.R_elder' (by (with_reducible repeat (first | apply Kd.R_alloc | apply Kd.R_drewN | apply Kd.R_drew)); exact HO930.out) (Kd.R_base ho0) hb); have n7_ := Aside0.mk (Kd.R_lower (Kd.R_new' (Kd.R_new' (Kd.R_new' ho0 (Kd.R_lt (by (with_reducible repeat (first | apply Kd.R_alloc | apply Kd.R_drewN | apply Kd.R_drew)); exact HO_11.out))) (Kd.R_lt (by (with_reducible repeat (first | apply Kd.R_alloc | apply Kd.R_drewN | apply Kd.R_drew)); exact HO_12.out))) (Kd.R_lt (by (with_reducible repeat (first | apply Kd.R_alloc | apply Kd.R_drewN | apply Kd.R_drew)); exact HO930.out))) (below_size (by repeat (first | (with_reducible first | exact HB.out | apply below_alloc | apply pw_below_drewN | apply below_drew1 | refine below_set ?_ GE883.out | refine below_set ?_ GE909.out) | exact HB.out)))); have n8_ := Aside0.mk (blk_below (g := gb883) (o := .cells #[.int .i64 a0_0, .int .i64 a0_1, .int .i64 a0_2, .slice A0_3 l0_3.length c0_3] 65 (0, 0)) (by (with_reducible repeat (first | refine blk_drewN ?_ _ | refine blk_drew ?_ | refine blk_alloc ?_ _)); exact BK883.out) hb); have n9_ := Aside0.mk (blk_below (g := gb909) (o := .cells #[.int .i64 t903, .int .i64 t904, .int .i64 t905, .slice Ao44 t906.length co44] 68 (0, 0)) (by (with_reducible repeat (first | refine blk_drewN ?_ _ | refine blk_drew ?_ | refine blk_alloc ?_ _)); exact BK909.out) hb); have n10_ := Aside0.mk (below_step (by repeat (first | (with_reducible first | exact HB.out | apply below_alloc | apply pw_below_drewN | apply below_drew1 | refine below_set ?_ GE883.out | refine below_set ?_ GE909.out) | exact HB.out)) hb); clear HO_8; clear HO_11; clear HO_12; clear HO_13; clear HO_910003; clear HO926; clear HO930; clear BK883; clear BK909; clear HB; have HO_8 := n0_; have HO_11 := n1_; have HO_12 := n2_; have HO_13 := n3_; have HO_910003 := n4_; have HO926 := n5_; have HO930 := n6_; have HO934 := n7_; have BK883 := n8_; have BK909 := n9_; have HB := n10_; clear n0_ n1_ n2_ n3_ n4_ n5_ n6_ n7_ n8_ n9_ n10_; (try clear hb); (try clear hb2); (try clear hk); (try clear hi); (try clear ho0); obtain ⟨Ao78, co78, eo78⟩ := Kd.R_slice HO934.out; subst eo78) | ((with_reducible refine gate_callee (f := 19) rfl ?_); refine goesL_ (some 80) rfl rfl Try.func19 (by kernel_rfl) rfl #[.slice Ao49 t913.length co49, .slice Ao78 t932.length co78] rfl (by (try simp only [List.map_toArray, List.map_cons, List.map_nil]); first | done | rfl | (simp only [List.length_drop, List.length_take]; rfl)) ?_; (with_reducible refine (laws_eqStringS.calls kj26 _ _ t913 _ _ t932 true _ ?side1 ?side2 ?side3 ?side4 A65.out).mono ?_); (case side1 => repeat (first | exact (Kd.R_reads' HO_12.out).2.2 | (with_reducible refine Kd.C_alloc ?_ _) | (with_reducible refine Kd.C_drewN ?_ _) | (with_reducible refine Kd.C_drew ?_))); (case side2 => exact (Kd.R_reads' HO_12.out).2.1); (case side3 => repeat (first | exact (Kd.R_reads' HO934.out).2.2 | (with_reducible refine Kd.C_alloc ?_ _) | (with_reducible refine Kd.C_drewN ?_ _) | (with_reducible refine Kd.C_drew ?_))); (case side4 => exact (Kd.R_reads' HO934.out).2.1); rintro e w' ⟨rfl, ⟨nd, rfl⟩⟩; refine ⟨_, rfl, ?_⟩; have hnb79 := NB909_883.out; have hnc79 := NB883_909.out; have hcz80_0 : w77.cell? ⟨gb909, 0, none⟩ = some (.int .i64 t903) := (blk_cell BK909.out 0).trans rfl; have hcz80_1 : w77.cell? ⟨gb909, 1, none⟩ = some (.int .i64 t904) := (blk_cell BK909.out 1).trans rfl; have hcz80_2 : w77.cell? ⟨gb909, 2, none⟩ = some (.int .i64 t905) := (blk_cell BK909.out 2).trans rfl; have hcz80_3 : w77.cell? ⟨gb909, 3, none⟩ = some (.slice Ao44 t906.length co44) := (blk_cell BK909.out 3).trans rfl; have hfz80_0 := blk_frozen BK909.out 0; have hfz80_1 := blk_frozen BK909.out 1; have hfz80_2 := blk_frozen BK909.out 2; have hfz80_3 := blk_frozen BK909.out 3) | ((with_reducible refine gate_callee (f := 48) rfl ?_); refine goesL_ (some 84) rfl rfl Try.func48 (by kernel_rfl) rfl #[.agg #[.int .i64 t903, .int .i64 t904, .int .i64 t905, .slice Ao44 t906.length co44], .int .i64 1] rfl (by (try simp only [List.map_toArray, List.map_cons, List.map_nil]); first | done | rfl | (simp only [List.length_drop, List.length_take]; rfl)) ?_; (with_reducible refine (laws_markTable.calls kj26 t903 t904 t905 (fun k_ => some k_ = (.slice Ao44 t906.length co44 : Value).ownBlock) (.slice Ao44 t906.length co44) t906 1 t936 t937 w _ ?side1 ?side2 A67.out).mono ?_); (case side1 => repeat (first | (with_reducible first | exact HB.out | apply below_alloc | apply pw_below_drewN | apply below_drew1 | refine below_set ?_ GE883.out | refine below_set ?_ GE909.out) | exact HB.out)); (case side2 => exact Kd.R_tight rfl HO_910003.out); rintro e w81 ⟨rfl, hy0, hb, hkp⟩; refine ⟨_, rfl, ?_⟩; have n0_ := Aside0.mk (Kd.R_mono (ok' := fun k_ => some k_ ≠ (v917 : Value).ownBlock ∧ some k_ ≠ (.slice Ao44 t906.length co44 : Value).ownBlock ∧ some k_ ≠ (.slice Ao73 t924.length co73 : Value).ownBlock) (Kd.R_keptB (HO_8.out) hkp (fun k_ hk_ hs_ => (hk_.1.2) hs_)) (fun k_ hk_ => ⟨hk_.1.1.1, hk_.1.1.2, hk_.1.2⟩)); have n1_ := Aside0.mk (Kd.R_mono (ok' := fun k_ => some k_ ≠ (.slice Ao49 t913.length co49 : Value).ownBlock ∧ some k_ ≠ (.slice Ao76 t928.length co76 : Value).ownBlock ∧ some k_ ≠ (.slice Ao78 t932.length co78 : Value).ownBlock) (Kd.R_keptB ((Kd.R_apart' HO_11.out (Kd.R_typed HO_910003.out) (by decide))) hkp (fun k_ hk_ hs_ => (hk_.2) hs_)) (fun k_ hk_ => ⟨hk_.1.1.1.1, hk_.1.1.1.2, hk_.1.1.2⟩)); have n2_ := Aside0.mk (Kd.R_mono (ok' := fun k_ => some k_ ≠ (.slice Ao48 t910.length co48 : Value).ownBlock ∧ some k_ ≠ (.slice Ao76 t928.length co76 : Value).ownBlock ∧ some k_ ≠ (.slice Ao78 t932.length co78 : Value).ownBlock) (Kd.R_keptB ((Kd.R_apart' HO_12.out (Kd.R_typed HO_910003.out) (by decide))) hkp (fun k_ hk_ hs_ => (hk_.2) hs_)) (fun k_ hk_ => ⟨hk_.1.1.1.1, hk_.1.1.1.2, hk_.1.1.2⟩)); have n3_ := Aside0.mk (Kd.R_mono (ok' := fun k_ => some k_ ≠ (v900 : Value).ownBlock ∧ some k_ ≠ (.slice Ao44 t906.length co44 : Value).ownBlock ∧ some k_ ≠ (.slice Ao73 t924.length co73 : Value).ownBlock) (Kd.R_keptB (HO_13.out) hkp (fun k_ hk_ hs_ => (hk_.1.2) hs_)) (fun k_ hk_ => ⟨hk_.1.1.1, hk_.1.1.2, hk_.1.2⟩)); have n4_ := Aside0.mk (Kd.R_reok rfl hy0 (fun k_ e_ => HO_910003.out.1 k_ e_)); have n5_ := Aside0.mk (blk_kept (by (with_reducible repeat (first | refine blk_drewN ?_ _ | refine blk_drew ?_ | refine blk_alloc ?_ _)); exact BK883.out) hkp (fun hs_ => (fun e_ => (Kd.R_ne HO_910003.out BK883.out (by decide)) e_) hs_)); have n6_ := Aside0.mk (blk_kept (by (with_reducible repeat (first | refine blk_drewN ?_ _ | refine blk_drew ?_ | refine blk_alloc ?_ _)); exact BK909.out) hkp (fun hs_ => (fun e_ => (Kd.R_ne HO_910003.out BK909.out (by decide)) e_) hs_)); have n7_ := Aside0.mk (Kd.R_mono (ok' := fun k_ => some k_ ≠ (v900 : Value).ownBlock ∧ some k_ ≠ (v917 : Value).ownBlock ∧ some k_ ≠ (.slice Ao44 t906.length co44 : Value).ownBlock) (Kd.R_keptB (HO926.out) hkp (fun k_ hk_ hs_ => (hk_.2) hs_)) (fun k_ hk_ => ⟨hk_.1.1.1.2, hk_.1.1.2, hk_.1.2⟩)); have n8_ := Aside0.mk (Kd.R_mono (ok' := fun k_ => some k_ ≠ (.slice Ao48 t910.length co48 : Value).ownBlock ∧ some k_ ≠ (.slice Ao49 t913.length co49 : Value).ownBlock ∧ some k_ ≠ (.slice Ao78 t932.length co78 : Value).ownBlock) (Kd.R_keptB ((Kd.R_apart' HO930.out (Kd.R_typed HO_910003.out) (by decide))) hkp (fun k_ hk_ hs_ => (hk_.2) hs_)) (fun k_ hk_ => ⟨hk_.1.1.1.1.2, hk_.1.1.1.2, hk_.1.1.2⟩)); have n9_ := Aside0.mk (Kd.R_mono (ok' := fun k_ => some k_ ≠ (.slice Ao48 t910.length co48 : Value).ownBlock ∧ some k_ ≠ (.slice Ao49 t913.length co49 : Value).ownBlock ∧ some k_ ≠ (.slice Ao76 t928.length co76 : Value).ownBlock) (Kd.R_keptB ((Kd.R_apart' HO934.out (Kd.R_typed HO_910003.out) (by decide))) hkp (fun k_ hk_ hs_ => (hk_.2) hs_)) (fun k_ hk_ => ⟨hk_.1.1.1.1.2, hk_.1.1.1.2, hk_.1.1.2⟩)); have n10_ := Aside0.mk (hb); clear HO_8; clear HO_11; clear HO_12; clear HO_13; clear HO_910003; clear BK883; clear BK909; clear HO926; clear HO930; clear HO934; clear HB; have HO_8 := n0_; have HO_11 := n1_; have HO_12 := n2_; have HO_13 := n3_; have HO_910003 := n4_; have BK883 := n5_; have BK909 := n6_; have HO926 := n7_; have HO930 := n8_; have HO934 := n9_; have HB := n10_; clear n0_ n1_ n2_ n3_ n4_ n5_ n6_ n7_ n8_ n9_ n10_; (try clear hb); (try clear hkp); (try clear hy0)) | ((with_reducible refine gate_callee (f := 20) rfl ?_); refine goesL_ (some 87) rfl rfl Try.func20 (by kernel_rfl) rfl #[.slice Ao48 t910.length co48, .int .i64 t936] rfl (by (try simp only [List.map_toArray, List.map_cons, List.map_nil]); first | done | rfl | (simp only [List.length_drop, List.length_take]; rfl)) ?_; (with_reducible refine (laws_markStringS.calls kj26 (fun k_ => some k_ = (.slice Ao48 t910.length co48 : Value).ownBlock) (.slice Ao48 t910.length co48) t910 t936 t938 t939 w _ ?side1 ?side2 A68.out).mono ?_); (case side1 => repeat (first | (with_reducible first | exact HB.out | apply below_alloc | apply pw_below_drewN | apply below_drew1 | refine below_set ?_ GE883.out | refine below_set ?_ GE909.out) | exact HB.out)); (case side2 => exact Kd.R_tight rfl HO_11.out); rintro e w82 ⟨rfl, hy0, hb, hkp⟩; refine ⟨_, rfl, ?_⟩; have n0_ := Aside0.mk (Kd.R_mono (ok' := fun k_ => some k_ ≠ (v917 : Value).ownBlock ∧ some k_ ≠ (.slice Ao44 t906.length co44 : Value).ownBlock ∧ some k_ ≠ (.slice Ao73 t924.length co73 : Value).ownBlock) (Kd.R_keptB ((Kd.R_apart' HO_8.out (Kd.R_typed HO_11.out) (by decide))) hkp (fun k_ hk_ hs_ => (hk_.2) hs_)) (fun k_ hk_ => ⟨hk_.1.1.1, hk_.1.1.2.1, hk_.1.1.2.2⟩)); have n1_ := Aside0.mk (Kd.R_reok rfl hy0 (fun k_ e_ => HO_11.out.1 k_ e_)); have n2_ := Aside0.mk (Kd.R_mono (ok' := fun k_ => some k_ ≠ (.slice Ao48 t910.length co48 : Value).ownBlock ∧ some k_ ≠ (.slice Ao76 t928.length co76 : Value).ownBlock ∧ some k_ ≠ (.slice Ao78 t932.length co78 : Value).ownBlock) (Kd.R_keptB (HO_12.out) hkp (fun k_ hk_ hs_ => (hk_.1) hs_)) (fun k_ hk_ => ⟨hk_.1.1, hk_.1.2.1, hk_.1.2.2⟩)); have n3_ := Aside0.mk (Kd.R_mono (ok' := fun k_ => some k_ ≠ (v900 : Value).ownBlock ∧ some k_ ≠ (.slice Ao44 t906.length co44 : Value).ownBlock ∧ some k_ ≠ (.slice Ao73 t924.length co73 : Value).ownBlock) (Kd.R_keptB ((Kd.R_apart' HO_13.out (Kd.R_typed HO_11.out) (by decide))) hkp (fun k_ hk_ hs_ => (hk_.2) hs_)) (fun k_ hk_ => ⟨hk_.1.1.1, hk_.1.1.2.1, hk_.1.1.2.2⟩)); have n4_ := Aside0.mk (Kd.R_mono (ok' := fun k_ => some k_ ≠ (v900 : Value).ownBlock ∧ some k_ ≠ (v917 : Value).ownBlock ∧ some k_ ≠ (.slice Ao73 t924.length co73 : Value).ownBlock) (Kd.R_keptB ((Kd.R_apart' HO_910003.out (Kd.R_typed HO_11.out) (by decide))) hkp (fun k_ hk_ hs_ => (hk_.2) hs_)) (fun k_ hk_ => ⟨hk_.1.1.1.1, hk_.1.1.1.2, hk_.1.1.2⟩)); have n5_ := Aside0.mk (blk_kept (by (with_reducible repeat (first | refine blk_drewN ?_ _ | refine blk_drew ?_ | refine blk_alloc ?_ _)); exact BK883.out) hkp (fun hs_ => (fun e_ => (Kd.R_ne HO_11.out BK883.out (by decide)) e_) hs_)); have n6_ := Aside0.mk (blk_kept (by (with_reducible repeat (first | refine blk_drewN ?_ _ | refine blk_drew ?_ | refine blk_alloc ?_ _)); exact BK909.out) hkp (fun hs_ => (fun e_ => (Kd.R_ne HO_11.out BK909.out (by decide)) e_) hs_)); have n7_ := Aside0.mk (Kd.R_mono (ok' := fun k_ => some k_ ≠ (v900 : Value).ownBlock ∧ some k_ ≠ (v917 : Value).ownBlock ∧ some k_ ≠ (.slice Ao44 t906.length co44 : Value).ownBlock) (Kd.R_keptB ((Kd.R_apart' HO926.out (Kd.R_typed HO_11.out) (by decide))) hkp (fun k_ hk_ hs_ => (hk_.2) hs_)) (fun k_ hk_ => ⟨hk_.1.1.1, hk_.1.1.2.1, hk_.1.1.2.2⟩)); have n8_ := Aside0.mk (Kd.R_mono (ok' := fun k_ => some k_ ≠ (.slice Ao48 t910.length co48 : Value).ownBlock ∧ some k_ ≠ (.slice Ao49 t913.length co49 : Value).ownBlock ∧ some k_ ≠ (.slice Ao78 t932.length co78 : Value).ownBlock) (Kd.R_keptB (HO930.out) hkp (fun k_ hk_ hs_ => (hk_.1) hs_)) (fun k_ hk_ => ⟨hk_.1.1, hk_.1.2.1, hk_.1.2.2⟩)); have n9_ := Aside0.mk (Kd.R_mono (ok' := fun k_ => some k_ ≠ (.slice Ao48 t910.length co48 : Value).ownBlock ∧ some k_ ≠ (.slice Ao49 t913.length co49 : Value).ownBlock ∧ some k_ ≠ (.slice Ao76 t928.length co76 : Value).ownBlock) (Kd.R_keptB (HO934.out) hkp (fun k_ hk_ hs_ => (hk_.1) hs_)) (fun k_ hk_ => ⟨hk_.1.1, hk_.1.2.1, hk_.1.2.2⟩)); have n10_ := Aside0.mk (hb); clear HO_8; clear HO_11; clear HO_12; clear HO_13; clear HO_910003; clear BK883; clear BK909; clear HO926; clear HO930; clear HO934; clear HB; have HO_8 := n0_; have HO_11 := n1_; have HO_12 := n2_; have HO_13 := n3_; have HO_910003 := n4_; have BK883 := n5_; have BK909 := n6_; have HO926 := n7_; have HO930 := n8_; have HO934 := n9_; have HB := n10_; clear n0_ n1_ n2_ n3_ n4_ n5_ n6_ n7_ n8_ n9_ n10_; (try clear hb); (try clear hkp); (try clear hy0)) | ((with_reducible refine gate_callee (f := 20) rfl ?_); refine goesL_ (some 90) rfl rfl Try.func20 (by kernel_rfl) rfl #[.slice Ao49 t913.length co49, .int .i64 t938] rfl (by (try simp only [List.map_toArray, List.map_cons, List.map_nil]); first | done | rfl | (simp only [List.length_drop, List.length_take]; rfl)) ?_; (with_reducible refine (laws_markStringS.calls kj26 (fun k_ => some k_ = (.slice Ao49 t913.length co49 : Value).ownBlock) (.slice Ao49 t913.length co49) t913 t938 t940 t941 w _ ?side1 ?side2 A69.out).mono ?_); (case side1 => repeat (first | (with_reducible first | exact HB.out | apply below_alloc | apply pw_below_drewN | apply below_drew1 | refine below_set ?_ GE883.out | refine below_set ?_ GE909.out) | exact HB.out)); (case side2 => exact Kd.R_tight rfl HO_12.out); rintro e w83 ⟨rfl, hy0, hb, hkp⟩; refine ⟨_, rfl, ?_⟩; have n0_ := Aside0.mk (Kd.R_mono (ok' := fun k_ => some k_ ≠ (v917 : Value).ownBlock ∧ some k_ ≠ (.slice Ao44 t906.length co44 : Value).ownBlock ∧ some k_ ≠ (.slice Ao73 t924.length co73 : Value).ownBlock) (Kd.R_keptB ((Kd.R_apart' HO_8.out (Kd.R_typed HO_12.out) (by decide))) hkp (fun k_ hk_ hs_ => (hk_.2) hs_)) (fun k_ hk_ => ⟨hk_.1.1.1, hk_.1.1.2.1, hk_.1.1.2.2⟩)); have n1_ := Aside0.mk (Kd.R_mono (ok' := fun k_ => some k_ ≠ (.slice Ao49 t913.length co49 : Value).ownBlock ∧ some k_ ≠ (.slice Ao76 t928.length co76 : Value).ownBlock ∧ some k_ ≠ (.slice Ao78 t932.length co78 : Value).ownBlock) (Kd.R_keptB (HO_11.out) hkp (fun k_ hk_ hs_ => (hk_.1) hs_)) (fun k_ hk_ => ⟨hk_.1.1, hk_.1.2.1, hk_.1.2.2⟩)); have n2_ := Aside0.mk (Kd.R_reok rfl hy0 (fun k_ e_ => HO_12.out.1 k_ e_)); have n3_ := Aside0.mk (Kd.R_mono (ok' := fun k_ => some k_ ≠ (v900 : Value).ownBlock ∧ some k_ ≠ (.slice Ao44 t906.length co44 : Value).ownBlock ∧ some k_ ≠ (.slice Ao73 t924.length co73 : Value).ownBlock) (Kd.R_keptB ((Kd.R_apart' HO_13.out (Kd.R_typed HO_12.out) (by decide))) hkp (fun k_ hk_ hs_ => (hk_.2) hs_)) (fun k_ hk_ => ⟨hk_.1.1.1, hk_.1.1.2.1, hk_.1.1.2.2⟩)); have n4_ := Aside0.mk (Kd.R_mono (ok' := fun k_ => some k_ ≠ (v900 : Value).ownBlock ∧ some k_ ≠ (v917 : Value).ownBlock ∧ some k_ ≠ (.slice Ao73 t924.length co73 : Value).ownBlock) (Kd.R_keptB ((Kd.R_apart' HO_910003.out (Kd.R_typed HO_12.out) (by decide))) hkp (fun k_ hk_ hs_ => (hk_.2) hs_)) (fun k_ hk_ => ⟨hk_.1.1.1, hk_.1.1.2.1, hk_.1.1.2.2⟩)); have n5_ := Aside0.mk (blk_kept (by (with_reducible repeat (first | refine blk_drewN ?_ _ | refine blk_drew ?_ | refine blk_alloc ?_ _)); exact BK883.out) hkp (fun hs_ => (fun e_ => (Kd.R_ne HO_12.out BK883.out (by decide)) e_) hs_)); have n6_ := Aside0.mk (blk_kept (by (with_reducible repeat (first | refine blk_drewN ?_ _ | refine blk_drew ?_ | refine blk_alloc ?_ _)); exact BK909.out) hkp (fun hs_ => (fun e_ => (Kd.R_ne HO_12.out BK909.out (by decide)) e_) hs_)); have n7_ := Aside0.mk (Kd.R_mono (ok' := fun k_ => some k_ ≠ (v900 : Value).ownBlock ∧ some k_ ≠ (v917 : Value).ownBlock ∧ some k_ ≠ (.slice Ao44 t906.length co44 : Value).ownBlock) (Kd.R_keptB ((Kd.R_apart' HO926.out (Kd.R_typed HO_12.out) (by decide))) hkp (fun k_ hk_ hs_ => (hk_.2) hs_)) (fun k_ hk_ => ⟨hk_.1.1.1, hk_.1.1.2.1, hk_.1.1.2.2⟩)); have n8_ := Aside0.mk (Kd.R_mono (ok' := fun k_ => some k_ ≠ (.slice Ao48 t910.length co48 : Value).ownBlock ∧ some k_ ≠ (.slice Ao49 t913.length co49 : Value).ownBlock ∧ some k_ ≠ (.slice Ao78 t932.length co78 : Value).ownBlock) (Kd.R_keptB (HO930.out) hkp (fun k_ hk_ hs_ => (hk_.2.1) hs_)) (fun k_ hk_ => ⟨hk_.1.1, hk_.1.2.1, hk_.1.2.2⟩)); have n9_ := Aside0.mk (Kd.R_mono (ok' := fun k_ => some k_ ≠ (.slice Ao48 t910.length co48 : Value).ownBlock ∧ some k_ ≠ (.slice Ao49 t913.length co49 : Value).ownBlock ∧ some k_ ≠ (.slice Ao76 t928.length co76 : Value).ownBlock) (Kd.R_keptB (HO934.out) hkp (fun k_ hk_ hs_ => (hk_.2.1) hs_)) (fun k_ hk_ => ⟨hk_.1.1, hk_.1.2.1, hk_.1.2.2⟩)); have n10_ := Aside0.mk (hb); clear HO_8; clear HO_11; clear HO_12; clear HO_13; clear HO_910003; clear BK883; clear BK909; clear HO926; clear HO930; clear HO934; clear HB; have HO_8 := n0_; have HO_11 := n1_; have HO_12 := n2_; have HO_13 := n3_; have HO_910003 := n4_; have BK883 := n5_; have BK909 := n6_; have HO926 := n7_; have HO930 := n8_; have HO934 := n9_; have HB := n10_; clear n0_ n1_ n2_ n3_ n4_ n5_ n6_ n7_ n8_ n9_ n10_; (try clear hb); (try clear hkp); (try clear hy0)))
          (try simp only [Act.put, List.setIfInBounds_toArray, List.set_cons_zero, List.set_cons_succ])
          go_cut [103] (fun v103 wc => ∃ (kq : Nat) (x103_69 : Bool), v103 = .bool x103_69 ∧ Aside0 (laws_FnExactPrintFalse.j1 kq l1 l2 t899 t902 t916 x103_69 a0_0 a0_1 a0_2 l0_3 = some r) ∧ Aside0 (kq ≤ kj26) ∧ Aside0 (Kd.R (Kd.int .i64) 3 wc w.heap.size (fun k_ => some k_ ≠ (v917 : Value).ownBlock ∧ some k_ ≠ ((.slice Ao44 t906.length co44) : Value).ownBlock) v900 t899) ∧ Aside0 (Kd.R (Kd.int .i64) 3 wc w.heap.size (fun k_ => some k_ ≠ (v900 : Value).ownBlock ∧ some k_ ≠ ((.slice Ao44 t906.length co44) : Value).ownBlock) v917 t916) ∧ Aside0 (Kd.R (Kd.int .i64) 3 wc w.heap.size (fun k_ => some k_ ≠ (v900 : Value).ownBlock ∧ some k_ ≠ (v917 : Value).ownBlock) (.slice Ao44 t906.length co44) t937) ∧ Aside0 (wc.heap[gb883]? = some (.cells #[.int .i64 a0_0, .int .i64 a0_1, .int .i64 a0_2, (.slice A0_3 l0_3.length c0_3)] 65 (0, 0))) ∧ Aside0 (wc.heap[gb909]? = some (.cells #[.int .i64 t903, .int .i64 t904, .int .i64 t905, (.slice Ao44 t906.length co44)] 68 (0, 0))) ∧ Aside0 (Below w.heap.size w wc))
          case first =>
           have H := HC70.out
           clear HC70
           by_cases c84 : t940 < 0
           ·rw [if_pos c84] at H
            have c84b0 : decide (t940 < 0) = true := decide_eq_true c84
            clear c84
            (first | rw [c84b0] | (simp only [i64_w, i32_w]; rw [c84b0]) | skip)
            have H' := Aside0.mk H
            clear H
            go_wp2
            go_meet
            case rel => exact ⟨_, (true), (by first | rfl | (simp; done) | (simp [*]; done)), H', ⟨by have := HJ26.out; first | omega | exact Nat.le_refl _⟩, ⟨by (with_reducible repeat (first | apply Kd.R_alloc | apply Kd.R_drewN | apply Kd.R_drew)); exact Kd.R_mono HO_8.out (fun _ hk => ⟨hk.1, hk.2.1⟩)⟩, ⟨by (with_reducible repeat (first | apply Kd.R_alloc | apply Kd.R_drewN | apply Kd.R_drew)); exact Kd.R_mono HO_13.out (fun _ hk => ⟨hk.1, hk.2.1⟩)⟩, ⟨by (with_reducible repeat (first | apply Kd.R_alloc | apply Kd.R_drewN | apply Kd.R_drew)); exact Kd.R_mono HO_910003.out (fun _ hk => ⟨hk.1, hk.2.1⟩)⟩, ⟨by (with_reducible repeat (first | refine blk_drewN ?_ _ | refine blk_drew ?_ | refine blk_alloc ?_ _)); exact BK883.out⟩, ⟨by (with_reducible repeat (first | refine blk_drewN ?_ _ | refine blk_drew ?_ | refine blk_alloc ?_ _)); exact BK909.out⟩, ⟨by repeat (first | (with_reducible first | exact HB.out | apply below_alloc | apply pw_below_drewN | apply below_drew1 | refine below_set ?_ GE883.out | refine below_set ?_ GE909.out) | exact HB.out)⟩⟩
           ·rw [if_neg c84] at H
            have c84b0 : decide (t940 < 0) = false := decide_eq_false c84
            clear c84
            (first | rw [c84b0] | (simp only [i64_w, i32_w]; rw [c84b0]) | skip)
            replace H := Option.bind_eq_some_iff.mp H
            obtain ⟨t942, A850, H⟩ := H
            replace H : (if t942 = true then (laws_FnExactPrintFalse.j1 kj26 l1 l2 t899 t902 t916 (t919 != t902) a0_0 a0_1 a0_2 l0_3) else (laws_FnExactPrintFalse.j1 kj26 l1 l2 t899 t902 t916 true a0_0 a0_1 a0_2 l0_3)) = some r := H
            have A85 := Aside0.mk A850
            clear A850
            by_cases c86 : t942 = true
            ·subst c86
             have H1 : (laws_FnExactPrintFalse.j1 kj26 l1 l2 t899 t902 t916 (t919 != t902) a0_0 a0_1 a0_2 l0_3) = some r := by rw [if_pos rfl] at H; exact H
             clear H
             have H := H1
             clear H1
             have H' := Aside0.mk H
             clear H
             obtain ⟨Ao87, co87, eo87⟩ := Kd.R_slice HO_13.out
             subst eo87
             obtain ⟨Ao88, co88, eo88⟩ := Kd.R_slice HO_8.out
             subst eo88
             go_wp2_with (first | (go_at_call 40; (with_reducible refine (laws_eqIntS.calls kj26 _ _ t916 _ _ t899 true _ ?side1 ?side2 ?side3 ?side4 A85.out).mono ?_); (case side1 => repeat (first | exact (Kd.R_reads' HO_13.out).2.2 | (with_reducible refine Kd.C_alloc ?_ _) | (with_reducible refine Kd.C_drewN ?_ _) | (with_reducible refine Kd.C_drew ?_))); (case side2 => exact (Kd.R_reads' HO_13.out).2.1); (case side3 => repeat (first | exact (Kd.R_reads' HO_8.out).2.2 | (with_reducible refine Kd.C_alloc ?_ _) | (with_reducible refine Kd.C_drewN ?_ _) | (with_reducible refine Kd.C_drew ?_))); (case side4 => exact (Kd.R_reads' HO_8.out).2.1); rintro e w' ⟨rfl, ⟨nd, rfl⟩⟩))
             go_meet
             case rel => exact ⟨_, ((t919 != t902)), (by first | rfl | (simp; done) | (simp [*]; done)), H', ⟨by have := HJ26.out; first | omega | exact Nat.le_refl _⟩, ⟨by (with_reducible repeat (first | apply Kd.R_alloc | apply Kd.R_drewN | apply Kd.R_drew)); exact Kd.R_mono HO_8.out (fun _ hk => ⟨hk.1, hk.2.1⟩)⟩, ⟨by (with_reducible repeat (first | apply Kd.R_alloc | apply Kd.R_drewN | apply Kd.R_drew)); exact Kd.R_mono HO_13.out (fun _ hk => ⟨hk.1, hk.2.1⟩)⟩, ⟨by (with_reducible repeat (first | apply Kd.R_alloc | apply Kd.R_drewN | apply Kd.R_drew)); exact Kd.R_mono HO_910003.out (fun _ hk => ⟨hk.1, hk.2.1⟩)⟩, ⟨by (with_reducible repeat (first | refine blk_drewN ?_ _ | refine blk_drew ?_ | refine blk_alloc ?_ _)); exact BK883.out⟩, ⟨by (with_reducible repeat (first | refine blk_drewN ?_ _ | refine blk_drew ?_ | refine blk_alloc ?_ _)); exact BK909.out⟩, ⟨by repeat (first | (with_reducible first | exact HB.out | apply below_alloc | apply pw_below_drewN | apply below_drew1 | refine below_set ?_ GE883.out | refine below_set ?_ GE909.out) | exact HB.out)⟩⟩
            ·replace c86 := Bool.eq_false_iff.mpr c86
             subst c86
             have H1 : (laws_FnExactPrintFalse.j1 kj26 l1 l2 t899 t902 t916 true a0_0 a0_1 a0_2 l0_3) = some r := by rw [if_neg (show ¬ (false = true) by decide)] at H; exact H
             clear H
             have H := H1
             clear H1
             have H' := Aside0.mk H
             clear H
             obtain ⟨Ao89, co89, eo89⟩ := Kd.R_slice HO_13.out
             subst eo89
             obtain ⟨Ao90, co90, eo90⟩ := Kd.R_slice HO_8.out
             subst eo90
             go_wp2_with (first | (go_at_call 40; (with_reducible refine (laws_eqIntS.calls kj26 _ _ t916 _ _ t899 false _ ?side1 ?side2 ?side3 ?side4 A85.out).mono ?_); (case side1 => repeat (first | exact (Kd.R_reads' HO_13.out).2.2 | (with_reducible refine Kd.C_alloc ?_ _) | (with_reducible refine Kd.C_drewN ?_ _) | (with_reducible refine Kd.C_drew ?_))); (case side2 => exact (Kd.R_reads' HO_13.out).2.1); (case side3 => repeat (first | exact (Kd.R_reads' HO_8.out).2.2 | (with_reducible refine Kd.C_alloc ?_ _) | (with_reducible refine Kd.C_drewN ?_ _) | (with_reducible refine Kd.C_drew ?_))); (case side4 => exact (Kd.R_reads' HO_8.out).2.1); rintro e w' ⟨rfl, ⟨nd, rfl⟩⟩))
             go_meet
             case rel => exact ⟨_, (true), (by first | rfl | (simp; done) | (simp [*]; done)), H', ⟨by have := HJ26.out; first | omega | exact Nat.le_refl _⟩, ⟨by (with_reducible repeat (first | apply Kd.R_alloc | apply Kd.R_drewN | apply Kd.R_drew)); exact Kd.R_mono HO_8.out (fun _ hk => ⟨hk.1, hk.2.1⟩)⟩, ⟨by (with_reducible repeat (first | apply Kd.R_alloc | apply Kd.R_drewN | apply Kd.R_drew)); exact Kd.R_mono HO_13.out (fun _ hk => ⟨hk.1, hk.2.1⟩)⟩, ⟨by (with_reducible repeat (first | apply Kd.R_alloc | apply Kd.R_drewN | apply Kd.R_drew)); exact Kd.R_mono HO_910003.out (fun _ hk => ⟨hk.1, hk.2.1⟩)⟩, ⟨by (with_reducible repeat (first | refine blk_drewN ?_ _ | refine blk_drew ?_ | refine blk_alloc ?_ _)); exact BK883.out⟩, ⟨by (with_reducible repeat (first | refine blk_drewN ?_ _ | refine blk_drew ?_ | refine blk_alloc ?_ _)); exact BK909.out⟩, ⟨by repeat (first | (with_reducible first | exact HB.out | apply below_alloc | apply pw_below_drewN | apply below_drew1 | refine below_set ?_ GE883.out | refine below_set ?_ GE909.out) | exact HB.out)⟩⟩
          case rest =>
           clear HC70
           try clear c1
           try clear c2
           try clear p2
           try clear c4
           try clear c5
           try clear c5b0
           try clear c6
           try clear c7
           try clear c8
           try clear c9
           try clear c10
           try clear c10b0
           try clear c14
           try clear c15
           try clear c15b0
           try clear c16
           try clear c19
           try clear c20
           try clear c40
           try clear c42
           try clear c43
           try clear c44
           try clear c45
           try clear c46
           try clear c47
           try clear c48
           try clear c52
           try clear c57
           try clear c60
           try clear c63
           try clear c66
           try clear c79
           try clear c84
           try clear c84b0
           try clear c86
           try clear hcz12_0
           try clear hcz12_1
           try clear hcz12_2
           try clear hcz12_3
           try clear hcz17_0
           try clear hcz17_1
           try clear hcz17_2
           try clear hcz17_3
           try clear hcz29_0
           try clear hcz29_1
           try clear hcz29_2
           try clear hcz29_3
           try clear hcz31_0
           try clear hcz31_1
           try clear hcz31_2
           try clear hcz31_3
           try clear hcz39_0
           try clear hcz39_1
           try clear hcz39_2
           try clear hcz39_3
           try clear hcz43_0
           try clear hcz43_1
           try clear hcz43_2
           try clear hcz43_3
           try clear hcz47_0
           try clear hcz47_1
           try clear hcz47_2
           try clear hcz47_3
           try clear hcz7_0
           try clear hcz7_1
           try clear hcz7_2
           try clear hcz7_3
           try clear hcz80_0
           try clear hcz80_1
           try clear hcz80_2
           try clear hcz80_3
           try clear hfz12_0
           try clear hfz12_1
           try clear hfz12_2
           try clear hfz12_3
           try clear hfz17_0
           try clear hfz17_1
           try clear hfz17_2
           try clear hfz17_3
           try clear hfz29_0
           try clear hfz29_1
           try clear hfz29_2
           try clear hfz29_3
           try clear hfz31_0
           try clear hfz31_1
           try clear hfz31_2
           try clear hfz31_3
           try clear hfz39_0
           try clear hfz39_1
           try clear hfz39_2
           try clear hfz39_3
           try clear hfz43_0
           try clear hfz43_1
           try clear hfz43_2
           try clear hfz43_3
           try clear hfz47_0
           try clear hfz47_1
           try clear hfz47_2
           try clear hfz47_3
           try clear hfz7_0
           try clear hfz7_1
           try clear hfz7_2
           try clear hfz7_3
           try clear hfz80_0
           try clear hfz80_1
           try clear hfz80_2
           try clear hfz80_3
           try clear p2
           obtain ⟨kq, x103_69, rfl, HA, HJ69, HO_8, HO_13, HO_910003, BK883, BK909, HB⟩ := hcut
           have hl910003_69 := (Kd.R_reads' HO_910003.out).1
           rw [hl910003_69] at HO_910003
           (try simp only [hl910003_69])
           (try simp only [hl910003_69] at BK883)
           (try simp only [hl910003_69] at BK909)
           (try simp only [hl910003_69] at HO_8)
           (try simp only [hl910003_69] at HO_13)
           cases kq with
           | zero => exact absurd HA.out (by simp [laws_FnExactPrintFalse.j1])
           | succ kj69 =>
            have H := HA.out
            clear HA
            simp only [laws_FnExactPrintFalse.j1] at H
            by_cases c91 : x103_69 = true
            ·subst c91
             have H1 : (some false) = some r := by rw [if_pos rfl] at H; exact H
             clear H
             have H := H1
             clear H1
             obtain rfl := Option.some.inj H
             go_wp2
             go_ret
             exact ⟨by first | rfl | (simp [errW_none, errW_some] <;> rfl) | (simp [*, errW_none, errW_some] <;> rfl), by repeat (first | (with_reducible first | exact HB.out | apply below_alloc | apply pw_below_drewN | apply below_drew1 | refine below_set ?_ GE883.out | refine below_set ?_ GE909.out) | exact HB.out)⟩
            ·replace c91 := Bool.eq_false_iff.mpr c91
             subst c91
             have H1 : ((laws_markIntS.f kj69 t916 1).bind fun bt943 => ((laws_heldIntS.f kj69 bt943.2 1).bind fun t945 => (if t945 < 0 then (some false) else (if t945 = bt943.1 then ((laws_toTable.f kj69 a0_0 a0_1 a0_2 l0_3).bind fun bt946 => ((laws_toStringS.f kj69 l1).bind fun t952 => ((laws_toStringS.f kj69 l2).bind fun t955 => ((impl_PrintFalse.f kj69 bt946.1 bt946.2.1 bt946.2.2.1 bt946.2.2.2 t952 t955).bind fun bt958 => ((laws_eqIntS.f kj69 bt958.1 t899).bind fun t962 => (if t962 = true then (laws_FnExactPrintFalse.j2 kj69 bt943.2 bt943.1 (bt958.2 != t902)) else (laws_FnExactPrintFalse.j2 kj69 bt943.2 bt943.1 true))))))) else (some false))))) = some r := by rw [if_neg (show ¬ (false = true) by decide)] at H; exact H
             clear H
             have H := H1
             clear H1
             replace H := Option.bind_eq_some_iff.mp H
             obtain ⟨⟨t943, t944⟩, A920, H⟩ := H
             replace H : ((laws_heldIntS.f kj69 t944 1).bind fun t945 => (if t945 < 0 then (some false) else (if t945 = t943 then ((laws_toTable.f kj69 a0_0 a0_1 a0_2 l0_3).bind fun bt946 => ((laws_toStringS.f kj69 l1).bind fun t952 => ((laws_toStringS.f kj69 l2).bind fun t955 => ((impl_PrintFalse.f kj69 bt946.1 bt946.2.1 bt946.2.2.1 bt946.2.2.2 t952 t955).bind fun bt958 => ((laws_eqIntS.f kj69 bt958.1 t899).bind fun t962 => (if t962 = true then (laws_FnExactPrintFalse.j2 kj69 t944 t943 (bt958.2 != t902)) else (laws_FnExactPrintFalse.j2 kj69 t944 t943 true))))))) else (some false)))) = some r := H
             have A92 := Aside0.mk A920
             clear A920
             replace H := Option.bind_eq_some_iff.mp H
             obtain ⟨t945, A930, H⟩ := H
             replace H : (if t945 < 0 then (some false) else (if t945 = t943 then ((laws_toTable.f kj69 a0_0 a0_1 a0_2 l0_3).bind fun bt946 => ((laws_toStringS.f kj69 l1).bind fun t952 => ((laws_toStringS.f kj69 l2).bind fun t955 => ((impl_PrintFalse.f kj69 bt946.1 bt946.2.1 bt946.2.2.1 bt946.2.2.2 t952 t955).bind fun bt958 => ((laws_eqIntS.f kj69 bt958.1 t899).bind fun t962 => (if t962 = true then (laws_FnExactPrintFalse.j2 kj69 t944 t943 (bt958.2 != t902)) else (laws_FnExactPrintFalse.j2 kj69 t944 t943 true))))))) else (some false))) = some r := H
             have A93 := Aside0.mk A930
             clear A930
             by_cases c94 : t945 < 0
             ·rw [if_pos c94] at H
              have c94b0 : decide (t945 < 0) = true := decide_eq_true c94
              clear c94
              obtain rfl := Option.some.inj H
              obtain ⟨Ao95, co95, eo95⟩ := Kd.R_slice HO_13.out
              subst eo95
              go_wp2_with (first | ((with_reducible refine gate_callee (f := 41) rfl ?_); refine goesL_ (some 106) rfl rfl Try.func41 (by kernel_rfl) rfl #[.slice Ao95 t916.length co95, .int .i64 1] rfl (by (try simp only [List.map_toArray, List.map_cons, List.map_nil]); first | done | rfl | (simp only [List.length_drop, List.length_take]; rfl)) ?_; (with_reducible refine (laws_markIntS.calls kj69 (fun k_ => some k_ = (.slice Ao95 t916.length co95 : Value).ownBlock) (.slice Ao95 t916.length co95) t916 1 t943 t944 w _ ?side1 ?side2 A92.out).mono ?_); (case side1 => repeat (first | (with_reducible first | exact HB.out | apply below_alloc | apply pw_below_drewN | apply below_drew1 | refine below_set ?_ GE883.out | refine below_set ?_ GE909.out) | exact HB.out)); (case side2 => exact Kd.R_tight rfl HO_13.out); rintro e w96 ⟨rfl, hy0, hb, hkp⟩; refine ⟨_, rfl, ?_⟩; have n0_ := Aside0.mk (Kd.R_mono (ok' := fun k_ => some k_ ≠ (.slice Ao95 t916.length co95 : Value).ownBlock ∧ some k_ ≠ (.slice Ao44 t937.length co44 : Value).ownBlock) (Kd.R_keptB (HO_8.out) hkp (fun k_ hk_ hs_ => (hk_.1) hs_)) (fun k_ hk_ => ⟨hk_.1.1, hk_.1.2⟩)); have n1_ := Aside0.mk (Kd.R_reok rfl hy0 (fun k_ e_ => HO_13.out.1 k_ e_)); have n2_ := Aside0.mk (Kd.R_mono (ok' := fun k_ => some k_ ≠ (v900 : Value).ownBlock ∧ some k_ ≠ (.slice Ao95 t916.length co95 : Value).ownBlock) (Kd.R_keptB (HO_910003.out) hkp (fun k_ hk_ hs_ => (hk_.2) hs_)) (fun k_ hk_ => ⟨hk_.1.1, hk_.1.2⟩)); have n3_ := Aside0.mk (blk_kept (by (with_reducible repeat (first | refine blk_drewN ?_ _ | refine blk_drew ?_ | refine blk_alloc ?_ _)); exact BK883.out) hkp (fun hs_ => (fun e_ => (Kd.R_ne HO_13.out BK883.out (by decide)) e_) hs_)); have n4_ := Aside0.mk (blk_kept (by (with_reducible repeat (first | refine blk_drewN ?_ _ | refine blk_drew ?_ | refine blk_alloc ?_ _)); exact BK909.out) hkp (fun hs_ => (fun e_ => (Kd.R_ne HO_13.out BK909.out (by decide)) e_) hs_)); have n5_ := Aside0.mk (hb); clear HO_8; clear HO_13; clear HO_910003; clear BK883; clear BK909; clear HB; have HO_8 := n0_; have HO_13 := n1_; have HO_910003 := n2_; have BK883 := n3_; have BK909 := n4_; have HB := n5_; clear n0_ n1_ n2_ n3_ n4_ n5_; (try clear hb); (try clear hkp); (try clear hy0)) | ((with_reducible refine gate_callee (f := 42) rfl ?_); refine goesL_ (some 109) rfl rfl Try.func42 (by kernel_rfl) rfl #[.slice Ao95 t944.length co95, .int .i64 1] rfl (by (try simp only [List.map_toArray, List.map_cons, List.map_nil]); first | done | (rw [show t944.length = t916.length from (Kd.R_reads' HO_13.out).1.symm] <;> rfl) | rfl | (simp only [List.length_drop, List.length_take]; rfl)) ?_; (with_reducible refine (laws_heldIntS.calls kj69 _ _ t944 1 t945 _ ?side1 ?side2 A93.out).mono ?_); (case side1 => repeat (first | exact (Kd.R_reads' HO_13.out).2.2 | (with_reducible refine Kd.C_alloc ?_ _) | (with_reducible refine Kd.C_drewN ?_ _) | (with_reducible refine Kd.C_drew ?_))); (case side2 => rw [show t944.length = t916.length from (Kd.R_reads' HO_13.out).1.symm]; exact (Kd.R_reads' HO_13.out).2.1); rintro e w' ⟨rfl, ⟨nd, rfl⟩⟩; refine ⟨_, rfl, ?_⟩))
              go_ret
              exact ⟨by first | rfl | (simp [errW_none, errW_some] <;> rfl) | (simp [*, errW_none, errW_some] <;> rfl), by repeat (first | (with_reducible first | exact HB.out | apply below_alloc | apply pw_below_drewN | apply below_drew1 | refine below_set ?_ GE883.out | refine below_set ?_ GE909.out) | exact HB.out)⟩
             ·rw [if_neg c94] at H
              have c94b0 : decide (t945 < 0) = false := decide_eq_false c94
              clear c94
              by_cases c97 : t945 = t943
              ·rw [if_pos c97] at H
               have c97b0 : (t945 == t943) = true := beq_iff_eq.mpr c97
               have c97b1 : (t945 != t943) = false := bne_eq_false_iff_eq.mpr c97
               clear c97
               replace H := Option.bind_eq_some_iff.mp H
               obtain ⟨⟨t946, t947, t948, t949⟩, A980, H⟩ := H
               replace H : ((laws_toStringS.f kj69 l1).bind fun t952 => ((laws_toStringS.f kj69 l2).bind fun t955 => ((impl_PrintFalse.f kj69 t946 t947 t948 t949 t952 t955).bind fun bt958 => ((laws_eqIntS.f kj69 bt958.1 t899).bind fun t962 => (if t962 = true then (laws_FnExactPrintFalse.j2 kj69 t944 t943 (bt958.2 != t902)) else (laws_FnExactPrintFalse.j2 kj69 t944 t943 true)))))) = some r := H
               have A98 := Aside0.mk A980
               clear A980
               replace H := Option.bind_eq_some_iff.mp H
               obtain ⟨t952, A990, H⟩ := H
               replace H : ((laws_toStringS.f kj69 l2).bind fun t955 => ((impl_PrintFalse.f kj69 t946 t947 t948 t949 t952 t955).bind fun bt958 => ((laws_eqIntS.f kj69 bt958.1 t899).bind fun t962 => (if t962 = true then (laws_FnExactPrintFalse.j2 kj69 t944 t943 (bt958.2 != t902)) else (laws_FnExactPrintFalse.j2 kj69 t944 t943 true))))) = some r := H
               have A99 := Aside0.mk A990
               clear A990
               replace H := Option.bind_eq_some_iff.mp H
               obtain ⟨t955, A1000, H⟩ := H
               replace H : ((impl_PrintFalse.f kj69 t946 t947 t948 t949 t952 t955).bind fun bt958 => ((laws_eqIntS.f kj69 bt958.1 t899).bind fun t962 => (if t962 = true then (laws_FnExactPrintFalse.j2 kj69 t944 t943 (bt958.2 != t902)) else (laws_FnExactPrintFalse.j2 kj69 t944 t943 true)))) = some r := H
               have A100 := Aside0.mk A1000
               clear A1000
               replace H := Option.bind_eq_some_iff.mp H
               obtain ⟨⟨t958, t961⟩, A1010, H⟩ := H
               replace H : ((laws_eqIntS.f kj69 t958 t899).bind fun t962 => (if t962 = true then (laws_FnExactPrintFalse.j2 kj69 t944 t943 (t961 != t902)) else (laws_FnExactPrintFalse.j2 kj69 t944 t943 true))) = some r := H
               have A101 := Aside0.mk A1010
               clear A1010
               have HC102 := Aside0.mk H
               clear H
               obtain ⟨Ao103, co103, eo103⟩ := Kd.R_slice HO_13.out
               subst eo103
               go_upto_region 39 with (first | ((with_reducible refine gate_callee (f := 41) rfl ?_); refine goesL_ (some 106) rfl rfl Try.func41 (by kernel_rfl) rfl #[.slice Ao103 t916.length co103, .int .i64 1] rfl (by (try simp only [List.map_toArray, List.map_cons, List.map_nil]); first | done | rfl | (simp only [List.length_drop, List.length_take]; rfl)) ?_; (with_reducible refine (laws_markIntS.calls kj69 (fun k_ => some k_ = (.slice Ao103 t916.length co103 : Value).ownBlock) (.slice Ao103 t916.length co103) t916 1 t943 t944 w _ ?side1 ?side2 A92.out).mono ?_); (case side1 => repeat (first | (with_reducible first | exact HB.out | apply below_alloc | apply pw_below_drewN | apply below_drew1 | refine below_set ?_ GE883.out | refine below_set ?_ GE909.out) | exact HB.out)); (case side2 => exact Kd.R_tight rfl HO_13.out); rintro e w104 ⟨rfl, hy0, hb, hkp⟩; refine ⟨_, rfl, ?_⟩; have n0_ := Aside0.mk (Kd.R_mono (ok' := fun k_ => some k_ ≠ (.slice Ao103 t916.length co103 : Value).ownBlock ∧ some k_ ≠ (.slice Ao44 t937.length co44 : Value).ownBlock) (Kd.R_keptB (HO_8.out) hkp (fun k_ hk_ hs_ => (hk_.1) hs_)) (fun k_ hk_ => ⟨hk_.1.1, hk_.1.2⟩)); have n1_ := Aside0.mk (Kd.R_reok rfl hy0 (fun k_ e_ => HO_13.out.1 k_ e_)); have n2_ := Aside0.mk (Kd.R_mono (ok' := fun k_ => some k_ ≠ (v900 : Value).ownBlock ∧ some k_ ≠ (.slice Ao103 t916.length co103 : Value).ownBlock) (Kd.R_keptB (HO_910003.out) hkp (fun k_ hk_ hs_ => (hk_.2) hs_)) (fun k_ hk_ => ⟨hk_.1.1, hk_.1.2⟩)); have n3_ := Aside0.mk (blk_kept (by (with_reducible repeat (first | refine blk_drewN ?_ _ | refine blk_drew ?_ | refine blk_alloc ?_ _)); exact BK883.out) hkp (fun hs_ => (fun e_ => (Kd.R_ne HO_13.out BK883.out (by decide)) e_) hs_)); have n4_ := Aside0.mk (blk_kept (by (with_reducible repeat (first | refine blk_drewN ?_ _ | refine blk_drew ?_ | refine blk_alloc ?_ _)); exact BK909.out) hkp (fun hs_ => (fun e_ => (Kd.R_ne HO_13.out BK909.out (by decide)) e_) hs_)); have n5_ := Aside0.mk (hb); clear HO_8; clear HO_13; clear HO_910003; clear BK883; clear BK909; clear HB; have HO_8 := n0_; have HO_13 := n1_; have HO_910003 := n2_; have BK883 := n3_; have BK909 := n4_; have HB := n5_; clear n0_ n1_ n2_ n3_ n4_ n5_; (try clear hb); (try clear hkp); (try clear hy0)) | ((with_reducible refine gate_callee (f := 42) rfl ?_); refine goesL_ (some 109) rfl rfl Try.func42 (by kernel_rfl) rfl #[.slice Ao103 t944.length co103, .int .i64 1] rfl (by (try simp only [List.map_toArray, List.map_cons, List.map_nil]); first | done | (rw [show t944.length = t916.length from (Kd.R_reads' HO_13.out).1.symm] <;> rfl) | rfl | (simp only [List.length_drop, List.length_take]; rfl)) ?_; (with_reducible refine (laws_heldIntS.calls kj69 _ _ t944 1 t945 _ ?side1 ?side2 A93.out).mono ?_); (case side1 => repeat (first | exact (Kd.R_reads' HO_13.out).2.2 | (with_reducible refine Kd.C_alloc ?_ _) | (with_reducible refine Kd.C_drewN ?_ _) | (with_reducible refine Kd.C_drew ?_))); (case side2 => rw [show t944.length = t916.length from (Kd.R_reads' HO_13.out).1.symm]; exact (Kd.R_reads' HO_13.out).2.1); rintro e w' ⟨rfl, ⟨nd, rfl⟩⟩; refine ⟨_, rfl, ?_⟩; have hnb105 := NB883_909.out; have hnc105 := NB909_883.out; have hcz106_0 : w104.cell? ⟨gb883, 0, none⟩ = some (.int .i64 a0_0) := (blk_cell BK883.out 0).trans rfl; have hcz106_1 : w104.cell? ⟨gb883, 1, none⟩ = some (.int .i64 a0_1) := (blk_cell BK883.out 1).trans rfl; have hcz106_2 : w104.cell? ⟨gb883, 2, none⟩ = some (.int .i64 a0_2) := (blk_cell BK883.out 2).trans rfl; have hcz106_3 : w104.cell? ⟨gb883, 3, none⟩ = some (.slice A0_3 l0_3.length c0_3) := (blk_cell BK883.out 3).trans rfl; have hfz106_0 := blk_frozen BK883.out 0; have hfz106_1 := blk_frozen BK883.out 1; have hfz106_2 := blk_frozen BK883.out 2; have hfz106_3 := blk_frozen BK883.out 3) | ((with_reducible refine gate_callee (f := 45) rfl ?_); refine goesL_ (some 117) rfl rfl Try.func45 (by kernel_rfl) rfl #[.agg #[.int .i64 a0_0, .int .i64 a0_1, .int .i64 a0_2, .slice A0_3 l0_3.length c0_3]] rfl (by (try simp only [List.map_toArray, List.map_cons, List.map_nil]); first | done | rfl | (simp only [List.length_drop, List.length_take]; rfl)) ?_; (with_reducible refine (laws_toTable.calls kj69 a0_0 a0_1 a0_2 _ _ l0_3 t946 t947 t948 t949 _ ?side1 ?side2 A98.out).mono ?_); (case side1 => repeat (first | exact (Kd.C_below HR0_3.out (by repeat (first | (with_reducible first | exact HB.out | apply below_alloc | apply pw_below_drewN | apply below_drew1 | refine below_set ?_ GE883.out | refine below_set ?_ GE909.out) | exact HB.out))) | (with_reducible refine Kd.C_alloc ?_ _) | (with_reducible refine Kd.C_drewN ?_ _) | (with_reducible refine Kd.C_drew ?_))); (case side2 => exact HC0_3.out); rintro e w107 ⟨v950, rfl, ho0, hb⟩; refine ⟨_, rfl, ?_⟩; have n0_ := Aside0.mk (Kd.R_elder' (by (with_reducible repeat (first | apply Kd.R_alloc | apply Kd.R_drewN | apply Kd.R_drew)); exact HO_8.out) (Kd.R_base ho0) hb); have n1_ := Aside0.mk (Kd.R_elder' (by (with_reducible repeat (first | apply Kd.R_alloc | apply Kd.R_drewN | apply Kd.R_drew)); exact HO_13.out) (Kd.R_base ho0) hb); have n2_ := Aside0.mk (Kd.R_elder' (by (with_reducible repeat (first | apply Kd.R_alloc | apply Kd.R_drewN | apply Kd.R_drew)); exact HO_910003.out) (Kd.R_base ho0) hb); have n3_ := Aside0.mk (Kd.R_lower (Kd.R_new' (Kd.R_new' (Kd.R_new' ho0 (Kd.R_lt (by (with_reducible repeat (first | apply Kd.R_alloc | apply Kd.R_drewN | apply Kd.R_drew)); exact HO_8.out))) (Kd.R_lt (by (with_reducible repeat (first | apply Kd.R_alloc | apply Kd.R_drewN | apply Kd.R_drew)); exact HO_13.out))) (Kd.R_lt (by (with_reducible repeat (first | apply Kd.R_alloc | apply Kd.R_drewN | apply Kd.R_drew)); exact HO_910003.out))) (below_size (by repeat (first | (with_reducible first | exact HB.out | apply below_alloc | apply pw_below_drewN | apply below_drew1 | refine below_set ?_ GE883.out | refine below_set ?_ GE909.out) | exact HB.out)))); have n4_ := Aside0.mk (blk_below (g := gb883) (o := .cells #[.int .i64 a0_0, .int .i64 a0_1, .int .i64 a0_2, .slice A0_3 l0_3.length c0_3] 65 (0, 0)) (by (with_reducible repeat (first | refine blk_drewN ?_ _ | refine blk_drew ?_ | refine blk_alloc ?_ _)); exact BK883.out) hb); have n5_ := Aside0.mk (blk_below (g := gb909) (o := .cells #[.int .i64 t903, .int .i64 t904, .int .i64 t905, .slice Ao44 t937.length co44] 68 (0, 0)) (by (with_reducible repeat (first | refine blk_drewN ?_ _ | refine blk_drew ?_ | refine blk_alloc ?_ _)); exact BK909.out) hb); have n6_ := Aside0.mk (below_step (by repeat (first | (with_reducible first | exact HB.out | apply below_alloc | apply pw_below_drewN | apply below_drew1 | refine below_set ?_ GE883.out | refine below_set ?_ GE909.out) | exact HB.out)) hb); clear HO_8; clear HO_13; clear HO_910003; clear BK883; clear BK909; clear HB; have HO_8 := n0_; have HO_13 := n1_; have HO_910003 := n2_; have HO951 := n3_; have BK883 := n4_; have BK909 := n5_; have HB := n6_; clear n0_ n1_ n2_ n3_ n4_ n5_ n6_; (try clear hb); (try clear hb2); (try clear hk); (try clear hi); (try clear ho0)) | ((with_reducible refine gate_callee (f := 16) rfl ?_); refine goesL_ (some 119) rfl rfl Try.func16 (by kernel_rfl) rfl #[.slice A1 l1.length c1] rfl (by (try simp only [List.map_toArray, List.map_cons, List.map_nil]); first | done | rfl | (simp only [List.length_drop, List.length_take]; rfl)) ?_; (with_reducible refine (laws_toStringS.calls kj69 _ _ l1 t952 _ ?side1 ?side2 A99.out).mono ?_); (case side1 => repeat (first | exact (Kd.C_below HR1.out HB.out) | (with_reducible refine Kd.C_alloc ?_ _) | (with_reducible refine Kd.C_drewN ?_ _) | (with_reducible refine Kd.C_drew ?_))); (case side2 => exact HC1.out); rintro e w108 ⟨v953, rfl, ho0, hb⟩; refine ⟨_, rfl, ?_⟩; have n0_ := Aside0.mk (Kd.R_below (by (with_reducible repeat (first | apply Kd.R_alloc | apply Kd.R_drewN | apply Kd.R_drew)); exact HO_8.out) hb); have n1_ := Aside0.mk (Kd.R_below (by (with_reducible repeat (first | apply Kd.R_alloc | apply Kd.R_drewN | apply Kd.R_drew)); exact HO_13.out) hb); have n2_ := Aside0.mk (Kd.R_below (by (with_reducible repeat (first | apply Kd.R_alloc | apply Kd.R_drewN | apply Kd.R_drew)); exact HO_910003.out) hb); have n3_ := Aside0.mk (Kd.R_below (by (with_reducible repeat (first | apply Kd.R_alloc | apply Kd.R_drewN | apply Kd.R_drew)); exact HO951.out) hb); have n4_ := Aside0.mk (Kd.R_lower ho0 (below_size (by repeat (first | (with_reducible first | exact HB.out | apply below_alloc | apply pw_below_drewN | apply below_drew1 | refine below_set ?_ GE883.out | refine below_set ?_ GE909.out) | exact HB.out)))); have n5_ := Aside0.mk (blk_below (g := gb883) (o := .cells #[.int .i64 a0_0, .int .i64 a0_1, .int .i64 a0_2, .slice A0_3 l0_3.length c0_3] 65 (0, 0)) (by (with_reducible repeat (first | refine blk_drewN ?_ _ | refine blk_drew ?_ | refine blk_alloc ?_ _)); exact BK883.out) hb); have n6_ := Aside0.mk (blk_below (g := gb909) (o := .cells #[.int .i64 t903, .int .i64 t904, .int .i64 t905, .slice Ao44 t937.length co44] 68 (0, 0)) (by (with_reducible repeat (first | refine blk_drewN ?_ _ | refine blk_drew ?_ | refine blk_alloc ?_ _)); exact BK909.out) hb); have n7_ := Aside0.mk (below_step (by repeat (first | (with_reducible first | exact HB.out | apply below_alloc | apply pw_below_drewN | apply below_drew1 | refine below_set ?_ GE883.out | refine below_set ?_ GE909.out) | exact HB.out)) hb); clear HO_8; clear HO_13; clear HO_910003; clear HO951; clear BK883; clear BK909; clear HB; have HO_8 := n0_; have HO_13 := n1_; have HO_910003 := n2_; have HO951 := n3_; have HO954 := n4_; have BK883 := n5_; have BK909 := n6_; have HB := n7_; clear n0_ n1_ n2_ n3_ n4_ n5_ n6_ n7_; (try clear hb); (try clear hb2); (try clear hk); (try clear hi); (try clear ho0)) | ((with_reducible refine gate_callee (f := 16) rfl ?_); refine goesL_ (some 121) rfl rfl Try.func16 (by kernel_rfl) rfl #[.slice A2 l2.length c2] rfl (by (try simp only [List.map_toArray, List.map_cons, List.map_nil]); first | done | rfl | (simp only [List.length_drop, List.length_take]; rfl)) ?_; (with_reducible refine (laws_toStringS.calls kj69 _ _ l2 t955 _ ?side1 ?side2 A100.out).mono ?_); (case side1 => repeat (first | exact (Kd.C_below HR2.out HB.out) | (with_reducible refine Kd.C_alloc ?_ _) | (with_reducible refine Kd.C_drewN ?_ _) | (with_reducible refine Kd.C_drew ?_))); (case side2 => exact HC2.out); rintro e w109 ⟨v956, rfl, ho0, hb⟩; refine ⟨_, rfl, ?_⟩; have n0_ := Aside0.mk (Kd.R_below (by (with_reducible repeat (first | apply Kd.R_alloc | apply Kd.R_drewN | apply Kd.R_drew)); exact HO_8.out) hb); have n1_ := Aside0.mk (Kd.R_below (by (with_reducible repeat (first | apply Kd.R_alloc | apply Kd.R_drewN | apply Kd.R_drew)); exact HO_13.out) hb); have n2_ := Aside0.mk (Kd.R_below (by (with_reducible repeat (first | apply Kd.R_alloc | apply Kd.R_drewN | apply Kd.R_drew)); exact HO_910003.out) hb); have n3_ := Aside0.mk (Kd.R_below (by (with_reducible repeat (first | apply Kd.R_alloc | apply Kd.R_drewN | apply Kd.R_drew)); exact HO951.out) hb); have n4_ := Aside0.mk (Kd.R_elder' (by (with_reducible repeat (first | apply Kd.R_alloc | apply Kd.R_drewN | apply Kd.R_drew)); exact HO954.out) (Kd.R_base ho0) hb); have n5_ := Aside0.mk (Kd.R_lower (Kd.R_new' ho0 (Kd.R_lt (by (with_reducible repeat (first | apply Kd.R_alloc | apply Kd.R_drewN | apply Kd.R_drew)); exact HO954.out))) (below_size (by repeat (first | (with_reducible first | exact HB.out | apply below_alloc | apply pw_below_drewN | apply below_drew1 | refine below_set ?_ GE883.out | refine below_set ?_ GE909.out) | exact HB.out)))); have n6_ := Aside0.mk (blk_below (g := gb883) (o := .cells #[.int .i64 a0_0, .int .i64 a0_1, .int .i64 a0_2, .slice A0_3 l0_3.length c0_3] 65 (0, 0)) (by (with_reducible repeat (first | refine blk_drewN ?_ _ | refine blk_drew ?_ | refine blk_alloc ?_ _)); exact BK883.out) hb); have n7_ := Aside0.mk (blk_below (g := gb909) (o := .cells #[.int .i64 t903, .int .i64 t904, .int .i64 t905, .slice Ao44 t937.length co44] 68 (0, 0)) (by (with_reducible repeat (first | refine blk_drewN ?_ _ | refine blk_drew ?_ | refine blk_alloc ?_ _)); exact BK909.out) hb); have n8_ := Aside0.mk (below_step (by repeat (first | (with_reducible first | exact HB.out | apply below_alloc | apply pw_below_drewN | apply below_drew1 | refine below_set ?_ GE883.out | refine below_set ?_ GE909.out) | exact HB.out)) hb); clear HO_8; clear HO_13; clear HO_910003; clear HO951; clear HO954; clear BK883; clear BK909; clear HB; have HO_8 := n0_; have HO_13 := n1_; have HO_910003 := n2_; have HO951 := n3_; have HO954 := n4_; have HO957 := n5_; have BK883 := n6_; have BK909 := n7_; have HB := n8_; clear n0_ n1_ n2_ n3_ n4_ n5_ n6_ n7_ n8_; (try clear hb); (try clear hb2); (try clear hk); (try clear hi); (try clear ho0); obtain ⟨Ao110, co110, eo110⟩ := Kd.R_slice HO951.out; subst eo110; obtain ⟨Ao111, co111, eo111⟩ := Kd.R_slice HO954.out; subst eo111; obtain ⟨Ao112, co112, eo112⟩ := Kd.R_slice HO957.out; subst eo112) | ((with_reducible refine gate_callee (f := 46) rfl ?_); refine goesL_ (some 122) rfl rfl Try.func46 (by kernel_rfl) rfl #[.agg #[.int .i64 t946, .int .i64 t947, .int .i64 t948, .slice Ao110 t949.length co110], .slice Ao111 t952.length co111, .slice Ao112 t955.length co112] rfl (by (try simp only [List.map_toArray, List.map_cons, List.map_nil]); first | done | rfl | (simp only [List.length_drop, List.length_take]; rfl)) ?_; (with_reducible refine (impl_PrintFalse.calls kj69 t946 t947 t948 _ _ t949 _ _ t952 _ _ t955 t958 t961 _ ?side1 ?side2 ?side3 ?side4 ?side5 ?side6 A101.out).mono ?_); (case side1 => repeat (first | exact (Kd.R_reads' HO951.out).2.2 | (with_reducible refine Kd.C_alloc ?_ _) | (with_reducible refine Kd.C_drewN ?_ _) | (with_reducible refine Kd.C_drew ?_))); (case side2 => exact (Kd.R_reads' HO951.out).2.1); (case side3 => repeat (first | exact (Kd.R_reads' HO954.out).2.2 | (with_reducible refine Kd.C_alloc ?_ _) | (with_reducible refine Kd.C_drewN ?_ _) | (with_reducible refine Kd.C_drew ?_))); (case side4 => exact (Kd.R_reads' HO954.out).2.1); (case side5 => repeat (first | exact (Kd.R_reads' HO957.out).2.2 | (with_reducible refine Kd.C_alloc ?_ _) | (with_reducible refine Kd.C_drewN ?_ _) | (with_reducible refine Kd.C_drew ?_))); (case side6 => exact (Kd.R_reads' HO957.out).2.1); rintro e w113 ⟨v959, rfl, ho0, hb⟩; refine ⟨_, rfl, ?_⟩; have n0_ := Aside0.mk (Kd.R_elder' (by (with_reducible repeat (first | apply Kd.R_alloc | apply Kd.R_drewN | apply Kd.R_drew)); exact HO_8.out) (Kd.R_base ho0) hb); have n1_ := Aside0.mk (Kd.R_elder' (by (with_reducible repeat (first | apply Kd.R_alloc | apply Kd.R_drewN | apply Kd.R_drew)); exact HO_13.out) (Kd.R_base ho0) hb); have n2_ := Aside0.mk (Kd.R_elder' (by (with_reducible repeat (first | apply Kd.R_alloc | apply Kd.R_drewN | apply Kd.R_drew)); exact HO_910003.out) (Kd.R_base ho0) hb); have n3_ := Aside0.mk (Kd.R_elder' (by (with_reducible repeat (first | apply Kd.R_alloc | apply Kd.R_drewN | apply Kd.R_drew)); exact HO951.out) (Kd.R_base ho0) hb); have n4_ := Aside0.mk (Kd.R_below (by (with_reducible repeat (first | apply Kd.R_alloc | apply Kd.R_drewN | apply Kd.R_drew)); exact HO954.out) hb); have n5_ := Aside0.mk (Kd.R_below (by (with_reducible repeat (first | apply Kd.R_alloc | apply Kd.R_drewN | apply Kd.R_drew)); exact HO957.out) hb); have n6_ := Aside0.mk (Kd.R_lower (Kd.R_new' (Kd.R_new' (Kd.R_new' (Kd.R_new' ho0 (Kd.R_lt (by (with_reducible repeat (first | apply Kd.R_alloc | apply Kd.R_drewN | apply Kd.R_drew)); exact HO_8.out))) (Kd.R_lt (by (with_reducible repeat (first | apply Kd.R_alloc | apply Kd.R_drewN | apply Kd.R_drew)); exact HO_13.out))) (Kd.R_lt (by (with_reducible repeat (first | apply Kd.R_alloc | apply Kd.R_drewN | apply Kd.R_drew)); exact HO_910003.out))) (Kd.R_lt (by (with_reducible repeat (first | apply Kd.R_alloc | apply Kd.R_drewN | apply Kd.R_drew)); exact HO951.out))) (below_size (by repeat (first | (with_reducible first | exact HB.out | apply below_alloc | apply pw_below_drewN | apply below_drew1 | refine below_set ?_ GE883.out | refine below_set ?_ GE909.out) | exact HB.out)))); have n7_ := Aside0.mk (blk_below (g := gb883) (o := .cells #[.int .i64 a0_0, .int .i64 a0_1, .int .i64 a0_2, .slice A0_3 l0_3.length c0_3] 65 (0, 0)) (by (with_reducible repeat (first | refine blk_drewN ?_ _ | refine blk_drew ?_ | refine blk_alloc ?_ _)); exact BK883.out) hb); have n8_ := Aside0.mk (blk_below (g := gb909) (o := .cells #[.int .i64 t903, .int .i64 t904, .int .i64 t905, .slice Ao44 t937.length co44] 68 (0, 0)) (by (with_reducible repeat (first | refine blk_drewN ?_ _ | refine blk_drew ?_ | refine blk_alloc ?_ _)); exact BK909.out) hb); have n9_ := Aside0.mk (below_step (by repeat (first | (with_reducible first | exact HB.out | apply below_alloc | apply pw_below_drewN | apply below_drew1 | refine below_set ?_ GE883.out | refine below_set ?_ GE909.out) | exact HB.out)) hb); clear HO_8; clear HO_13; clear HO_910003; clear HO951; clear HO954; clear HO957; clear BK883; clear BK909; clear HB; have HO_8 := n0_; have HO_13 := n1_; have HO_910003 := n2_; have HO951 := n3_; have HO954 := n4_; have HO957 := n5_; have HO960 := n6_; have BK883 := n7_; have BK909 := n8_; have HB := n9_; clear n0_ n1_ n2_ n3_ n4_ n5_ n6_ n7_ n8_ n9_; (try clear hb); (try clear hb2); (try clear hk); (try clear hi); (try clear ho0)))
               (try simp only [Act.put, List.setIfInBounds_toArray, List.set_cons_zero, List.set_cons_succ])
               go_cut [133] (fun v133 wc => ∃ (kq : Nat) (x133_101 : Bool), v133 = .bool x133_101 ∧ Aside0 (laws_FnExactPrintFalse.j2 kq t944 t943 x133_101 = some r) ∧ Aside0 (kq ≤ kj69) ∧ Aside0 (Kd.R (Kd.int .i64) 3 wc w.heap.size (fun k_ => some k_ ≠ ((.slice Ao44 t937.length co44) : Value).ownBlock) (.slice Ao103 t916.length co103) t944) ∧ Aside0 (Kd.R (Kd.int .i64) 3 wc w.heap.size (fun k_ => some k_ ≠ ((.slice Ao103 t916.length co103) : Value).ownBlock) (.slice Ao44 t937.length co44) t937) ∧ Aside0 (wc.heap[gb883]? = some (.cells #[.int .i64 a0_0, .int .i64 a0_1, .int .i64 a0_2, (.slice A0_3 l0_3.length c0_3)] 65 (0, 0))) ∧ Aside0 (wc.heap[gb909]? = some (.cells #[.int .i64 t903, .int .i64 t904, .int .i64 t905, (.slice Ao44 t937.length co44)] 68 (0, 0))) ∧ Aside0 (Below w.heap.size w wc))
               case first =>
                have H := HC102.out
                clear HC102
                replace H := Option.bind_eq_some_iff.mp H
                obtain ⟨t962, A1140, H⟩ := H
                replace H : (if t962 = true then (laws_FnExactPrintFalse.j2 kj69 t944 t943 (t961 != t902)) else (laws_FnExactPrintFalse.j2 kj69 t944 t943 true)) = some r := H
                have A114 := Aside0.mk A1140
                clear A1140
                by_cases c115 : t962 = true
                ·subst c115
                 have H1 : (laws_FnExactPrintFalse.j2 kj69 t944 t943 (t961 != t902)) = some r := by rw [if_pos rfl] at H; exact H
                 clear H
                 have H := H1
                 clear H1
                 have H' := Aside0.mk H
                 clear H
                 obtain ⟨Ao116, co116, eo116⟩ := Kd.R_slice HO960.out
                 subst eo116
                 obtain ⟨Ao117, co117, eo117⟩ := Kd.R_slice HO_8.out
                 subst eo117
                 go_wp2_with (first | ((with_reducible refine gate_callee (f := 40) rfl ?_); refine goesL_ (some 127) rfl rfl Try.func40 (by kernel_rfl) rfl #[.slice Ao116 t958.length co116, .slice Ao117 t899.length co117] rfl (by (try simp only [List.map_toArray, List.map_cons, List.map_nil]); first | done | rfl | (simp only [List.length_drop, List.length_take]; rfl)) ?_; (with_reducible refine (laws_eqIntS.calls kj69 _ _ t958 _ _ t899 true _ ?side1 ?side2 ?side3 ?side4 A114.out).mono ?_); (case side1 => repeat (first | exact (Kd.R_reads' HO960.out).2.2 | (with_reducible refine Kd.C_alloc ?_ _) | (with_reducible refine Kd.C_drewN ?_ _) | (with_reducible refine Kd.C_drew ?_))); (case side2 => exact (Kd.R_reads' HO960.out).2.1); (case side3 => repeat (first | exact (Kd.R_reads' HO_8.out).2.2 | (with_reducible refine Kd.C_alloc ?_ _) | (with_reducible refine Kd.C_drewN ?_ _) | (with_reducible refine Kd.C_drew ?_))); (case side4 => exact (Kd.R_reads' HO_8.out).2.1); rintro e w' ⟨rfl, ⟨nd, rfl⟩⟩; refine ⟨_, rfl, ?_⟩))
                 go_meet
                 case rel => exact ⟨_, ((t961 != t902)), (by first | rfl | (simp; done) | (simp [*]; done)), H', ⟨by have := HJ26.out; have := HJ69.out; first | omega | exact Nat.le_refl _⟩, ⟨by (try simp only [hl910003_69]); (with_reducible repeat (first | apply Kd.R_alloc | apply Kd.R_drewN | apply Kd.R_drew)); exact Kd.R_mono HO_13.out (fun _ hk => hk.1.1.2)⟩, ⟨by (try simp only [hl910003_69]); (with_reducible repeat (first | apply Kd.R_alloc | apply Kd.R_drewN | apply Kd.R_drew)); exact Kd.R_mono HO_910003.out (fun _ hk => hk.1.1.2)⟩, ⟨by (try simp only [hl910003_69]); (with_reducible repeat (first | refine blk_drewN ?_ _ | refine blk_drew ?_ | refine blk_alloc ?_ _)); exact BK883.out⟩, ⟨by (try simp only [hl910003_69]); (with_reducible repeat (first | refine blk_drewN ?_ _ | refine blk_drew ?_ | refine blk_alloc ?_ _)); exact BK909.out⟩, ⟨by repeat (first | (with_reducible first | exact HB.out | apply below_alloc | apply pw_below_drewN | apply below_drew1 | refine below_set ?_ GE883.out | refine below_set ?_ GE909.out) | exact HB.out)⟩⟩
                ·replace c115 := Bool.eq_false_iff.mpr c115
                 subst c115
                 have H1 : (laws_FnExactPrintFalse.j2 kj69 t944 t943 true) = some r := by rw [if_neg (show ¬ (false = true) by decide)] at H; exact H
                 clear H
                 have H := H1
                 clear H1
                 have H' := Aside0.mk H
                 clear H
                 obtain ⟨Ao118, co118, eo118⟩ := Kd.R_slice HO960.out
                 subst eo118
                 obtain ⟨Ao119, co119, eo119⟩ := Kd.R_slice HO_8.out
                 subst eo119
                 go_wp2_with (first | ((with_reducible refine gate_callee (f := 40) rfl ?_); refine goesL_ (some 127) rfl rfl Try.func40 (by kernel_rfl) rfl #[.slice Ao118 t958.length co118, .slice Ao119 t899.length co119] rfl (by (try simp only [List.map_toArray, List.map_cons, List.map_nil]); first | done | rfl | (simp only [List.length_drop, List.length_take]; rfl)) ?_; (with_reducible refine (laws_eqIntS.calls kj69 _ _ t958 _ _ t899 false _ ?side1 ?side2 ?side3 ?side4 A114.out).mono ?_); (case side1 => repeat (first | exact (Kd.R_reads' HO960.out).2.2 | (with_reducible refine Kd.C_alloc ?_ _) | (with_reducible refine Kd.C_drewN ?_ _) | (with_reducible refine Kd.C_drew ?_))); (case side2 => exact (Kd.R_reads' HO960.out).2.1); (case side3 => repeat (first | exact (Kd.R_reads' HO_8.out).2.2 | (with_reducible refine Kd.C_alloc ?_ _) | (with_reducible refine Kd.C_drewN ?_ _) | (with_reducible refine Kd.C_drew ?_))); (case side4 => exact (Kd.R_reads' HO_8.out).2.1); rintro e w' ⟨rfl, ⟨nd, rfl⟩⟩; refine ⟨_, rfl, ?_⟩))
                 go_meet
                 case rel => exact ⟨_, (true), (by first | rfl | (simp; done) | (simp [*]; done)), H', ⟨by have := HJ26.out; have := HJ69.out; first | omega | exact Nat.le_refl _⟩, ⟨by (try simp only [hl910003_69]); (with_reducible repeat (first | apply Kd.R_alloc | apply Kd.R_drewN | apply Kd.R_drew)); exact Kd.R_mono HO_13.out (fun _ hk => hk.1.1.2)⟩, ⟨by (try simp only [hl910003_69]); (with_reducible repeat (first | apply Kd.R_alloc | apply Kd.R_drewN | apply Kd.R_drew)); exact Kd.R_mono HO_910003.out (fun _ hk => hk.1.1.2)⟩, ⟨by (try simp only [hl910003_69]); (with_reducible repeat (first | refine blk_drewN ?_ _ | refine blk_drew ?_ | refine blk_alloc ?_ _)); exact BK883.out⟩, ⟨by (try simp only [hl910003_69]); (with_reducible repeat (first | refine blk_drewN ?_ _ | refine blk_drew ?_ | refine blk_alloc ?_ _)); exact BK909.out⟩, ⟨by repeat (first | (with_reducible first | exact HB.out | apply below_alloc | apply pw_below_drewN | apply below_drew1 | refine below_set ?_ GE883.out | refine below_set ?_ GE909.out) | exact HB.out)⟩⟩
               case rest =>
                clear HC102
                try clear c1
                try clear c2
                try clear p2
                try clear c4
                try clear c5
                try clear c5b0
                try clear c6
                try clear c7
                try clear c8
                try clear c9
                try clear c10
                try clear c10b0
                try clear c11
                try clear c14
                try clear c15
                try clear c15b0
                try clear c16
                try clear c19
                try clear c20
                try clear c40
                try clear c41
                try clear c42
                try clear c43
                try clear c44
                try clear c45
                try clear c46
                try clear c47
                try clear c48
                try clear c52
                try clear c57
                try clear c60
                try clear c63
                try clear c66
                try clear c79
                try clear c84
                try clear c84b0
                try clear c86
                try clear c91
                try clear c94
                try clear c94b0
                try clear c97
                try clear c97b0
                try clear c97b1
                try clear c105
                try clear c115
                try clear hcz106_0
                try clear hcz106_1
                try clear hcz106_2
                try clear hcz106_3
                try clear hcz12_0
                try clear hcz12_1
                try clear hcz12_2
                try clear hcz12_3
                try clear hcz17_0
                try clear hcz17_1
                try clear hcz17_2
                try clear hcz17_3
                try clear hcz29_0
                try clear hcz29_1
                try clear hcz29_2
                try clear hcz29_3
                try clear hcz31_0
                try clear hcz31_1
                try clear hcz31_2
                try clear hcz31_3
                try clear hcz39_0
                try clear hcz39_1
                try clear hcz39_2
                try clear hcz39_3
                try clear hcz43_0
                try clear hcz43_1
                try clear hcz43_2
                try clear hcz43_3
                try clear hcz47_0
                try clear hcz47_1
                try clear hcz47_2
                try clear hcz47_3
                try clear hcz7_0
                try clear hcz7_1
                try clear hcz7_2
                try clear hcz7_3
                try clear hcz80_0
                try clear hcz80_1
                try clear hcz80_2
                try clear hcz80_3
                try clear hfz106_0
                try clear hfz106_1
                try clear hfz106_2
                try clear hfz106_3
                try clear hfz12_0
                try clear hfz12_1
                try clear hfz12_2
                try clear hfz12_3
                try clear hfz17_0
                try clear hfz17_1
                try clear hfz17_2
                try clear hfz17_3
                try clear hfz29_0
                try clear hfz29_1
                try clear hfz29_2
                try clear hfz29_3
                try clear hfz31_0
                try clear hfz31_1
                try clear hfz31_2
                try clear hfz31_3
                try clear hfz39_0
                try clear hfz39_1
                try clear hfz39_2
                try clear hfz39_3
                try clear hfz43_0
                try clear hfz43_1
                try clear hfz43_2
                try clear hfz43_3
                try clear hfz47_0
                try clear hfz47_1
                try clear hfz47_2
                try clear hfz47_3
                try clear hfz7_0
                try clear hfz7_1
                try clear hfz7_2
                try clear hfz7_3
                try clear hfz80_0
                try clear hfz80_1
                try clear hfz80_2
                try clear hfz80_3
                try clear p2
                obtain ⟨kq, x133_101, rfl, HA, HJ101, HO_13, HO_910003, BK883, BK909, HB⟩ := hcut
                have hl13_101 := (Kd.R_reads' HO_13.out).1
                rw [hl13_101] at HO_13
                (try simp only [hl13_101])
                (try simp only [hl13_101] at BK883)
                (try simp only [hl13_101] at BK909)
                (try simp only [hl13_101] at HO_910003)
                cases kq with
                | zero => exact absurd HA.out (by simp [laws_FnExactPrintFalse.j2])
                | succ kj101 =>
                 have H := HA.out
                 clear HA
                 simp only [laws_FnExactPrintFalse.j2] at H
                 by_cases c120 : x133_101 = true
                 ·subst c120
                  have H1 : (some false) = some r := by rw [if_pos rfl] at H; exact H
                  clear H
                  have H := H1
                  clear H1
                  obtain rfl := Option.some.inj H
                  go_wp2
                  go_ret
                  exact ⟨by first | rfl | (simp [errW_none, errW_some] <;> rfl) | (simp [*, errW_none, errW_some] <;> rfl), by repeat (first | (with_reducible first | exact HB.out | apply below_alloc | apply pw_below_drewN | apply below_drew1 | refine below_set ?_ GE883.out | refine below_set ?_ GE909.out) | exact HB.out)⟩
                 ·replace c120 := Bool.eq_false_iff.mpr c120
                  subst c120
                  have H1 : ((laws_heldIntS.f kj101 t944 1).bind fun t963 => (if t963 < 0 then (some false) else (if t963 = t943 then (some true) else (some false)))) = some r := by rw [if_neg (show ¬ (false = true) by decide)] at H; exact H
                  clear H
                  have H := H1
                  clear H1
                  replace H := Option.bind_eq_some_iff.mp H
                  obtain ⟨t963, A1210, H⟩ := H
                  replace H : (if t963 < 0 then (some false) else (if t963 = t943 then (some true) else (some false))) = some r := H
                  have A121 := Aside0.mk A1210
                  clear A1210
                  by_cases c122 : t963 < 0
                  ·rw [if_pos c122] at H
                   have c122b0 : decide (t963 < 0) = true := decide_eq_true c122
                   clear c122
                   obtain rfl := Option.some.inj H
                   go_wp2_with (first | ((with_reducible refine gate_callee (f := 42) rfl ?_); refine goesL_ (some 136) rfl rfl Try.func42 (by kernel_rfl) rfl #[.slice Ao103 t944.length co103, .int .i64 1] rfl (by (try simp only [List.map_toArray, List.map_cons, List.map_nil]); first | done | rfl | (simp only [List.length_drop, List.length_take]; rfl)) ?_; (with_reducible refine (laws_heldIntS.calls kj101 _ _ t944 1 t963 _ ?side1 ?side2 A121.out).mono ?_); (case side1 => repeat (first | exact (Kd.R_reads' HO_13.out).2.2 | (with_reducible refine Kd.C_alloc ?_ _) | (with_reducible refine Kd.C_drewN ?_ _) | (with_reducible refine Kd.C_drew ?_))); (case side2 => exact (Kd.R_reads' HO_13.out).2.1); rintro e w' ⟨rfl, ⟨nd, rfl⟩⟩; refine ⟨_, rfl, ?_⟩))
                   go_ret
                   exact ⟨by first | rfl | (simp [errW_none, errW_some] <;> rfl) | (simp [*, errW_none, errW_some] <;> rfl), by repeat (first | (with_reducible first | exact HB.out | apply below_alloc | apply pw_below_drewN | apply below_drew1 | refine below_set ?_ GE883.out | refine below_set ?_ GE909.out) | exact HB.out)⟩
                  ·rw [if_neg c122] at H
                   have c122b0 : decide (t963 < 0) = false := decide_eq_false c122
                   clear c122
                   by_cases c123 : t963 = t943
                   ·rw [if_pos c123] at H
                    have c123b0 : (t963 == t943) = true := beq_iff_eq.mpr c123
                    have c123b1 : (t963 != t943) = false := bne_eq_false_iff_eq.mpr c123
                    clear c123
                    obtain rfl := Option.some.inj H
                    go_wp2_with (first | ((with_reducible refine gate_callee (f := 42) rfl ?_); refine goesL_ (some 136) rfl rfl Try.func42 (by kernel_rfl) rfl #[.slice Ao103 t944.length co103, .int .i64 1] rfl (by (try simp only [List.map_toArray, List.map_cons, List.map_nil]); first | done | rfl | (simp only [List.length_drop, List.length_take]; rfl)) ?_; (with_reducible refine (laws_heldIntS.calls kj101 _ _ t944 1 t963 _ ?side1 ?side2 A121.out).mono ?_); (case side1 => repeat (first | exact (Kd.R_reads' HO_13.out).2.2 | (with_reducible refine Kd.C_alloc ?_ _) | (with_reducible refine Kd.C_drewN ?_ _) | (with_reducible refine Kd.C_drew ?_))); (case side2 => exact (Kd.R_reads' HO_13.out).2.1); rintro e w' ⟨rfl, ⟨nd, rfl⟩⟩; refine ⟨_, rfl, ?_⟩))
                    go_ret
                    exact ⟨by first | rfl | (simp [errW_none, errW_some] <;> rfl) | (simp [*, errW_none, errW_some] <;> rfl), by repeat (first | (with_reducible first | exact HB.out | apply below_alloc | apply pw_below_drewN | apply below_drew1 | refine below_set ?_ GE883.out | refine below_set ?_ GE909.out) | exact HB.out)⟩
                   ·rw [if_neg c123] at H
                    have c123b0 : (t963 == t943) = false := beq_eq_false_iff_ne.mpr c123
                    have c123b1 : (t963 != t943) = true := bne_iff_ne.mpr c123
                    obtain rfl := Option.some.inj H
                    go_wp2_with (first | ((with_reducible refine gate_callee (f := 42) rfl ?_); refine goesL_ (some 136) rfl rfl Try.func42 (by kernel_rfl) rfl #[.slice Ao103 t944.length co103, .int .i64 1] rfl (by (try simp only [List.map_toArray, List.map_cons, List.map_nil]); first | done | rfl | (simp only [List.length_drop, List.length_take]; rfl)) ?_; (with_reducible refine (laws_heldIntS.calls kj101 _ _ t944 1 t963 _ ?side1 ?side2 A121.out).mono ?_); (case side1 => repeat (first | exact (Kd.R_reads' HO_13.out).2.2 | (with_reducible refine Kd.C_alloc ?_ _) | (with_reducible refine Kd.C_drewN ?_ _) | (with_reducible refine Kd.C_drew ?_))); (case side2 => exact (Kd.R_reads' HO_13.out).2.1); rintro e w' ⟨rfl, ⟨nd, rfl⟩⟩; refine ⟨_, rfl, ?_⟩))
                    go_ret
                    exact ⟨by first | rfl | (simp [errW_none, errW_some] <;> rfl) | (simp [*, errW_none, errW_some] <;> rfl), by repeat (first | (with_reducible first | exact HB.out | apply below_alloc | apply pw_below_drewN | apply below_drew1 | refine below_set ?_ GE883.out | refine below_set ?_ GE909.out) | exact HB.out)⟩
              ·rw [if_neg c97] at H
               have c97b0 : (t945 == t943) = false := beq_eq_false_iff_ne.mpr c97
               have c97b1 : (t945 != t943) = true := bne_iff_ne.mpr c97
               obtain rfl := Option.some.inj H
               obtain ⟨Ao124, co124, eo124⟩ := Kd.R_slice HO_13.out
               subst eo124
               go_wp2_with (first | ((with_reducible refine gate_callee (f := 41) rfl ?_); refine goesL_ (some 106) rfl rfl Try.func41 (by kernel_rfl) rfl #[.slice Ao124 t916.length co124, .int .i64 1] rfl (by (try simp only [List.map_toArray, List.map_cons, List.map_nil]); first | done | rfl | (simp only [List.length_drop, List.length_take]; rfl)) ?_; (with_reducible refine (laws_markIntS.calls kj69 (fun k_ => some k_ = (.slice Ao124 t916.length co124 : Value).ownBlock) (.slice Ao124 t916.length co124) t916 1 t943 t944 w _ ?side1 ?side2 A92.out).mono ?_); (case side1 => repeat (first | (with_reducible first | exact HB.out | apply below_alloc | apply pw_below_drewN | apply below_drew1 | refine below_set ?_ GE883.out | refine below_set ?_ GE909.out) | exact HB.out)); (case side2 => exact Kd.R_tight rfl HO_13.out); rintro e w125 ⟨rfl, hy0, hb, hkp⟩; refine ⟨_, rfl, ?_⟩; have n0_ := Aside0.mk (Kd.R_mono (ok' := fun k_ => some k_ ≠ (.slice Ao124 t916.length co124 : Value).ownBlock ∧ some k_ ≠ (.slice Ao44 t937.length co44 : Value).ownBlock) (Kd.R_keptB (HO_8.out) hkp (fun k_ hk_ hs_ => (hk_.1) hs_)) (fun k_ hk_ => ⟨hk_.1.1, hk_.1.2⟩)); have n1_ := Aside0.mk (Kd.R_reok rfl hy0 (fun k_ e_ => HO_13.out.1 k_ e_)); have n2_ := Aside0.mk (Kd.R_mono (ok' := fun k_ => some k_ ≠ (v900 : Value).ownBlock ∧ some k_ ≠ (.slice Ao124 t916.length co124 : Value).ownBlock) (Kd.R_keptB (HO_910003.out) hkp (fun k_ hk_ hs_ => (hk_.2) hs_)) (fun k_ hk_ => ⟨hk_.1.1, hk_.1.2⟩)); have n3_ := Aside0.mk (blk_kept (by (with_reducible repeat (first | refine blk_drewN ?_ _ | refine blk_drew ?_ | refine blk_alloc ?_ _)); exact BK883.out) hkp (fun hs_ => (fun e_ => (Kd.R_ne HO_13.out BK883.out (by decide)) e_) hs_)); have n4_ := Aside0.mk (blk_kept (by (with_reducible repeat (first | refine blk_drewN ?_ _ | refine blk_drew ?_ | refine blk_alloc ?_ _)); exact BK909.out) hkp (fun hs_ => (fun e_ => (Kd.R_ne HO_13.out BK909.out (by decide)) e_) hs_)); have n5_ := Aside0.mk (hb); clear HO_8; clear HO_13; clear HO_910003; clear BK883; clear BK909; clear HB; have HO_8 := n0_; have HO_13 := n1_; have HO_910003 := n2_; have BK883 := n3_; have BK909 := n4_; have HB := n5_; clear n0_ n1_ n2_ n3_ n4_ n5_; (try clear hb); (try clear hkp); (try clear hy0)) | ((with_reducible refine gate_callee (f := 42) rfl ?_); refine goesL_ (some 109) rfl rfl Try.func42 (by kernel_rfl) rfl #[.slice Ao124 t944.length co124, .int .i64 1] rfl (by (try simp only [List.map_toArray, List.map_cons, List.map_nil]); first | done | (rw [show t944.length = t916.length from (Kd.R_reads' HO_13.out).1.symm] <;> rfl) | rfl | (simp only [List.length_drop, List.length_take]; rfl)) ?_; (with_reducible refine (laws_heldIntS.calls kj69 _ _ t944 1 t945 _ ?side1 ?side2 A93.out).mono ?_); (case side1 => repeat (first | exact (Kd.R_reads' HO_13.out).2.2 | (with_reducible refine Kd.C_alloc ?_ _) | (with_reducible refine Kd.C_drewN ?_ _) | (with_reducible refine Kd.C_drew ?_))); (case side2 => rw [show t944.length = t916.length from (Kd.R_reads' HO_13.out).1.symm]; exact (Kd.R_reads' HO_13.out).2.1); rintro e w' ⟨rfl, ⟨nd, rfl⟩⟩; refine ⟨_, rfl, ?_⟩))
               go_ret
               exact ⟨by first | rfl | (simp [errW_none, errW_some] <;> rfl) | (simp [*, errW_none, errW_some] <;> rfl), by repeat (first | (with_reducible first | exact HB.out | apply below_alloc | apply pw_below_drewN | apply below_drew1 | refine below_set ?_ GE883.out | refine below_set ?_ GE909.out) | exact HB.out)⟩
         ·replace c66 := Bool.eq_false_iff.mpr c66
          subst c66
          have H1 : (some false) = some r := by rw [if_neg (show ¬ (false = true) by decide)] at H; exact H
          clear H
          have H := H1
          clear H1
          obtain rfl := Option.some.inj H
          try go_wp2
          have n0_ := Aside0.mk (Kd.R_drew HO_8.out)
          have n1_ := Aside0.mk (Kd.R_drew HO_11.out)
          have n2_ := Aside0.mk (Kd.R_drew HO_12.out)
          have n3_ := Aside0.mk (Kd.R_drew HO_13.out)
          have n4_ := Aside0.mk (Kd.R_drew HO_910003.out)
          have n5_ := Aside0.mk (blk_drew BK883.out)
          have n6_ := Aside0.mk (blk_drew BK909.out)
          have n7_ := Aside0.mk (below_drew1 HB.out)
          clear HO_8
          clear HO_11
          clear HO_12
          clear HO_13
          clear HO_910003
          clear BK883
          clear BK909
          clear HB
          have HO_8 := n0_
          have HO_11 := n1_
          have HO_12 := n2_
          have HO_13 := n3_
          have HO_910003 := n4_
          have BK883 := n5_
          have BK909 := n6_
          have HB := n7_
          clear n0_ n1_ n2_ n3_ n4_ n5_ n6_ n7_
          refine start_ (n := 5) (S := fun w' => w'.cell? ⟨gb909, 0, none⟩ = some (.int .i64 t903) ∧ w'.cell? ⟨gb909, 1, none⟩ = some (.int .i64 t904) ∧ w'.cell? ⟨gb909, 2, none⟩ = some (.int .i64 t905) ∧ w'.cell? ⟨gb909, 3, none⟩ = some (.slice Ao44 t906.length co44) ∧ w'.cell? ⟨gb883, 0, none⟩ = some (.int .i64 a0_0) ∧ w'.cell? ⟨gb883, 1, none⟩ = some (.int .i64 a0_1) ∧ w'.cell? ⟨gb883, 2, none⟩ = some (.int .i64 a0_2) ∧ w'.cell? ⟨gb883, 3, none⟩ = some (.slice A0_3 l0_3.length c0_3)) (ds := []) #[false, false, false, false, false] (by kernel_rfl) rfl rfl ⟨(blk_cell BK909.out 0).trans rfl, (blk_cell BK909.out 1).trans rfl, (blk_cell BK909.out 2).trans rfl, (blk_cell BK909.out 3).trans rfl, (blk_cell BK883.out 0).trans rfl, (blk_cell BK883.out 1).trans rfl, (blk_cell BK883.out 2).trans rfl, (blk_cell BK883.out 3).trans rfl⟩ (fun hHeld => ?_)
          generalize wc.drew = w126 at HO_8 HO_11 HO_12 HO_13 HO_910003 BK883 BK909 HB hHeld ⊢
          refine take_ (i := 0) (N := some 67) (v := ?_) (a' := ?_) #[true, false, false, false, false] rfl rfl (by kernel_rfl) (fun _ _ _ h => h) (Or.inl ⟨by rfl, ?_⟩) hHeld ?_ ?_
          rotate_left
          ·rintro w' ⟨s0, s1, s2, s3, s4, s5, s6, s7⟩
           go_simp
           with_reducible rfl
          rotate_left
          ·simp only [Act.put, List.setIfInBounds_toArray, List.set_cons_zero, List.set_cons_succ, i64_w, i32_w]
           rfl
          refine take_ (i := 1) (N := some 68) (v := ?_) (a' := ?_) #[true, true, false, false, false] rfl rfl (by kernel_rfl) (fun _ _ _ h => h) (Or.inl ⟨by rfl, ?_⟩) hHeld ?_ ?_
          rotate_left
          ·rintro w' ⟨s0, s1, s2, s3, s4, s5, s6, s7⟩
           go_simp
           with_reducible rfl
          rotate_left
          ·simp only [Act.put, List.setIfInBounds_toArray, List.set_cons_zero, List.set_cons_succ, i64_w, i32_w]
           rfl
          refine one_ (i := 2) (N := some 69) #[true, true, true, false, false] rfl rfl (by kernel_rfl) (by decide) (fun K hK => ?_)
          refine goes_ Try.func45 (by kernel_rfl) rfl #[.agg #[.int .i64 a0_0, .int .i64 a0_1, .int .i64 a0_2, .slice A0_3 l0_3.length c0_3]] (by rfl) rfl rfl (by (try simp only [List.map_toArray, List.map_cons, List.map_nil]); first | done | rfl | (simp only [List.length_drop, List.length_take]; rfl)) ?_
          with_reducible refine (laws_toTable.calls kj26 a0_0 a0_1 a0_2 _ _ l0_3 t921 t922 t923 t924 _ ?side1 ?side2 A58.out).mono ?_
          (case side1 => repeat (first | exact (Kd.C_below HR0_3.out HB.out) | (with_reducible refine Kd.C_alloc ?_ _) | (with_reducible refine Kd.C_drewN ?_ _) | (with_reducible refine Kd.C_drew ?_)))
          (case side2 => exact HC0_3.out)
          rintro e w127 ⟨v925, rfl, ho0, hb⟩
          refine ⟨_, rfl, ?_⟩
          have n0_ := Aside0.mk (Kd.R_elder' (by (with_reducible repeat (first | apply Kd.R_alloc | apply Kd.R_drewN | apply Kd.R_drew)); exact HO_8.out) (Kd.R_base ho0) hb)
          have n1_ := Aside0.mk (Kd.R_below (by (with_reducible repeat (first | apply Kd.R_alloc | apply Kd.R_drewN | apply Kd.R_drew)); exact HO_11.out) hb)
          have n2_ := Aside0.mk (Kd.R_below (by (with_reducible repeat (first | apply Kd.R_alloc | apply Kd.R_drewN | apply Kd.R_drew)); exact HO_12.out) hb)
          have n3_ := Aside0.mk (Kd.R_elder' (by (with_reducible repeat (first | apply Kd.R_alloc | apply Kd.R_drewN | apply Kd.R_drew)); exact HO_13.out) (Kd.R_base ho0) hb)
          have n4_ := Aside0.mk (Kd.R_elder' (by (with_reducible repeat (first | apply Kd.R_alloc | apply Kd.R_drewN | apply Kd.R_drew)); exact HO_910003.out) (Kd.R_base ho0) hb)
          have n5_ := Aside0.mk (Kd.R_lower (Kd.R_new' (Kd.R_new' (Kd.R_new' ho0 (Kd.R_lt (by (with_reducible repeat (first | apply Kd.R_alloc | apply Kd.R_drewN | apply Kd.R_drew)); exact HO_8.out))) (Kd.R_lt (by (with_reducible repeat (first | apply Kd.R_alloc | apply Kd.R_drewN | apply Kd.R_drew)); exact HO_13.out))) (Kd.R_lt (by (with_reducible repeat (first | apply Kd.R_alloc | apply Kd.R_drewN | apply Kd.R_drew)); exact HO_910003.out))) (below_size (by repeat (first | (with_reducible first | exact HB.out | apply below_alloc | apply pw_below_drewN | apply below_drew1 | refine below_set ?_ GE883.out | refine below_set ?_ GE909.out) | exact HB.out))))
          have n6_ := Aside0.mk (blk_below (g := gb883) (o := .cells #[.int .i64 a0_0, .int .i64 a0_1, .int .i64 a0_2, .slice A0_3 l0_3.length c0_3] 65 (0, 0)) (by (with_reducible repeat (first | refine blk_drewN ?_ _ | refine blk_drew ?_ | refine blk_alloc ?_ _)); exact BK883.out) hb)
          have n7_ := Aside0.mk (blk_below (g := gb909) (o := .cells #[.int .i64 t903, .int .i64 t904, .int .i64 t905, .slice Ao44 t906.length co44] 68 (0, 0)) (by (with_reducible repeat (first | refine blk_drewN ?_ _ | refine blk_drew ?_ | refine blk_alloc ?_ _)); exact BK909.out) hb)
          have n8_ := Aside0.mk (below_step (by repeat (first | (with_reducible first | exact HB.out | apply below_alloc | apply pw_below_drewN | apply below_drew1 | refine below_set ?_ GE883.out | refine below_set ?_ GE909.out) | exact HB.out)) hb)
          clear HO_8
          clear HO_11
          clear HO_12
          clear HO_13
          clear HO_910003
          clear BK883
          clear BK909
          clear HB
          have HO_8 := n0_
          have HO_11 := n1_
          have HO_12 := n2_
          have HO_13 := n3_
          have HO_910003 := n4_
          have HO926 := n5_
          have BK883 := n6_
          have BK909 := n7_
          have HB := n8_
          clear n0_ n1_ n2_ n3_ n4_ n5_ n6_ n7_ n8_
          (try clear hb)
          (try clear hb2)
          (try clear hk)
          (try clear hi)
          (try clear ho0)
          obtain ⟨Ao128, co128, eo128⟩ := Kd.R_slice HO926.out
          (first | subst eo128 | (injection eo128 with f1_ f2_ f3_; have f4_ := f1_.symm; have f5_ := f3_.symm; clear f1_ f2_ f3_; subst f4_; subst f5_))
          refine hK.out _ _ ⟨(blk_cell BK909.out 0).trans rfl, (blk_cell BK909.out 1).trans rfl, (blk_cell BK909.out 2).trans rfl, (blk_cell BK909.out 3).trans rfl, (blk_cell BK883.out 0).trans rfl, (blk_cell BK883.out 1).trans rfl, (blk_cell BK883.out 2).trans rfl, (blk_cell BK883.out 3).trans rfl⟩ (fun hHeld => ?_)
          clear hK K
          refine norm_ (a' := ?_) ?_ ?_
          rotate_left
          ·show Act.put _ (some 69) _ = _
           simp only [Act.put, List.setIfInBounds_toArray, List.set_cons_zero, List.set_cons_succ, i64_w, i32_w]
           rfl
          refine one_ (i := 3) (N := some 70) #[true, true, true, true, false] rfl rfl (by kernel_rfl) (by decide) (fun K hK => ?_)
          refine goes_ Try.func47 (by kernel_rfl) rfl #[.agg #[.int .i64 t903, .int .i64 t904, .int .i64 t905, .slice Ao44 t906.length co44], .agg #[.int .i64 t921, .int .i64 t922, .int .i64 t923, .slice Ao128 t924.length co128]] (by rfl) rfl rfl (by (try simp only [List.map_toArray, List.map_cons, List.map_nil]); first | done | rfl | (simp only [List.length_drop, List.length_take]; rfl)) ?_
          with_reducible refine (laws_eqTable.calls kj26 t903 t904 t905 _ _ t906 t921 t922 t923 _ _ t924 true _ ?side1 ?side2 ?side3 ?side4 A59.out).mono ?_
          (case side1 => repeat (first | exact (Kd.R_reads' HO_910003.out).2.2 | (with_reducible refine Kd.C_alloc ?_ _) | (with_reducible refine Kd.C_drewN ?_ _) | (with_reducible refine Kd.C_drew ?_)))
          (case side2 => exact (Kd.R_reads' HO_910003.out).2.1)
          (case side3 => repeat (first | exact (Kd.R_reads' HO926.out).2.2 | (with_reducible refine Kd.C_alloc ?_ _) | (with_reducible refine Kd.C_drewN ?_ _) | (with_reducible refine Kd.C_drew ?_)))
          (case side4 => exact (Kd.R_reads' HO926.out).2.1)
          rintro e w129 ⟨rfl, hb⟩
          refine ⟨_, rfl, ?_⟩
          have n0_ := Aside0.mk (Kd.R_below (by (with_reducible repeat (first | apply Kd.R_alloc | apply Kd.R_drewN | apply Kd.R_drew)); exact HO_8.out) hb)
          have n1_ := Aside0.mk (Kd.R_below (by (with_reducible repeat (first | apply Kd.R_alloc | apply Kd.R_drewN | apply Kd.R_drew)); exact HO_11.out) hb)
          have n2_ := Aside0.mk (Kd.R_below (by (with_reducible repeat (first | apply Kd.R_alloc | apply Kd.R_drewN | apply Kd.R_drew)); exact HO_12.out) hb)
          have n3_ := Aside0.mk (Kd.R_below (by (with_reducible repeat (first | apply Kd.R_alloc | apply Kd.R_drewN | apply Kd.R_drew)); exact HO_13.out) hb)
          have n4_ := Aside0.mk (Kd.R_below (by (with_reducible repeat (first | apply Kd.R_alloc | apply Kd.R_drewN | apply Kd.R_drew)); exact HO_910003.out) hb)
          have n5_ := Aside0.mk (Kd.R_below (by (with_reducible repeat (first | apply Kd.R_alloc | apply Kd.R_drewN | apply Kd.R_drew)); exact HO926.out) hb)
          have n6_ := Aside0.mk (blk_below (g := gb883) (o := .cells #[.int .i64 a0_0, .int .i64 a0_1, .int .i64 a0_2, .slice A0_3 l0_3.length c0_3] 65 (0, 0)) (by (with_reducible repeat (first | refine blk_drewN ?_ _ | refine blk_drew ?_ | refine blk_alloc ?_ _)); exact BK883.out) hb)
          have n7_ := Aside0.mk (blk_below (g := gb909) (o := .cells #[.int .i64 t903, .int .i64 t904, .int .i64 t905, .slice Ao44 t906.length co44] 68 (0, 0)) (by (with_reducible repeat (first | refine blk_drewN ?_ _ | refine blk_drew ?_ | refine blk_alloc ?_ _)); exact BK909.out) hb)
          have n8_ := Aside0.mk (below_step (by repeat (first | (with_reducible first | exact HB.out | apply below_alloc | apply pw_below_drewN | apply below_drew1 | refine below_set ?_ GE883.out | refine below_set ?_ GE909.out) | exact HB.out)) hb)
          clear HO_8
          clear HO_11
          clear HO_12
          clear HO_13
          clear HO_910003
          clear HO926
          clear BK883
          clear BK909
          clear HB
          have HO_8 := n0_
          have HO_11 := n1_
          have HO_12 := n2_
          have HO_13 := n3_
          have HO_910003 := n4_
          have HO926 := n5_
          have BK883 := n6_
          have BK909 := n7_
          have HB := n8_
          clear n0_ n1_ n2_ n3_ n4_ n5_ n6_ n7_ n8_
          (try clear hb)
          (try clear hb2)
          (try clear hk)
          (try clear hi)
          refine hK.out _ _ ⟨(blk_cell BK909.out 0).trans rfl, (blk_cell BK909.out 1).trans rfl, (blk_cell BK909.out 2).trans rfl, (blk_cell BK909.out 3).trans rfl, (blk_cell BK883.out 0).trans rfl, (blk_cell BK883.out 1).trans rfl, (blk_cell BK883.out 2).trans rfl, (blk_cell BK883.out 3).trans rfl⟩ (fun hHeld => ?_)
          clear hK K
          refine norm_ (a' := ?_) ?_ ?_
          rotate_left
          ·show Act.put _ (some 70) _ = _
           simp only [Act.put, List.setIfInBounds_toArray, List.set_cons_zero, List.set_cons_succ, i64_w, i32_w]
           rfl
          refine pure_ (i := 4) (N := some 71) (v := ?_) (a' := ?_) #[true, true, true, true, true] rfl rfl (by kernel_rfl) (fun _ _ _ h => h) (Or.inl ⟨by rfl, ?_⟩) ?_ ?_
          rotate_left
          ·intro w'
           go_simp
           with_reducible rfl
          rotate_left
          ·simp only [Act.put, List.setIfInBounds_toArray, List.set_cons_zero, List.set_cons_succ, i64_w, i32_w]
           rfl
          refine done_ (by kernel_rfl) ?_
          try go_wp2_with (first | ((with_reducible refine gate_callee (f := 16) rfl ?_); refine goesL_ (some 74) rfl rfl Try.func16 (by kernel_rfl) rfl #[.slice A1 l1.length c1] rfl (by (try simp only [List.map_toArray, List.map_cons, List.map_nil]); first | done | rfl | (simp only [List.length_drop, List.length_take]; rfl)) ?_; (with_reducible refine (laws_toStringS.calls kj26 _ _ l1 t928 _ ?side1 ?side2 A61.out).mono ?_); (case side1 => repeat (first | exact (Kd.C_below HR1.out HB.out) | (with_reducible refine Kd.C_alloc ?_ _) | (with_reducible refine Kd.C_drewN ?_ _) | (with_reducible refine Kd.C_drew ?_))); (case side2 => exact HC1.out); rintro e w130 ⟨v929, rfl, ho0, hb⟩; refine ⟨_, rfl, ?_⟩; have n0_ := Aside0.mk (Kd.R_below (by (with_reducible repeat (first | apply Kd.R_alloc | apply Kd.R_drewN | apply Kd.R_drew)); exact HO_8.out) hb); have n1_ := Aside0.mk (Kd.R_elder' (by (with_reducible repeat (first | apply Kd.R_alloc | apply Kd.R_drewN | apply Kd.R_drew)); exact HO_11.out) (Kd.R_base ho0) hb); have n2_ := Aside0.mk (Kd.R_elder' (by (with_reducible repeat (first | apply Kd.R_alloc | apply Kd.R_drewN | apply Kd.R_drew)); exact HO_12.out) (Kd.R_base ho0) hb); have n3_ := Aside0.mk (Kd.R_below (by (with_reducible repeat (first | apply Kd.R_alloc | apply Kd.R_drewN | apply Kd.R_drew)); exact HO_13.out) hb); have n4_ := Aside0.mk (Kd.R_below (by (with_reducible repeat (first | apply Kd.R_alloc | apply Kd.R_drewN | apply Kd.R_drew)); exact HO_910003.out) hb); have n5_ := Aside0.mk (Kd.R_below (by (with_reducible repeat (first | apply Kd.R_alloc | apply Kd.R_drewN | apply Kd.R_drew)); exact HO926.out) hb); have n6_ := Aside0.mk (Kd.R_lower (Kd.R_new' (Kd.R_new' ho0 (Kd.R_lt (by (with_reducible repeat (first | apply Kd.R_alloc | apply Kd.R_drewN | apply Kd.R_drew)); exact HO_11.out))) (Kd.R_lt (by (with_reducible repeat (first | apply Kd.R_alloc | apply Kd.R_drewN | apply Kd.R_drew)); exact HO_12.out))) (below_size (by repeat (first | (with_reducible first | exact HB.out | apply below_alloc | apply pw_below_drewN | apply below_drew1 | refine below_set ?_ GE883.out | refine below_set ?_ GE909.out) | exact HB.out)))); have n7_ := Aside0.mk (blk_below (g := gb883) (o := .cells #[.int .i64 a0_0, .int .i64 a0_1, .int .i64 a0_2, .slice A0_3 l0_3.length c0_3] 65 (0, 0)) (by (with_reducible repeat (first | refine blk_drewN ?_ _ | refine blk_drew ?_ | refine blk_alloc ?_ _)); exact BK883.out) hb); have n8_ := Aside0.mk (blk_below (g := gb909) (o := .cells #[.int .i64 t903, .int .i64 t904, .int .i64 t905, .slice Ao44 t906.length co44] 68 (0, 0)) (by (with_reducible repeat (first | refine blk_drewN ?_ _ | refine blk_drew ?_ | refine blk_alloc ?_ _)); exact BK909.out) hb); have n9_ := Aside0.mk (below_step (by repeat (first | (with_reducible first | exact HB.out | apply below_alloc | apply pw_below_drewN | apply below_drew1 | refine below_set ?_ GE883.out | refine below_set ?_ GE909.out) | exact HB.out)) hb); clear HO_8; clear HO_11; clear HO_12; clear HO_13; clear HO_910003; clear HO926; clear BK883; clear BK909; clear HB; have HO_8 := n0_; have HO_11 := n1_; have HO_12 := n2_; have HO_13 := n3_; have HO_910003 := n4_; have HO926 := n5_; have HO930 := n6_; have BK883 := n7_; have BK909 := n8_; have HB := n9_; clear n0_ n1_ n2_ n3_ n4_ n5_ n6_ n7_ n8_ n9_; (try clear hb); (try clear hb2); (try clear hk); (try clear hi); (try clear ho0); obtain ⟨Ao131, co131, eo131⟩ := Kd.R_slice HO930.out; subst eo131) | ((with_reducible refine gate_callee (f := 19) rfl ?_); refine goesL_ (some 75) rfl rfl Try.func19 (by kernel_rfl) rfl #[.slice Ao48 t910.length co48, .slice Ao131 t928.length co131] rfl (by (try simp only [List.map_toArray, List.map_cons, List.map_nil]); first | done | rfl | (simp only [List.length_drop, List.length_take]; rfl)) ?_; (with_reducible refine (laws_eqStringS.calls kj26 _ _ t910 _ _ t928 true _ ?side1 ?side2 ?side3 ?side4 A62.out).mono ?_); (case side1 => repeat (first | exact (Kd.R_reads' HO_11.out).2.2 | (with_reducible refine Kd.C_alloc ?_ _) | (with_reducible refine Kd.C_drewN ?_ _) | (with_reducible refine Kd.C_drew ?_))); (case side2 => exact (Kd.R_reads' HO_11.out).2.1); (case side3 => repeat (first | exact (Kd.R_reads' HO930.out).2.2 | (with_reducible refine Kd.C_alloc ?_ _) | (with_reducible refine Kd.C_drewN ?_ _) | (with_reducible refine Kd.C_drew ?_))); (case side4 => exact (Kd.R_reads' HO930.out).2.1); rintro e w' ⟨rfl, ⟨nd, rfl⟩⟩; refine ⟨_, rfl, ?_⟩) | ((with_reducible refine gate_callee (f := 16) rfl ?_); refine goesL_ (some 79) rfl rfl Try.func16 (by kernel_rfl) rfl #[.slice A2 l2.length c2] rfl (by (try simp only [List.map_toArray, List.map_cons, List.map_nil]); first | done | rfl | (simp only [List.length_drop, List.length_take]; rfl)) ?_; (with_reducible refine (laws_toStringS.calls kj26 _ _ l2 t932 _ ?side1 ?side2 A64.out).mono ?_); (case side1 => repeat (first | exact (Kd.C_below HR2.out (by repeat (first | (with_reducible first | exact HB.out | apply below_alloc | apply pw_below_drewN | apply below_drew1 | refine below_set ?_ GE883.out | refine below_set ?_ GE909.out) | exact HB.out))) | (with_reducible refine Kd.C_alloc ?_ _) | (with_reducible refine Kd.C_drewN ?_ _) | (with_reducible refine Kd.C_drew ?_))); (case side2 => exact HC2.out); rintro e w132 ⟨v933, rfl, ho0, hb⟩; refine ⟨_, rfl, ?_⟩; have n0_ := Aside0.mk (Kd.R_below (by (with_reducible repeat (first | apply Kd.R_alloc | apply Kd.R_drewN | apply Kd.R_drew)); exact HO_8.out) hb); have n1_ := Aside0.mk (Kd.R_elder' (by (with_reducible repeat (first | apply Kd.R_alloc | apply Kd.R_drewN | apply Kd.R_drew)); exact HO_11.out) (Kd.R_base ho0) hb); have n2_ := Aside0.mk (Kd.R_elder' (by (with_reducible repeat (first | apply Kd.R_alloc | apply Kd.R_drewN | apply Kd.R_drew)); exact HO_12.out) (Kd.R_base ho0) hb); have n3_ := Aside0.mk (Kd.R_below (by (with_reducible repeat (first | apply Kd.R_alloc | apply Kd.R_drewN | apply Kd.R_drew)); exact HO_13.out) hb); have n4_ := Aside0.mk (Kd.R_below (by (with_reducible repeat (first | apply Kd.R_alloc | apply Kd.R_drewN | apply Kd.R_drew)); exact HO_910003.out) hb); have n5_ := Aside0.mk (Kd.R_below (by (with_reducible repeat (first | apply Kd.R_alloc | apply Kd.R_drewN | apply Kd.R_drew)); exact HO926.out) hb); have n6_ := Aside0.mk (Kd.R_elder' (by (with_reducible repeat (first | apply Kd.R_alloc | apply Kd.R_drewN | apply Kd.R_drew)); exact HO930.out) (Kd.R_base ho0) hb); have n7_ := Aside0.mk (Kd.R_lower (Kd.R_new' (Kd.R_new' (Kd.R_new' ho0 (Kd.R_lt (by (with_reducible repeat (first | apply Kd.R_alloc | apply Kd.R_drewN | apply Kd.R_drew)); exact HO_11.out))) (Kd.R_lt (by (with_reducible repeat (first | apply Kd.R_alloc | apply Kd.R_drewN | apply Kd.R_drew)); exact HO_12.out))) (Kd.R_lt (by (with_reducible repeat (first | apply Kd.R_alloc | apply Kd.R_drewN | apply Kd.R_drew)); exact HO930.out))) (below_size (by repeat (first | (with_reducible first | exact HB.out | apply below_alloc | apply pw_below_drewN | apply below_drew1 | refine below_set ?_ GE883.out | refine below_set ?_ GE909.out) | exact HB.out)))); have n8_ := Aside0.mk (blk_below (g := gb883) (o := .cells #[.int .i64 a0_0, .int .i64 a0_1, .int .i64 a0_2, .slice A0_3 l0_3.length c0_3] 65 (0, 0)) (by (with_reducible repeat (first | refine blk_drewN ?_ _ | refine blk_drew ?_ | refine blk_alloc ?_ _)); exact BK883.out) hb); have n9_ := Aside0.mk (blk_below (g := gb909) (o := .cells #[.int .i64 t903, .int .i64 t904, .int .i64 t905, .slice Ao44 t906.length co44] 68 (0, 0)) (by (with_reducible repeat (first | refine blk_drewN ?_ _ | refine blk_drew ?_ | refine blk_alloc ?_ _)); exact BK909.out) hb); have n10_ := Aside0.mk (below_step (by repeat (first | (with_reducible first | exact HB.out | apply below_alloc | apply pw_below_drewN | apply below_drew1 | refine below_set ?_ GE883.out | refine below_set ?_ GE909.out) | exact HB.out)) hb); clear HO_8; clear HO_11; clear HO_12; clear HO_13; clear HO_910003; clear HO926; clear HO930; clear BK883; clear BK909; clear HB; have HO_8 := n0_; have HO_11 := n1_; have HO_12 := n2_; have HO_13 := n3_; have HO_910003 := n4_; have HO926 := n5_; have HO930 := n6_; have HO934 := n7_; have BK883 := n8_; have BK909 := n9_; have HB := n10_; clear n0_ n1_ n2_ n3_ n4_ n5_ n6_ n7_ n8_ n9_ n10_; (try clear hb); (try clear hb2); (try clear hk); (try clear hi); (try clear ho0); obtain ⟨Ao133, co133, eo133⟩ := Kd.R_slice HO934.out; subst eo133) | ((with_reducible refine gate_callee (f := 19) rfl ?_); refine goesL_ (some 80) rfl rfl Try.func19 (by kernel_rfl) rfl #[.slice Ao49 t913.length co49, .slice Ao133 t932.length co133] rfl (by (try simp only [List.map_toArray, List.map_cons, List.map_nil]); first | done | rfl | (simp only [List.length_drop, List.length_take]; rfl)) ?_; (with_reducible refine (laws_eqStringS.calls kj26 _ _ t913 _ _ t932 false _ ?side1 ?side2 ?side3 ?side4 A65.out).mono ?_); (case side1 => repeat (first | exact (Kd.R_reads' HO_12.out).2.2 | (with_reducible refine Kd.C_alloc ?_ _) | (with_reducible refine Kd.C_drewN ?_ _) | (with_reducible refine Kd.C_drew ?_))); (case side2 => exact (Kd.R_reads' HO_12.out).2.1); (case side3 => repeat (first | exact (Kd.R_reads' HO934.out).2.2 | (with_reducible refine Kd.C_alloc ?_ _) | (with_reducible refine Kd.C_drewN ?_ _) | (with_reducible refine Kd.C_drew ?_))); (case side4 => exact (Kd.R_reads' HO934.out).2.1); rintro e w' ⟨rfl, ⟨nd, rfl⟩⟩; refine ⟨_, rfl, ?_⟩))
          go_ret
          exact ⟨by first | rfl | (simp [errW_none, errW_some] <;> rfl) | (simp [*, errW_none, errW_some] <;> rfl), by repeat (first | (with_reducible first | exact HB.out | apply below_alloc | apply pw_below_drewN | apply below_drew1 | refine below_set ?_ GE883.out | refine below_set ?_ GE909.out) | exact HB.out)⟩
        ·replace c63 := Bool.eq_false_iff.mpr c63
         subst c63
         have H1 : (some false) = some r := by rw [if_neg (show ¬ (false = true) by decide)] at H; exact H
         clear H
         have H := H1
         clear H1
         obtain rfl := Option.some.inj H
         try go_wp2
         have n0_ := Aside0.mk (Kd.R_drew HO_8.out)
         have n1_ := Aside0.mk (Kd.R_drew HO_11.out)
         have n2_ := Aside0.mk (Kd.R_drew HO_12.out)
         have n3_ := Aside0.mk (Kd.R_drew HO_13.out)
         have n4_ := Aside0.mk (Kd.R_drew HO_910003.out)
         have n5_ := Aside0.mk (blk_drew BK883.out)
         have n6_ := Aside0.mk (blk_drew BK909.out)
         have n7_ := Aside0.mk (below_drew1 HB.out)
         clear HO_8
         clear HO_11
         clear HO_12
         clear HO_13
         clear HO_910003
         clear BK883
         clear BK909
         clear HB
         have HO_8 := n0_
         have HO_11 := n1_
         have HO_12 := n2_
         have HO_13 := n3_
         have HO_910003 := n4_
         have BK883 := n5_
         have BK909 := n6_
         have HB := n7_
         clear n0_ n1_ n2_ n3_ n4_ n5_ n6_ n7_
         refine start_ (n := 5) (S := fun w' => w'.cell? ⟨gb909, 0, none⟩ = some (.int .i64 t903) ∧ w'.cell? ⟨gb909, 1, none⟩ = some (.int .i64 t904) ∧ w'.cell? ⟨gb909, 2, none⟩ = some (.int .i64 t905) ∧ w'.cell? ⟨gb909, 3, none⟩ = some (.slice Ao44 t906.length co44) ∧ w'.cell? ⟨gb883, 0, none⟩ = some (.int .i64 a0_0) ∧ w'.cell? ⟨gb883, 1, none⟩ = some (.int .i64 a0_1) ∧ w'.cell? ⟨gb883, 2, none⟩ = some (.int .i64 a0_2) ∧ w'.cell? ⟨gb883, 3, none⟩ = some (.slice A0_3 l0_3.length c0_3)) (ds := []) #[false, false, false, false, false] (by kernel_rfl) rfl rfl ⟨(blk_cell BK909.out 0).trans rfl, (blk_cell BK909.out 1).trans rfl, (blk_cell BK909.out 2).trans rfl, (blk_cell BK909.out 3).trans rfl, (blk_cell BK883.out 0).trans rfl, (blk_cell BK883.out 1).trans rfl, (blk_cell BK883.out 2).trans rfl, (blk_cell BK883.out 3).trans rfl⟩ (fun hHeld => ?_)
         generalize wc.drew = w134 at HO_8 HO_11 HO_12 HO_13 HO_910003 BK883 BK909 HB hHeld ⊢
         refine take_ (i := 0) (N := some 67) (v := ?_) (a' := ?_) #[true, false, false, false, false] rfl rfl (by kernel_rfl) (fun _ _ _ h => h) (Or.inl ⟨by rfl, ?_⟩) hHeld ?_ ?_
         rotate_left
         ·rintro w' ⟨s0, s1, s2, s3, s4, s5, s6, s7⟩
          go_simp
          with_reducible rfl
         rotate_left
         ·simp only [Act.put, List.setIfInBounds_toArray, List.set_cons_zero, List.set_cons_succ, i64_w, i32_w]
          rfl
         refine take_ (i := 1) (N := some 68) (v := ?_) (a' := ?_) #[true, true, false, false, false] rfl rfl (by kernel_rfl) (fun _ _ _ h => h) (Or.inl ⟨by rfl, ?_⟩) hHeld ?_ ?_
         rotate_left
         ·rintro w' ⟨s0, s1, s2, s3, s4, s5, s6, s7⟩
          go_simp
          with_reducible rfl
         rotate_left
         ·simp only [Act.put, List.setIfInBounds_toArray, List.set_cons_zero, List.set_cons_succ, i64_w, i32_w]
          rfl
         refine one_ (i := 2) (N := some 69) #[true, true, true, false, false] rfl rfl (by kernel_rfl) (by decide) (fun K hK => ?_)
         refine goes_ Try.func45 (by kernel_rfl) rfl #[.agg #[.int .i64 a0_0, .int .i64 a0_1, .int .i64 a0_2, .slice A0_3 l0_3.length c0_3]] (by rfl) rfl rfl (by (try simp only [List.map_toArray, List.map_cons, List.map_nil]); first | done | rfl | (simp only [List.length_drop, List.length_take]; rfl)) ?_
         with_reducible refine (laws_toTable.calls kj26 a0_0 a0_1 a0_2 _ _ l0_3 t921 t922 t923 t924 _ ?side1 ?side2 A58.out).mono ?_
         (case side1 => repeat (first | exact (Kd.C_below HR0_3.out HB.out) | (with_reducible refine Kd.C_alloc ?_ _) | (with_reducible refine Kd.C_drewN ?_ _) | (with_reducible refine Kd.C_drew ?_)))
         (case side2 => exact HC0_3.out)
         rintro e w135 ⟨v925, rfl, ho0, hb⟩
         refine ⟨_, rfl, ?_⟩
         have n0_ := Aside0.mk (Kd.R_elder' (by (with_reducible repeat (first | apply Kd.R_alloc | apply Kd.R_drewN | apply Kd.R_drew)); exact HO_8.out) (Kd.R_base ho0) hb)
         have n1_ := Aside0.mk (Kd.R_below (by (with_reducible repeat (first | apply Kd.R_alloc | apply Kd.R_drewN | apply Kd.R_drew)); exact HO_11.out) hb)
         have n2_ := Aside0.mk (Kd.R_below (by (with_reducible repeat (first | apply Kd.R_alloc | apply Kd.R_drewN | apply Kd.R_drew)); exact HO_12.out) hb)
         have n3_ := Aside0.mk (Kd.R_elder' (by (with_reducible repeat (first | apply Kd.R_alloc | apply Kd.R_drewN | apply Kd.R_drew)); exact HO_13.out) (Kd.R_base ho0) hb)
         have n4_ := Aside0.mk (Kd.R_elder' (by (with_reducible repeat (first | apply Kd.R_alloc | apply Kd.R_drewN | apply Kd.R_drew)); exact HO_910003.out) (Kd.R_base ho0) hb)
         have n5_ := Aside0.mk (Kd.R_lower (Kd.R_new' (Kd.R_new' (Kd.R_new' ho0 (Kd.R_lt (by (with_reducible repeat (first | apply Kd.R_alloc | apply Kd.R_drewN | apply Kd.R_drew)); exact HO_8.out))) (Kd.R_lt (by (with_reducible repeat (first | apply Kd.R_alloc | apply Kd.R_drewN | apply Kd.R_drew)); exact HO_13.out))) (Kd.R_lt (by (with_reducible repeat (first | apply Kd.R_alloc | apply Kd.R_drewN | apply Kd.R_drew)); exact HO_910003.out))) (below_size (by repeat (first | (with_reducible first | exact HB.out | apply below_alloc | apply pw_below_drewN | apply below_drew1 | refine below_set ?_ GE883.out | refine below_set ?_ GE909.out) | exact HB.out))))
         have n6_ := Aside0.mk (blk_below (g := gb883) (o := .cells #[.int .i64 a0_0, .int .i64 a0_1, .int .i64 a0_2, .slice A0_3 l0_3.length c0_3] 65 (0, 0)) (by (with_reducible repeat (first | refine blk_drewN ?_ _ | refine blk_drew ?_ | refine blk_alloc ?_ _)); exact BK883.out) hb)
         have n7_ := Aside0.mk (blk_below (g := gb909) (o := .cells #[.int .i64 t903, .int .i64 t904, .int .i64 t905, .slice Ao44 t906.length co44] 68 (0, 0)) (by (with_reducible repeat (first | refine blk_drewN ?_ _ | refine blk_drew ?_ | refine blk_alloc ?_ _)); exact BK909.out) hb)
         have n8_ := Aside0.mk (below_step (by repeat (first | (with_reducible first | exact HB.out | apply below_alloc | apply pw_below_drewN | apply below_drew1 | refine below_set ?_ GE883.out | refine below_set ?_ GE909.out) | exact HB.out)) hb)
         clear HO_8
         clear HO_11
         clear HO_12
         clear HO_13
         clear HO_910003
         clear BK883
         clear BK909
         clear HB
         have HO_8 := n0_
         have HO_11 := n1_
         have HO_12 := n2_
         have HO_13 := n3_
         have HO_910003 := n4_
         have HO926 := n5_
         have BK883 := n6_
         have BK909 := n7_
         have HB := n8_
         clear n0_ n1_ n2_ n3_ n4_ n5_ n6_ n7_ n8_
         (try clear hb)
         (try clear hb2)
         (try clear hk)
         (try clear hi)
         (try clear ho0)
         obtain ⟨Ao136, co136, eo136⟩ := Kd.R_slice HO926.out
         (first | subst eo136 | (injection eo136 with f1_ f2_ f3_; have f4_ := f1_.symm; have f5_ := f3_.symm; clear f1_ f2_ f3_; subst f4_; subst f5_))
         refine hK.out _ _ ⟨(blk_cell BK909.out 0).trans rfl, (blk_cell BK909.out 1).trans rfl, (blk_cell BK909.out 2).trans rfl, (blk_cell BK909.out 3).trans rfl, (blk_cell BK883.out 0).trans rfl, (blk_cell BK883.out 1).trans rfl, (blk_cell BK883.out 2).trans rfl, (blk_cell BK883.out 3).trans rfl⟩ (fun hHeld => ?_)
         clear hK K
         refine norm_ (a' := ?_) ?_ ?_
         rotate_left
         ·show Act.put _ (some 69) _ = _
          simp only [Act.put, List.setIfInBounds_toArray, List.set_cons_zero, List.set_cons_succ, i64_w, i32_w]
          rfl
         refine one_ (i := 3) (N := some 70) #[true, true, true, true, false] rfl rfl (by kernel_rfl) (by decide) (fun K hK => ?_)
         refine goes_ Try.func47 (by kernel_rfl) rfl #[.agg #[.int .i64 t903, .int .i64 t904, .int .i64 t905, .slice Ao44 t906.length co44], .agg #[.int .i64 t921, .int .i64 t922, .int .i64 t923, .slice Ao136 t924.length co136]] (by rfl) rfl rfl (by (try simp only [List.map_toArray, List.map_cons, List.map_nil]); first | done | rfl | (simp only [List.length_drop, List.length_take]; rfl)) ?_
         with_reducible refine (laws_eqTable.calls kj26 t903 t904 t905 _ _ t906 t921 t922 t923 _ _ t924 true _ ?side1 ?side2 ?side3 ?side4 A59.out).mono ?_
         (case side1 => repeat (first | exact (Kd.R_reads' HO_910003.out).2.2 | (with_reducible refine Kd.C_alloc ?_ _) | (with_reducible refine Kd.C_drewN ?_ _) | (with_reducible refine Kd.C_drew ?_)))
         (case side2 => exact (Kd.R_reads' HO_910003.out).2.1)
         (case side3 => repeat (first | exact (Kd.R_reads' HO926.out).2.2 | (with_reducible refine Kd.C_alloc ?_ _) | (with_reducible refine Kd.C_drewN ?_ _) | (with_reducible refine Kd.C_drew ?_)))
         (case side4 => exact (Kd.R_reads' HO926.out).2.1)
         rintro e w137 ⟨rfl, hb⟩
         refine ⟨_, rfl, ?_⟩
         have n0_ := Aside0.mk (Kd.R_below (by (with_reducible repeat (first | apply Kd.R_alloc | apply Kd.R_drewN | apply Kd.R_drew)); exact HO_8.out) hb)
         have n1_ := Aside0.mk (Kd.R_below (by (with_reducible repeat (first | apply Kd.R_alloc | apply Kd.R_drewN | apply Kd.R_drew)); exact HO_11.out) hb)
         have n2_ := Aside0.mk (Kd.R_below (by (with_reducible repeat (first | apply Kd.R_alloc | apply Kd.R_drewN | apply Kd.R_drew)); exact HO_12.out) hb)
         have n3_ := Aside0.mk (Kd.R_below (by (with_reducible repeat (first | apply Kd.R_alloc | apply Kd.R_drewN | apply Kd.R_drew)); exact HO_13.out) hb)
         have n4_ := Aside0.mk (Kd.R_below (by (with_reducible repeat (first | apply Kd.R_alloc | apply Kd.R_drewN | apply Kd.R_drew)); exact HO_910003.out) hb)
         have n5_ := Aside0.mk (Kd.R_below (by (with_reducible repeat (first | apply Kd.R_alloc | apply Kd.R_drewN | apply Kd.R_drew)); exact HO926.out) hb)
         have n6_ := Aside0.mk (blk_below (g := gb883) (o := .cells #[.int .i64 a0_0, .int .i64 a0_1, .int .i64 a0_2, .slice A0_3 l0_3.length c0_3] 65 (0, 0)) (by (with_reducible repeat (first | refine blk_drewN ?_ _ | refine blk_drew ?_ | refine blk_alloc ?_ _)); exact BK883.out) hb)
         have n7_ := Aside0.mk (blk_below (g := gb909) (o := .cells #[.int .i64 t903, .int .i64 t904, .int .i64 t905, .slice Ao44 t906.length co44] 68 (0, 0)) (by (with_reducible repeat (first | refine blk_drewN ?_ _ | refine blk_drew ?_ | refine blk_alloc ?_ _)); exact BK909.out) hb)
         have n8_ := Aside0.mk (below_step (by repeat (first | (with_reducible first | exact HB.out | apply below_alloc | apply pw_below_drewN | apply below_drew1 | refine below_set ?_ GE883.out | refine below_set ?_ GE909.out) | exact HB.out)) hb)
         clear HO_8
         clear HO_11
         clear HO_12
         clear HO_13
         clear HO_910003
         clear HO926
         clear BK883
         clear BK909
         clear HB
         have HO_8 := n0_
         have HO_11 := n1_
         have HO_12 := n2_
         have HO_13 := n3_
         have HO_910003 := n4_
         have HO926 := n5_
         have BK883 := n6_
         have BK909 := n7_
         have HB := n8_
         clear n0_ n1_ n2_ n3_ n4_ n5_ n6_ n7_ n8_
         (try clear hb)
         (try clear hb2)
         (try clear hk)
         (try clear hi)
         refine hK.out _ _ ⟨(blk_cell BK909.out 0).trans rfl, (blk_cell BK909.out 1).trans rfl, (blk_cell BK909.out 2).trans rfl, (blk_cell BK909.out 3).trans rfl, (blk_cell BK883.out 0).trans rfl, (blk_cell BK883.out 1).trans rfl, (blk_cell BK883.out 2).trans rfl, (blk_cell BK883.out 3).trans rfl⟩ (fun hHeld => ?_)
         clear hK K
         refine norm_ (a' := ?_) ?_ ?_
         rotate_left
         ·show Act.put _ (some 70) _ = _
          simp only [Act.put, List.setIfInBounds_toArray, List.set_cons_zero, List.set_cons_succ, i64_w, i32_w]
          rfl
         refine pure_ (i := 4) (N := some 71) (v := ?_) (a' := ?_) #[true, true, true, true, true] rfl rfl (by kernel_rfl) (fun _ _ _ h => h) (Or.inl ⟨by rfl, ?_⟩) ?_ ?_
         rotate_left
         ·intro w'
          go_simp
          with_reducible rfl
         rotate_left
         ·simp only [Act.put, List.setIfInBounds_toArray, List.set_cons_zero, List.set_cons_succ, i64_w, i32_w]
          rfl
         refine done_ (by kernel_rfl) ?_
         try go_wp2_with (first | ((with_reducible refine gate_callee (f := 16) rfl ?_); refine goesL_ (some 74) rfl rfl Try.func16 (by kernel_rfl) rfl #[.slice A1 l1.length c1] rfl (by (try simp only [List.map_toArray, List.map_cons, List.map_nil]); first | done | rfl | (simp only [List.length_drop, List.length_take]; rfl)) ?_; (with_reducible refine (laws_toStringS.calls kj26 _ _ l1 t928 _ ?side1 ?side2 A61.out).mono ?_); (case side1 => repeat (first | exact (Kd.C_below HR1.out HB.out) | (with_reducible refine Kd.C_alloc ?_ _) | (with_reducible refine Kd.C_drewN ?_ _) | (with_reducible refine Kd.C_drew ?_))); (case side2 => exact HC1.out); rintro e w138 ⟨v929, rfl, ho0, hb⟩; refine ⟨_, rfl, ?_⟩; have n0_ := Aside0.mk (Kd.R_below (by (with_reducible repeat (first | apply Kd.R_alloc | apply Kd.R_drewN | apply Kd.R_drew)); exact HO_8.out) hb); have n1_ := Aside0.mk (Kd.R_elder' (by (with_reducible repeat (first | apply Kd.R_alloc | apply Kd.R_drewN | apply Kd.R_drew)); exact HO_11.out) (Kd.R_base ho0) hb); have n2_ := Aside0.mk (Kd.R_elder' (by (with_reducible repeat (first | apply Kd.R_alloc | apply Kd.R_drewN | apply Kd.R_drew)); exact HO_12.out) (Kd.R_base ho0) hb); have n3_ := Aside0.mk (Kd.R_below (by (with_reducible repeat (first | apply Kd.R_alloc | apply Kd.R_drewN | apply Kd.R_drew)); exact HO_13.out) hb); have n4_ := Aside0.mk (Kd.R_below (by (with_reducible repeat (first | apply Kd.R_alloc | apply Kd.R_drewN | apply Kd.R_drew)); exact HO_910003.out) hb); have n5_ := Aside0.mk (Kd.R_below (by (with_reducible repeat (first | apply Kd.R_alloc | apply Kd.R_drewN | apply Kd.R_drew)); exact HO926.out) hb); have n6_ := Aside0.mk (Kd.R_lower (Kd.R_new' (Kd.R_new' ho0 (Kd.R_lt (by (with_reducible repeat (first | apply Kd.R_alloc | apply Kd.R_drewN | apply Kd.R_drew)); exact HO_11.out))) (Kd.R_lt (by (with_reducible repeat (first | apply Kd.R_alloc | apply Kd.R_drewN | apply Kd.R_drew)); exact HO_12.out))) (below_size (by repeat (first | (with_reducible first | exact HB.out | apply below_alloc | apply pw_below_drewN | apply below_drew1 | refine below_set ?_ GE883.out | refine below_set ?_ GE909.out) | exact HB.out)))); have n7_ := Aside0.mk (blk_below (g := gb883) (o := .cells #[.int .i64 a0_0, .int .i64 a0_1, .int .i64 a0_2, .slice A0_3 l0_3.length c0_3] 65 (0, 0)) (by (with_reducible repeat (first | refine blk_drewN ?_ _ | refine blk_drew ?_ | refine blk_alloc ?_ _)); exact BK883.out) hb); have n8_ := Aside0.mk (blk_below (g := gb909) (o := .cells #[.int .i64 t903, .int .i64 t904, .int .i64 t905, .slice Ao44 t906.length co44] 68 (0, 0)) (by (with_reducible repeat (first | refine blk_drewN ?_ _ | refine blk_drew ?_ | refine blk_alloc ?_ _)); exact BK909.out) hb); have n9_ := Aside0.mk (below_step (by repeat (first | (with_reducible first | exact HB.out | apply below_alloc | apply pw_below_drewN | apply below_drew1 | refine below_set ?_ GE883.out | refine below_set ?_ GE909.out) | exact HB.out)) hb); clear HO_8; clear HO_11; clear HO_12; clear HO_13; clear HO_910003; clear HO926; clear BK883; clear BK909; clear HB; have HO_8 := n0_; have HO_11 := n1_; have HO_12 := n2_; have HO_13 := n3_; have HO_910003 := n4_; have HO926 := n5_; have HO930 := n6_; have BK883 := n7_; have BK909 := n8_; have HB := n9_; clear n0_ n1_ n2_ n3_ n4_ n5_ n6_ n7_ n8_ n9_; (try clear hb); (try clear hb2); (try clear hk); (try clear hi); (try clear ho0); obtain ⟨Ao139, co139, eo139⟩ := Kd.R_slice HO930.out; subst eo139) | ((with_reducible refine gate_callee (f := 19) rfl ?_); refine goesL_ (some 75) rfl rfl Try.func19 (by kernel_rfl) rfl #[.slice Ao48 t910.length co48, .slice Ao139 t928.length co139] rfl (by (try simp only [List.map_toArray, List.map_cons, List.map_nil]); first | done | rfl | (simp only [List.length_drop, List.length_take]; rfl)) ?_; (with_reducible refine (laws_eqStringS.calls kj26 _ _ t910 _ _ t928 false _ ?side1 ?side2 ?side3 ?side4 A62.out).mono ?_); (case side1 => repeat (first | exact (Kd.R_reads' HO_11.out).2.2 | (with_reducible refine Kd.C_alloc ?_ _) | (with_reducible refine Kd.C_drewN ?_ _) | (with_reducible refine Kd.C_drew ?_))); (case side2 => exact (Kd.R_reads' HO_11.out).2.1); (case side3 => repeat (first | exact (Kd.R_reads' HO930.out).2.2 | (with_reducible refine Kd.C_alloc ?_ _) | (with_reducible refine Kd.C_drewN ?_ _) | (with_reducible refine Kd.C_drew ?_))); (case side4 => exact (Kd.R_reads' HO930.out).2.1); rintro e w' ⟨rfl, ⟨nd, rfl⟩⟩; refine ⟨_, rfl, ?_⟩))
         go_ret
         exact ⟨by first | rfl | (simp [errW_none, errW_some] <;> rfl) | (simp [*, errW_none, errW_some] <;> rfl), by repeat (first | (with_reducible first | exact HB.out | apply below_alloc | apply pw_below_drewN | apply below_drew1 | refine below_set ?_ GE883.out | refine below_set ?_ GE909.out) | exact HB.out)⟩
       ·replace c60 := Bool.eq_false_iff.mpr c60
        subst c60
        have H1 : (some false) = some r := by rw [if_neg (show ¬ (false = true) by decide)] at H; exact H
        clear H
        have H := H1
        clear H1
        obtain rfl := Option.some.inj H
        try go_wp2
        have n0_ := Aside0.mk (Kd.R_drew HO_8.out)
        have n1_ := Aside0.mk (Kd.R_drew HO_11.out)
        have n2_ := Aside0.mk (Kd.R_drew HO_12.out)
        have n3_ := Aside0.mk (Kd.R_drew HO_13.out)
        have n4_ := Aside0.mk (Kd.R_drew HO_910003.out)
        have n5_ := Aside0.mk (blk_drew BK883.out)
        have n6_ := Aside0.mk (blk_drew BK909.out)
        have n7_ := Aside0.mk (below_drew1 HB.out)
        clear HO_8
        clear HO_11
        clear HO_12
        clear HO_13
        clear HO_910003
        clear BK883
        clear BK909
        clear HB
        have HO_8 := n0_
        have HO_11 := n1_
        have HO_12 := n2_
        have HO_13 := n3_
        have HO_910003 := n4_
        have BK883 := n5_
        have BK909 := n6_
        have HB := n7_
        clear n0_ n1_ n2_ n3_ n4_ n5_ n6_ n7_
        refine start_ (n := 5) (S := fun w' => w'.cell? ⟨gb909, 0, none⟩ = some (.int .i64 t903) ∧ w'.cell? ⟨gb909, 1, none⟩ = some (.int .i64 t904) ∧ w'.cell? ⟨gb909, 2, none⟩ = some (.int .i64 t905) ∧ w'.cell? ⟨gb909, 3, none⟩ = some (.slice Ao44 t906.length co44) ∧ w'.cell? ⟨gb883, 0, none⟩ = some (.int .i64 a0_0) ∧ w'.cell? ⟨gb883, 1, none⟩ = some (.int .i64 a0_1) ∧ w'.cell? ⟨gb883, 2, none⟩ = some (.int .i64 a0_2) ∧ w'.cell? ⟨gb883, 3, none⟩ = some (.slice A0_3 l0_3.length c0_3)) (ds := []) #[false, false, false, false, false] (by kernel_rfl) rfl rfl ⟨(blk_cell BK909.out 0).trans rfl, (blk_cell BK909.out 1).trans rfl, (blk_cell BK909.out 2).trans rfl, (blk_cell BK909.out 3).trans rfl, (blk_cell BK883.out 0).trans rfl, (blk_cell BK883.out 1).trans rfl, (blk_cell BK883.out 2).trans rfl, (blk_cell BK883.out 3).trans rfl⟩ (fun hHeld => ?_)
        generalize wc.drew = w140 at HO_8 HO_11 HO_12 HO_13 HO_910003 BK883 BK909 HB hHeld ⊢
        refine take_ (i := 0) (N := some 67) (v := ?_) (a' := ?_) #[true, false, false, false, false] rfl rfl (by kernel_rfl) (fun _ _ _ h => h) (Or.inl ⟨by rfl, ?_⟩) hHeld ?_ ?_
        rotate_left
        ·rintro w' ⟨s0, s1, s2, s3, s4, s5, s6, s7⟩
         go_simp
         with_reducible rfl
        rotate_left
        ·simp only [Act.put, List.setIfInBounds_toArray, List.set_cons_zero, List.set_cons_succ, i64_w, i32_w]
         rfl
        refine take_ (i := 1) (N := some 68) (v := ?_) (a' := ?_) #[true, true, false, false, false] rfl rfl (by kernel_rfl) (fun _ _ _ h => h) (Or.inl ⟨by rfl, ?_⟩) hHeld ?_ ?_
        rotate_left
        ·rintro w' ⟨s0, s1, s2, s3, s4, s5, s6, s7⟩
         go_simp
         with_reducible rfl
        rotate_left
        ·simp only [Act.put, List.setIfInBounds_toArray, List.set_cons_zero, List.set_cons_succ, i64_w, i32_w]
         rfl
        refine one_ (i := 2) (N := some 69) #[true, true, true, false, false] rfl rfl (by kernel_rfl) (by decide) (fun K hK => ?_)
        refine goes_ Try.func45 (by kernel_rfl) rfl #[.agg #[.int .i64 a0_0, .int .i64 a0_1, .int .i64 a0_2, .slice A0_3 l0_3.length c0_3]] (by rfl) rfl rfl (by (try simp only [List.map_toArray, List.map_cons, List.map_nil]); first | done | rfl | (simp only [List.length_drop, List.length_take]; rfl)) ?_
        with_reducible refine (laws_toTable.calls kj26 a0_0 a0_1 a0_2 _ _ l0_3 t921 t922 t923 t924 _ ?side1 ?side2 A58.out).mono ?_
        (case side1 => repeat (first | exact (Kd.C_below HR0_3.out HB.out) | (with_reducible refine Kd.C_alloc ?_ _) | (with_reducible refine Kd.C_drewN ?_ _) | (with_reducible refine Kd.C_drew ?_)))
        (case side2 => exact HC0_3.out)
        rintro e w141 ⟨v925, rfl, ho0, hb⟩
        refine ⟨_, rfl, ?_⟩
        have n0_ := Aside0.mk (Kd.R_elder' (by (with_reducible repeat (first | apply Kd.R_alloc | apply Kd.R_drewN | apply Kd.R_drew)); exact HO_8.out) (Kd.R_base ho0) hb)
        have n1_ := Aside0.mk (Kd.R_below (by (with_reducible repeat (first | apply Kd.R_alloc | apply Kd.R_drewN | apply Kd.R_drew)); exact HO_11.out) hb)
        have n2_ := Aside0.mk (Kd.R_below (by (with_reducible repeat (first | apply Kd.R_alloc | apply Kd.R_drewN | apply Kd.R_drew)); exact HO_12.out) hb)
        have n3_ := Aside0.mk (Kd.R_elder' (by (with_reducible repeat (first | apply Kd.R_alloc | apply Kd.R_drewN | apply Kd.R_drew)); exact HO_13.out) (Kd.R_base ho0) hb)
        have n4_ := Aside0.mk (Kd.R_elder' (by (with_reducible repeat (first | apply Kd.R_alloc | apply Kd.R_drewN | apply Kd.R_drew)); exact HO_910003.out) (Kd.R_base ho0) hb)
        have n5_ := Aside0.mk (Kd.R_lower (Kd.R_new' (Kd.R_new' (Kd.R_new' ho0 (Kd.R_lt (by (with_reducible repeat (first | apply Kd.R_alloc | apply Kd.R_drewN | apply Kd.R_drew)); exact HO_8.out))) (Kd.R_lt (by (with_reducible repeat (first | apply Kd.R_alloc | apply Kd.R_drewN | apply Kd.R_drew)); exact HO_13.out))) (Kd.R_lt (by (with_reducible repeat (first | apply Kd.R_alloc | apply Kd.R_drewN | apply Kd.R_drew)); exact HO_910003.out))) (below_size (by repeat (first | (with_reducible first | exact HB.out | apply below_alloc | apply pw_below_drewN | apply below_drew1 | refine below_set ?_ GE883.out | refine below_set ?_ GE909.out) | exact HB.out))))
        have n6_ := Aside0.mk (blk_below (g := gb883) (o := .cells #[.int .i64 a0_0, .int .i64 a0_1, .int .i64 a0_2, .slice A0_3 l0_3.length c0_3] 65 (0, 0)) (by (with_reducible repeat (first | refine blk_drewN ?_ _ | refine blk_drew ?_ | refine blk_alloc ?_ _)); exact BK883.out) hb)
        have n7_ := Aside0.mk (blk_below (g := gb909) (o := .cells #[.int .i64 t903, .int .i64 t904, .int .i64 t905, .slice Ao44 t906.length co44] 68 (0, 0)) (by (with_reducible repeat (first | refine blk_drewN ?_ _ | refine blk_drew ?_ | refine blk_alloc ?_ _)); exact BK909.out) hb)
        have n8_ := Aside0.mk (below_step (by repeat (first | (with_reducible first | exact HB.out | apply below_alloc | apply pw_below_drewN | apply below_drew1 | refine below_set ?_ GE883.out | refine below_set ?_ GE909.out) | exact HB.out)) hb)
        clear HO_8
        clear HO_11
        clear HO_12
        clear HO_13
        clear HO_910003
        clear BK883
        clear BK909
        clear HB
        have HO_8 := n0_
        have HO_11 := n1_
        have HO_12 := n2_
        have HO_13 := n3_
        have HO_910003 := n4_
        have HO926 := n5_
        have BK883 := n6_
        have BK909 := n7_
        have HB := n8_
        clear n0_ n1_ n2_ n3_ n4_ n5_ n6_ n7_ n8_
        (try clear hb)
        (try clear hb2)
        (try clear hk)
        (try clear hi)
        (try clear ho0)
        obtain ⟨Ao142, co142, eo142⟩ := Kd.R_slice HO926.out
        (first | subst eo142 | (injection eo142 with f1_ f2_ f3_; have f4_ := f1_.symm; have f5_ := f3_.symm; clear f1_ f2_ f3_; subst f4_; subst f5_))
        refine hK.out _ _ ⟨(blk_cell BK909.out 0).trans rfl, (blk_cell BK909.out 1).trans rfl, (blk_cell BK909.out 2).trans rfl, (blk_cell BK909.out 3).trans rfl, (blk_cell BK883.out 0).trans rfl, (blk_cell BK883.out 1).trans rfl, (blk_cell BK883.out 2).trans rfl, (blk_cell BK883.out 3).trans rfl⟩ (fun hHeld => ?_)
        clear hK K
        refine norm_ (a' := ?_) ?_ ?_
        rotate_left
        ·show Act.put _ (some 69) _ = _
         simp only [Act.put, List.setIfInBounds_toArray, List.set_cons_zero, List.set_cons_succ, i64_w, i32_w]
         rfl
        refine one_ (i := 3) (N := some 70) #[true, true, true, true, false] rfl rfl (by kernel_rfl) (by decide) (fun K hK => ?_)
        refine goes_ Try.func47 (by kernel_rfl) rfl #[.agg #[.int .i64 t903, .int .i64 t904, .int .i64 t905, .slice Ao44 t906.length co44], .agg #[.int .i64 t921, .int .i64 t922, .int .i64 t923, .slice Ao142 t924.length co142]] (by rfl) rfl rfl (by (try simp only [List.map_toArray, List.map_cons, List.map_nil]); first | done | rfl | (simp only [List.length_drop, List.length_take]; rfl)) ?_
        with_reducible refine (laws_eqTable.calls kj26 t903 t904 t905 _ _ t906 t921 t922 t923 _ _ t924 false _ ?side1 ?side2 ?side3 ?side4 A59.out).mono ?_
        (case side1 => repeat (first | exact (Kd.R_reads' HO_910003.out).2.2 | (with_reducible refine Kd.C_alloc ?_ _) | (with_reducible refine Kd.C_drewN ?_ _) | (with_reducible refine Kd.C_drew ?_)))
        (case side2 => exact (Kd.R_reads' HO_910003.out).2.1)
        (case side3 => repeat (first | exact (Kd.R_reads' HO926.out).2.2 | (with_reducible refine Kd.C_alloc ?_ _) | (with_reducible refine Kd.C_drewN ?_ _) | (with_reducible refine Kd.C_drew ?_)))
        (case side4 => exact (Kd.R_reads' HO926.out).2.1)
        rintro e w143 ⟨rfl, hb⟩
        refine ⟨_, rfl, ?_⟩
        have n0_ := Aside0.mk (Kd.R_below (by (with_reducible repeat (first | apply Kd.R_alloc | apply Kd.R_drewN | apply Kd.R_drew)); exact HO_8.out) hb)
        have n1_ := Aside0.mk (Kd.R_below (by (with_reducible repeat (first | apply Kd.R_alloc | apply Kd.R_drewN | apply Kd.R_drew)); exact HO_11.out) hb)
        have n2_ := Aside0.mk (Kd.R_below (by (with_reducible repeat (first | apply Kd.R_alloc | apply Kd.R_drewN | apply Kd.R_drew)); exact HO_12.out) hb)
        have n3_ := Aside0.mk (Kd.R_below (by (with_reducible repeat (first | apply Kd.R_alloc | apply Kd.R_drewN | apply Kd.R_drew)); exact HO_13.out) hb)
        have n4_ := Aside0.mk (Kd.R_below (by (with_reducible repeat (first | apply Kd.R_alloc | apply Kd.R_drewN | apply Kd.R_drew)); exact HO_910003.out) hb)
        have n5_ := Aside0.mk (Kd.R_below (by (with_reducible repeat (first | apply Kd.R_alloc | apply Kd.R_drewN | apply Kd.R_drew)); exact HO926.out) hb)
        have n6_ := Aside0.mk (blk_below (g := gb883) (o := .cells #[.int .i64 a0_0, .int .i64 a0_1, .int .i64 a0_2, .slice A0_3 l0_3.length c0_3] 65 (0, 0)) (by (with_reducible repeat (first | refine blk_drewN ?_ _ | refine blk_drew ?_ | refine blk_alloc ?_ _)); exact BK883.out) hb)
        have n7_ := Aside0.mk (blk_below (g := gb909) (o := .cells #[.int .i64 t903, .int .i64 t904, .int .i64 t905, .slice Ao44 t906.length co44] 68 (0, 0)) (by (with_reducible repeat (first | refine blk_drewN ?_ _ | refine blk_drew ?_ | refine blk_alloc ?_ _)); exact BK909.out) hb)
        have n8_ := Aside0.mk (below_step (by repeat (first | (with_reducible first | exact HB.out | apply below_alloc | apply pw_below_drewN | apply below_drew1 | refine below_set ?_ GE883.out | refine below_set ?_ GE909.out) | exact HB.out)) hb)
        clear HO_8
        clear HO_11
        clear HO_12
        clear HO_13
        clear HO_910003
        clear HO926
        clear BK883
        clear BK909
        clear HB
        have HO_8 := n0_
        have HO_11 := n1_
        have HO_12 := n2_
        have HO_13 := n3_
        have HO_910003 := n4_
        have HO926 := n5_
        have BK883 := n6_
        have BK909 := n7_
        have HB := n8_
        clear n0_ n1_ n2_ n3_ n4_ n5_ n6_ n7_ n8_
        (try clear hb)
        (try clear hb2)
        (try clear hk)
        (try clear hi)
        refine hK.out _ _ ⟨(blk_cell BK909.out 0).trans rfl, (blk_cell BK909.out 1).trans rfl, (blk_cell BK909.out 2).trans rfl, (blk_cell BK909.out 3).trans rfl, (blk_cell BK883.out 0).trans rfl, (blk_cell BK883.out 1).trans rfl, (blk_cell BK883.out 2).trans rfl, (blk_cell BK883.out 3).trans rfl⟩ (fun hHeld => ?_)
        clear hK K
        refine norm_ (a' := ?_) ?_ ?_
        rotate_left
        ·show Act.put _ (some 70) _ = _
         simp only [Act.put, List.setIfInBounds_toArray, List.set_cons_zero, List.set_cons_succ, i64_w, i32_w]
         rfl
        refine pure_ (i := 4) (N := some 71) (v := ?_) (a' := ?_) #[true, true, true, true, true] rfl rfl (by kernel_rfl) (fun _ _ _ h => h) (Or.inl ⟨by rfl, ?_⟩) ?_ ?_
        rotate_left
        ·intro w'
         go_simp
         with_reducible rfl
        rotate_left
        ·simp only [Act.put, List.setIfInBounds_toArray, List.set_cons_zero, List.set_cons_succ, i64_w, i32_w]
         rfl
        refine done_ (by kernel_rfl) ?_
        try go_wp2
        go_ret
        exact ⟨by first | rfl | (simp [errW_none, errW_some] <;> rfl) | (simp [*, errW_none, errW_some] <;> rfl), by repeat (first | (with_reducible first | exact HB.out | apply below_alloc | apply pw_below_drewN | apply below_drew1 | refine below_set ?_ GE883.out | refine below_set ?_ GE909.out) | exact HB.out)⟩

/-- The one pure statement of laws_FnExactPrintFalse. -/
def laws_FnExactPrintFalse.Pure : Prop := ∀ (a0_0 : Int) (a0_1 : Int) (a0_2 : Int) (l0_3 : List Int) (l1 : List ByteArray) (l2 : List ByteArray), (Lit.int .i64 a0_0).wf = true → (Lit.int .i64 a0_1).wf = true → (Lit.int .i64 a0_2).wf = true → l0_3.length ≤ maxLen → (∀ x ∈ l0_3, (Lit.int .i64 x).wf = true) → l1.length ≤ maxLen → (∀ x ∈ l1, x.size ≤ maxLen) → l2.length ≤ maxLen → (∀ x ∈ l2, x.size ≤ maxLen) → ∃ k, laws_FnExactPrintFalse.f k a0_0 a0_1 a0_2 l0_3 l1 l2 = some true
theorem laws_FnExactPrintFalse.walk (P : laws_FnExactPrintFalse.Pure) (a0_0 : Int) (a0_1 : Int) (a0_2 : Int) (A0_3 : Option Addr) (c0_3 : Nat) (l0_3 : List Int) (A1 : Option Addr) (c1 : Nat) (l1 : List ByteArray) (A2 : Option Addr) (c2 : Nat) (l2 : List ByteArray) (w : World) (hw0_0 : (Lit.int .i64 a0_0).wf = true) (hw0_1 : (Lit.int .i64 a0_1).wf = true) (hw0_2 : (Lit.int .i64 a0_2).wf = true) (hr0_3 : Kd.C (Kd.int .i64) w A0_3 l0_3.length l0_3) (hc0_3 : l0_3.length ≤ c0_3) (hm0_3 : l0_3.length ≤ maxLen) (hw0_3 : ∀ x ∈ l0_3, (Lit.int .i64 x).wf = true) (hr1 : Kd.C Kd.string w A1 l1.length l1) (hc1 : l1.length ≤ c1) (hm1 : l1.length ≤ maxLen) (hw1 : ∀ x ∈ l1, x.size ≤ maxLen) (hr2 : Kd.C Kd.string w A2 l2.length l2) (hc2 : l2.length ≤ c2) (hm2 : l2.length ≤ maxLen) (hw2 : ∀ x ∈ l2, x.size ≤ maxLen) :
  Calls Try.prog 9 #[.agg #[.int .i64 a0_0, .int .i64 a0_1, .int .i64 a0_2, .slice A0_3 l0_3.length c0_3], .slice A1 l1.length c1, .slice A2 l2.length c2] w fun e w' => e = .returned (.bool true) ∧ Below w.heap.size w w' := by
 obtain ⟨k, h⟩ := P a0_0 a0_1 a0_2 l0_3 l1 l2 hw0_0 hw0_1 hw0_2 hm0_3 hw0_3 hm1 hw1 hm2 hw2
 refine (laws_FnExactPrintFalse.calls k a0_0 a0_1 a0_2 A0_3 c0_3 l0_3 A1 c1 l1 A2 c2 l2 true w hr0_3 hc0_3 hr1 hc1 hr2 hc2 h).mono ?_
 rintro e w' ⟨rfl, hd⟩
 exact ⟨rfl, hd⟩

end Go.Proofs.Ytpkpjikkfikejaa.PA
