import Derived.Test.YtpfignfgfhbblaaGreatDoorMt13
import Derived.Test.YtpfignfgfhbblaaGreatDoorRows
import Derived.ProofKit
import Derived.Lib.SmallJoins
import Derived.Deep.Slices
import Derived.Test.YtpfignfgfhbblaaGreatDoorTie
import Derived.Test.YtpfignfgfhbblaaGreatDoorCards
import Derived.Test.YtpfignfgfhbblaaGreatDoorMt14
import Derived.SevenTiedAt
import Derived.LaidMore
import Derived.OpenShut
import Derived.Stop.Joined
import Derived.Lay
import Derived.MakeChecks
/- DatumTexts: whatever the input, the law answers true and leaves its arguments as they were. -/
namespace Go.Proofs.YtpfignfgfhbblaaGreatDoor.datumTexts
open Go.ChangeShapes Go.WideShapes Go.ChangeAt Go.RowKit Go.Joins
open Go.ChangeMaps (open_string shut_string)
set_option linter.unusedVariables false
theorem own : ownKnob Tryz.prog.godebug = none := by kernel_rfl
set_option maxRecDepth 100000 in
theorem lifted (os : Os) (started : os.Started) (H : Type) (enc : TypeId × Value → H) :
    ReturnsInHanded {} Tryz.checked os 3 .any (fun w args => (Rows.datumTextsSpec.pre enc Tryz.prog Tryz.f3 [] false w args ∧ laidMetH Tryz.prog YtpfignfgfhbblaaGreatDoorC.laid3 w) ∧ sizedMet enc Tryz.prog Tryz.f3 (OpenSpec.ofChange Rows.datumTextsSpec) false w args) (Rows.datumTextsSpec.post enc Tryz.prog Tryz.f3 false true false false) := by
  refine YtpfignfgfhbblaaGreatDoorC.handed_shaped (C := Tryz.checked) (X := fun w _ => laidMetH Tryz.prog YtpfignfgfhbblaaGreatDoorC.laid3 w) (fun _ _ _ hh h => h.of_heap hh) own started (by kernel_rfl) Tryz.func3
    (ChangeSpec.witness_shaped (enc := enc) (C := Tryz.checked) (os := os) (X := fun w _ => laidMetH Tryz.prog YtpfignfgfhbblaaGreatDoorC.laid3 w) false (World.laidAll Tryz.prog os YtpfignfgfhbblaaGreatDoorC.laid3) #[.agg #[.int .i64 0, .int .i64 0, .int .i64 0, .string ByteArray.empty], .string ByteArray.empty] 8 (World.laidAll_os _ _ _) (World.shaped_of_ZipB (by kernel_rfl) (by kernel_rfl)) (by kernel_rfl) (by kernel_rfl) (by kernel_rfl) (by rw [MakeChecks.laidMetH_plain _ _ _ (by kernel_rfl)]; exact laidMet_laidAll _ (by kernel_rfl) (by kernel_rfl))) ?_
  intro W base args ds gs before hval0 hW hcnd hsz0 hL hsh _
  have hsz : (DataW.weightsEach Tryz.prog (Tryz.f3.params.toList ++ Rows.datumTextsSpec.plain.varTypes Tryz.prog) (ds ++ gs)).all (· ≤ reachBytes) = true := hsz0
  have hval : ∀ (j : Nat) t v, Tryz.f3.params[j]? = some t → args[j]? = some v → Value.okWide Tryz.prog W .any base t v := hval0
  have hW' := hW
  obtain ⟨p, q, hA0, hV, rfl, hfz, hnd⟩ := hW
  have hA : DataW.TrodAll enc Tryz.prog W 0 (fun _ => true) true Tryz.f3.params.toList args.toList ds p := hA0
  rw [Tryz.params3] at hA hval hsz
  obtain ⟨v0, vs0, d0, ds0, p0, q0, hargs, rfl, rfl, h0, r0⟩ := trodAll_cons hA
  obtain ⟨v1, vs1, d1, ds1, p1, q1, rfl, rfl, rfl, h1, r1⟩ := trodAll_cons r0
  obtain ⟨rfl, rfl, rfl⟩ := trodAll_nil r1
  obtain rfl : args = #[v0, v1] := by cases args; simp_all
  obtain ⟨rfl, rfl⟩ := trodVars_none hV
  obtain ⟨f0_0, f0_1, f0_2, f0_3, y0_0, y0_1, y0_2, y0_3, n0, rfl, rfl, rfl, t0_0, t0_1, t0_2, t0_3⟩ := open_agg4 Tryz.underlying23 (by kernel_rfl) (by kernel_rfl) (hval 0 23 v0 rfl rfl) h0
  obtain ⟨a0_0, e0_0, rfl, w0_0⟩ := DataW.trod_int Tryz.underlying3 t0_0
  obtain rfl : f0_0 = _ := by simpa using e0_0
  obtain ⟨a0_1, e0_1, rfl, w0_1⟩ := DataW.trod_int Tryz.underlying3 t0_1
  obtain rfl : f0_1 = _ := by simpa using e0_1
  obtain ⟨a0_2, e0_2, rfl, w0_2⟩ := DataW.trod_int Tryz.underlying3 t0_2
  obtain rfl : f0_2 = _ := by simpa using e0_2
  obtain ⟨a0_3, e0_3, rfl, w0_3⟩ := DataW.trod_string Tryz.underlying9 t0_3
  obtain rfl : f0_3 = _ := by simpa using e0_3
  have z0_3 : a0_3.size ≤ 140737488351232 := by
    have z := YtpfignfgfhbblaaGreatDoorC.sized_part hsz (j := 0) (t := 23) rfl rfl Tryz.underlying23 (i := 3) rfl rfl
    rw [Array.length_toList] at z
    exact z
  obtain ⟨a1, rfl, rfl, rfl, y1⟩ := open_string Tryz.underlying9 (hval 1 9 v1 rfl rfl) h1
  have w1 : a1.size ≤ 140737488351232 := by
    have z := sized_string hsz (j := 1) (t := 9) rfl rfl
    rw [Array.length_toList] at z
    exact z
  clear hA0 hval0 hsz0 hsz
  refine (YtpfignfgfhbblaaGreatDoorC.texts_true a0_0 a0_1 a0_2 a0_3 a1 w0_0 w0_1 w0_2 z0_3 w1 W (YtpfignfgfhbblaaGreatDoorC.glob_in hL hsh)).mono fun e W' ⟨he, bel⟩ => ?_
  subst he
  exact ⟨_, rfl, _, _, _, [], _, [], hW', trodAll_mk1 (shut_bool Tryz.underlying4 _), (trodAll_cons_mk (shut_agg4 Tryz.underlying23 (by kernel_rfl) (by kernel_rfl) (shut_int Tryz.underlying3 w0_0) (shut_int Tryz.underlying3 w0_1) (shut_int Tryz.underlying3 w0_2) (Go.Deep.shut_string_cell Tryz.underlying9 w0_3)) (trodAll_cons_mk (shut_string Tryz.underlying9 y1) trodAll_mk0)), rfl, bel.frame _, fun h => by cases h⟩
set_option maxRecDepth 100000 in
theorem fInPlace : (Rows.datumTextsRow.inPlace == Tryz.prog.inPlace 3) = true := by kernel_rfl
set_option maxRecDepth 100000 in
theorem fUnf : (Rows.datumTextsRow.unfollowed == Tryz.prog.unfollowed 3) = true := by kernel_rfl
set_option maxRecDepth 100000 in
theorem fRec : (Rows.datumTextsRow.recurses == Tryz.prog.recurses 3) = true := by kernel_rfl
set_option maxRecDepth 100000 in
theorem fNamed : (Rows.datumTextsRow.named == Tryz.prog.varsNamed 3) = true := by kernel_rfl
set_option maxRecDepth 100000 in
theorem fName : Tryz.prog.funcNamed "longstop/longstoplaw04.DatumTexts" = some 3 := by kernel_rfl
set_option maxRecDepth 100000 in
theorem fGoes : false = Rows.datumTextsRow.goesBy Tryz.prog := by kernel_rfl
theorem fWrap : Tryz.f3.isWrapper Tryz.pinned.checked.prog Rows.datumTextsRow.wrapper Rows.datumTextsRow.mainSum := by unfold Func.isWrapper; first | (rw [if_pos (by decide +kernel)]; kernel_rfl) | (rw [if_neg (by decide +kernel)]; exact ⟨rfl, rfl⟩)
open Go.Proofs.YtpfignfgfhbblaaGreatDoorJ in
set_option maxRecDepth 100000 in
theorem closed : joinedFacts Tryz.prog 3 Tryz.f3 Rows.datumTextsSpec Rows.datumTextsRow = true := by
  unfold joinedFacts
  exact (bt (bt (bt (bt (bt (bt (bt (bt (bt (bt (bt (bt (bt (bt (bt (bt (bt (bt (bt (bt (bt (bt (bt (bt (bt (bt (bt (bt (bt (bt (bt (by kernel_rfl) pLaid) pMaps) (by kernel_rfl)) (by kernel_rfl)) (by kernel_rfl)) pStops) (by kernel_rfl)) pKnobs) fInPlace) fUnf) fRec) fNamed) (by kernel_rfl)) (by kernel_rfl)) (by kernel_rfl)) (by kernel_rfl)) (by kernel_rfl)) (by kernel_rfl)) (by kernel_rfl)) (by kernel_rfl)) (by kernel_rfl)) pKeys) (by kernel_rfl)) pHeard) pMay) pLifts) pMake) (by kernel_rfl)) (by kernel_rfl)) (by kernel_rfl)) (by kernel_rfl))
theorem over : Rows.datumTextsRow.holds Tryz.pinned (OpenSpec.ofChange Rows.datumTextsSpec) :=
  OpenClaim.holds_of_wide 3 Tryz.f3 rfl rfl rfl rfl rfl rfl rfl ⟨rfl, rfl, rfl, rfl, rfl⟩ rfl rfl rfl rfl rfl fName Tryz.func3 closed
    (of_decide_eq_true (by kernel_rfl)) fWrap
    (fun os started H enc _ => lifted os started H enc)
set_option maxRecDepth 100000 in
theorem card : Rows.DatumTextsCardSaid :=
  Claim7.holds_tied_plain_at .later [] [.data, .data, .data, .data, .sentinel, .sentinel, .pinned] true (true, "feaf21c062311904bfd92c7785647edaee1d9319c4fe03e55dc6c16d2606d535") true
    over (fun _ h => by cases h) (by kernel_rfl) (fun _ h => by cases h) datumTexts_row_tie rfl ⟨rfl, rfl⟩ Go.Proofs.YtpfignfgfhbblaaGreatDoorJ.pMain rfl
    (fun f fn hf hfn => by
      obtain rfl : f = 3 := Option.some.inj ((show Tryz.prog.funcNamed "longstop/longstoplaw04.DatumTexts" = some 3 from fName).symm.trans hf) |>.symm
      obtain rfl : fn = Tryz.f3 := (Option.some.inj (Tryz.func3.symm.trans hfn)).symm
      exact ⟨Go.Proofs.YtpfignfgfhbblaaGreatDoorJ.pLooks, fun j t ht => by
        rw [Tryz.params3] at ht
        have hm : t ∈ [23, 9] := by simpa using Array.mem_of_getElem? ht
        have hall : ([23, 9].all fun u => !Tryz.prog.wantsStandIn u) = true := by kernel_rfl
        exact (show Tryz.prog.wantsStandIn t = false by simpa using List.all_eq_true.1 hall t hm)⟩)
    fGoes
end Go.Proofs.YtpfignfgfhbblaaGreatDoor.datumTexts
namespace Go.Proofs.YtpfignfgfhbblaaGreatDoor
/-- The row, under a short name, for the claim. -/
theorem datumTexts_holds : Rows.DatumTextsCardSaid := datumTexts.card
end Go.Proofs.YtpfignfgfhbblaaGreatDoor
