import Derived.Test.YtnchjdhepakokaaGreatDoorLo05
import Derived.Test.YtnchjdhepakokaaGreatDoorRows
import Derived.ProofKit
import Derived.Lib.SmallJoins
import Derived.Test.YtnchjdhepakokaaGreatDoorTie
import Derived.Test.YtnchjdhepakokaaGreatDoorCards
import Derived.Test.YtnchjdhepakokaaGreatDoorLo06
import Derived.SevenTiedAt
import Derived.LaidMore
import Derived.OpenShut
import Derived.Stop.Joined
import Derived.Lay
import Derived.MakeChecks
/- DatumLogic: whatever the input, the law answers true and leaves its arguments as they were. -/
namespace Go.Proofs.YtnchjdhepakokaaGreatDoor.datumLogic
open Go.ChangeShapes Go.WideShapes Go.ChangeAt Go.RowKit Go.Joins
open Go.ChangeMaps (open_string shut_string)
set_option linter.unusedVariables false
theorem own : ownKnob Tryz.prog.godebug = none := by kernel_rfl
set_option maxRecDepth 100000 in
theorem lifted (os : Os) (started : os.Started) (H : Type) (enc : TypeId × Value → H) :
    ReturnsInHanded {} Tryz.checked os 10 .any (fun w args => (Rows.datumLogicSpec.pre enc Tryz.prog Tryz.f10 [] false w args ∧ laidMetH Tryz.prog YtnchjdhepakokaaGreatDoorC.laid3 w) ∧ sizedMet enc Tryz.prog Tryz.f10 (OpenSpec.ofChange Rows.datumLogicSpec) false w args) (Rows.datumLogicSpec.post enc Tryz.prog Tryz.f10 false true false false) := by
  refine YtnchjdhepakokaaGreatDoorC.handed_shaped (C := Tryz.checked) (X := fun w _ => laidMetH Tryz.prog YtnchjdhepakokaaGreatDoorC.laid3 w) (fun _ _ _ hh h => h.of_heap hh) own started (by kernel_rfl) Tryz.func10
    (ChangeSpec.witness_shaped (enc := enc) (C := Tryz.checked) (os := os) (X := fun w _ => laidMetH Tryz.prog YtnchjdhepakokaaGreatDoorC.laid3 w) false (World.laidAll Tryz.prog os YtnchjdhepakokaaGreatDoorC.laid3) #[.int .i64 0, .int .i64 0, .int .i64 0] 8 (World.laidAll_os _ _ _) (World.shaped_of_ZipB (by kernel_rfl) (by kernel_rfl)) (by kernel_rfl) (by kernel_rfl) (by kernel_rfl) (by rw [MakeChecks.laidMetH_plain _ _ _ (by kernel_rfl)]; exact laidMet_laidAll _ (by kernel_rfl) (by kernel_rfl))) ?_
  intro W base args ds gs before hval0 hW hcnd hsz0 hL hsh _
  have hsz : (DataW.weightsEach Tryz.prog (Tryz.f10.params.toList ++ Rows.datumLogicSpec.plain.varTypes Tryz.prog) (ds ++ gs)).all (· ≤ reachBytes) = true := hsz0
  have hval : ∀ (j : Nat) t v, Tryz.f10.params[j]? = some t → args[j]? = some v → Value.okWide Tryz.prog W .any base t v := hval0
  have hW' := hW
  obtain ⟨p, q, hA0, hV, rfl, hfz, hnd⟩ := hW
  have hA : DataW.TrodAll enc Tryz.prog W 0 (fun _ => true) true Tryz.f10.params.toList args.toList ds p := hA0
  rw [Tryz.params10] at hA hval hsz
  obtain ⟨v0, vs0, d0, ds0, p0, q0, hargs, rfl, rfl, h0, r0⟩ := trodAll_cons hA
  obtain ⟨v1, vs1, d1, ds1, p1, q1, rfl, rfl, rfl, h1, r1⟩ := trodAll_cons r0
  obtain ⟨v2, vs2, d2, ds2, p2, q2, rfl, rfl, rfl, h2, r2⟩ := trodAll_cons r1
  obtain ⟨rfl, rfl, rfl⟩ := trodAll_nil r2
  obtain rfl : args = #[v0, v1, v2] := by cases args; simp_all
  obtain ⟨rfl, rfl⟩ := trodVars_none hV
  obtain ⟨a0, rfl, rfl, rfl, w0⟩ := open_int Tryz.underlying3 (hval 0 3 v0 rfl rfl) h0
  obtain ⟨a1, rfl, rfl, rfl, w1⟩ := open_int Tryz.underlying3 (hval 1 3 v1 rfl rfl) h1
  obtain ⟨a2, rfl, rfl, rfl, w2⟩ := open_int Tryz.underlying3 (hval 2 3 v2 rfl rfl) h2
  clear hA0 hval0 hsz0 hsz
  refine (YtnchjdhepakokaaGreatDoorC.logic_true a0 a1 a2 W (YtnchjdhepakokaaGreatDoorC.glob_in hL hsh)).mono fun e W' ⟨he, bel⟩ => ?_
  subst he
  exact ⟨_, rfl, _, _, _, [], _, [], hW', trodAll_mk1 (shut_bool Tryz.underlying4 _), (trodAll_cons_mk (shut_int Tryz.underlying3 w0) (trodAll_cons_mk (shut_int Tryz.underlying3 w1) (trodAll_cons_mk (shut_int Tryz.underlying3 w2) trodAll_mk0))), rfl, bel.frame _, fun h => by cases h⟩
set_option maxRecDepth 100000 in
theorem fInPlace : (Rows.datumLogicRow.inPlace == Tryz.prog.inPlace 10) = true := by kernel_rfl
set_option maxRecDepth 100000 in
theorem fUnf : (Rows.datumLogicRow.unfollowed == Tryz.prog.unfollowed 10) = true := by kernel_rfl
set_option maxRecDepth 100000 in
theorem fRec : (Rows.datumLogicRow.recurses == Tryz.prog.recurses 10) = true := by kernel_rfl
set_option maxRecDepth 100000 in
theorem fNamed : (Rows.datumLogicRow.named == Tryz.prog.varsNamed 10) = true := by kernel_rfl
set_option maxRecDepth 100000 in
theorem fName : Tryz.prog.funcNamed "longstop/longstoplaw04.DatumLogic" = some 10 := by kernel_rfl
set_option maxRecDepth 100000 in
theorem fGoes : false = Rows.datumLogicRow.goesBy Tryz.prog := by kernel_rfl
theorem fWrap : Tryz.f10.isWrapper Tryz.pinned.checked.prog Rows.datumLogicRow.wrapper Rows.datumLogicRow.mainSum := by unfold Func.isWrapper; first | (rw [if_pos (by decide +kernel)]; kernel_rfl) | (rw [if_neg (by decide +kernel)]; exact ⟨rfl, rfl⟩)
open Go.Proofs.YtnchjdhepakokaaGreatDoorJ in
set_option maxRecDepth 100000 in
theorem closed : joinedFacts Tryz.prog 10 Tryz.f10 Rows.datumLogicSpec Rows.datumLogicRow = true := by
  unfold joinedFacts
  exact (bt (bt (bt (bt (bt (bt (bt (bt (bt (bt (bt (bt (bt (bt (bt (bt (bt (bt (bt (bt (bt (bt (bt (bt (bt (bt (bt (bt (bt (bt (bt (by kernel_rfl) pLaid) pMaps) (by kernel_rfl)) (by kernel_rfl)) (by kernel_rfl)) pStops) (by kernel_rfl)) pKnobs) fInPlace) fUnf) fRec) fNamed) (by kernel_rfl)) (by kernel_rfl)) (by kernel_rfl)) (by kernel_rfl)) (by kernel_rfl)) (by kernel_rfl)) (by kernel_rfl)) (by kernel_rfl)) (by kernel_rfl)) pKeys) (by kernel_rfl)) pHeard) pMay) pLifts) pMake) (by kernel_rfl)) (by kernel_rfl)) (by kernel_rfl)) (by kernel_rfl))
theorem over : Rows.datumLogicRow.holds Tryz.pinned (OpenSpec.ofChange Rows.datumLogicSpec) :=
  OpenClaim.holds_of_wide 10 Tryz.f10 rfl rfl rfl rfl rfl rfl rfl ⟨rfl, rfl, rfl, rfl, rfl⟩ rfl rfl rfl rfl rfl fName Tryz.func10 closed
    (of_decide_eq_true (by kernel_rfl)) fWrap
    (fun os started H enc _ => lifted os started H enc)
set_option maxRecDepth 100000 in
theorem card : Rows.DatumLogicCardSaid :=
  Claim7.holds_tied_plain_at .later [] [.data, .data, .data, .data, .sentinel, .sentinel, .pinned] true (true, "78437c3b7531760fed31a8607bae3fb8ec3b4f916377ea75976054335517be10") true
    over (fun _ h => by cases h) (by kernel_rfl) (fun _ h => by cases h) datumLogic_row_tie rfl ⟨rfl, rfl⟩ Go.Proofs.YtnchjdhepakokaaGreatDoorJ.pMain rfl
    (fun f fn hf hfn => by
      obtain rfl : f = 10 := Option.some.inj ((show Tryz.prog.funcNamed "longstop/longstoplaw04.DatumLogic" = some 10 from fName).symm.trans hf) |>.symm
      obtain rfl : fn = Tryz.f10 := (Option.some.inj (Tryz.func10.symm.trans hfn)).symm
      exact ⟨Go.Proofs.YtnchjdhepakokaaGreatDoorJ.pLooks, fun j t ht => by
        rw [Tryz.params10] at ht
        have hm : t ∈ [3, 3, 3] := by simpa using Array.mem_of_getElem? ht
        have hall : ([3, 3, 3].all fun u => !Tryz.prog.wantsStandIn u) = true := by kernel_rfl
        exact (show Tryz.prog.wantsStandIn t = false by simpa using List.all_eq_true.1 hall t hm)⟩)
    fGoes
end Go.Proofs.YtnchjdhepakokaaGreatDoor.datumLogic
namespace Go.Proofs.YtnchjdhepakokaaGreatDoor
/-- The row, under a short name, for the claim. -/
theorem datumLogic_holds : Rows.DatumLogicCardSaid := datumLogic.card
end Go.Proofs.YtnchjdhepakokaaGreatDoor
