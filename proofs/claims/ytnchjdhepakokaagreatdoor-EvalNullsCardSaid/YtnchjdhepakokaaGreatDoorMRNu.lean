import Derived.Test.YtnchjdhepakokaaGreatDoorM15
import Derived.Test.YtnchjdhepakokaaGreatDoorRows
import Derived.ProofKit
import Derived.Lib.SmallJoins
import Derived.Deep.Slices
import Derived.Test.YtnchjdhepakokaaGreatDoorTie
import Derived.Test.YtnchjdhepakokaaGreatDoorCards
import Derived.SevenTiedAt
import Derived.LaidMore
import Derived.OpenShut
import Derived.Stop.Joined
import Derived.Lay
import Derived.MakeChecks
/- EvalNulls: whatever the input, the law answers true and leaves its arguments as they were. -/
namespace Go.Proofs.YtnchjdhepakokaaGreatDoor.evalNulls
open Go.ChangeShapes Go.WideShapes Go.ChangeAt Go.RowKit Go.Joins
open Go.ChangeMaps (open_string shut_string)
set_option linter.unusedVariables false
theorem own : ownKnob Tryz.prog.godebug = none := by kernel_rfl
set_option maxRecDepth 100000 in
theorem lifted (os : Os) (started : os.Started) (H : Type) (enc : TypeId × Value → H) :
    ReturnsInHanded {} Tryz.checked os 6 .any (fun w args => (Rows.evalNullsSpec.pre enc Tryz.prog Tryz.f6 [] false w args ∧ laidMetH Tryz.prog YtnchjdhepakokaaGreatDoorC.laid3 w) ∧ sizedMet enc Tryz.prog Tryz.f6 (OpenSpec.ofChange Rows.evalNullsSpec) false w args) (Rows.evalNullsSpec.post enc Tryz.prog Tryz.f6 false true false false) := by
  refine returnsInHanded_of_change_and (C := Tryz.checked) (X := fun w _ => laidMetH Tryz.prog YtnchjdhepakokaaGreatDoorC.laid3 w) (fun _ _ _ hh h => h.of_heap hh) own started (by kernel_rfl) Tryz.func6
    (ChangeSpec.witness_shaped (enc := enc) (C := Tryz.checked) (os := os) (X := fun w _ => laidMetH Tryz.prog YtnchjdhepakokaaGreatDoorC.laid3 w) false (World.laidAll Tryz.prog os YtnchjdhepakokaaGreatDoorC.laid3) #[.int .i64 0, .agg #[.int .i64 0, .int .i64 0, .int .i64 0, .string ByteArray.empty]] 8 (World.laidAll_os _ _ _) (World.shaped_of_ZipB (by kernel_rfl) (by kernel_rfl)) (by kernel_rfl) (by kernel_rfl) (by kernel_rfl) (by rw [MakeChecks.laidMetH_plain _ _ _ (by kernel_rfl)]; exact laidMet_laidAll _ (by kernel_rfl) (by kernel_rfl))) ?_
  intro W base args ds gs before hval0 hW hcnd hsz0 hL _
  have hsz : (DataW.weightsEach Tryz.prog (Tryz.f6.params.toList ++ Rows.evalNullsSpec.plain.varTypes Tryz.prog) (ds ++ gs)).all (· ≤ reachBytes) = true := hsz0
  have hval : ∀ (j : Nat) t v, Tryz.f6.params[j]? = some t → args[j]? = some v → Value.okWide Tryz.prog W .any base t v := hval0
  have hW' := hW
  obtain ⟨p, q, hA0, hV, rfl, hfz, hnd⟩ := hW
  have hA : DataW.TrodAll enc Tryz.prog W 0 (fun _ => true) true Tryz.f6.params.toList args.toList ds p := hA0
  rw [Tryz.params6] at hA hval hsz
  obtain ⟨v0, vs0, d0, ds0, p0, q0, hargs, rfl, rfl, h0, r0⟩ := trodAll_cons hA
  obtain ⟨v1, vs1, d1, ds1, p1, q1, rfl, rfl, rfl, h1, r1⟩ := trodAll_cons r0
  obtain ⟨rfl, rfl, rfl⟩ := trodAll_nil r1
  obtain rfl : args = #[v0, v1] := by cases args; simp_all
  obtain ⟨rfl, rfl⟩ := trodVars_none hV
  obtain ⟨a0, rfl, rfl, rfl, w0⟩ := open_int Tryz.underlying3 (hval 0 3 v0 rfl rfl) h0
  obtain ⟨f1_0, f1_1, f1_2, f1_3, y1_0, y1_1, y1_2, y1_3, n1, rfl, rfl, rfl, t1_0, t1_1, t1_2, t1_3⟩ := open_agg4 Tryz.underlying25 (by kernel_rfl) (by kernel_rfl) (hval 1 25 v1 rfl rfl) h1
  obtain ⟨a1_0, e1_0, rfl, w1_0⟩ := DataW.trod_int Tryz.underlying3 t1_0
  obtain rfl : f1_0 = _ := by simpa using e1_0
  obtain ⟨a1_1, e1_1, rfl, w1_1⟩ := DataW.trod_int Tryz.underlying3 t1_1
  obtain rfl : f1_1 = _ := by simpa using e1_1
  obtain ⟨a1_2, e1_2, rfl, w1_2⟩ := DataW.trod_int Tryz.underlying3 t1_2
  obtain rfl : f1_2 = _ := by simpa using e1_2
  obtain ⟨a1_3, e1_3, rfl, w1_3⟩ := DataW.trod_string Tryz.underlying9 t1_3
  obtain rfl : f1_3 = _ := by simpa using e1_3
  have z1_3 : a1_3.size ≤ 140737488351232 := by
    have z := YtnchjdhepakokaaGreatDoorC.sized_part hsz (j := 1) (t := 25) rfl rfl Tryz.underlying25 (i := 3) rfl rfl
    rw [Array.length_toList] at z
    exact z
  clear hA0 hval0 hsz0 hsz
  refine (YtnchjdhepakokaaGreatDoorC.nulls_true a0 a1_0 a1_1 a1_2 a1_3 w0 w1_0 w1_1 w1_2 z1_3 W (YtnchjdhepakokaaGreatDoorC.glob_in hL)).mono fun e W' ⟨he, bel⟩ => ?_
  subst he
  exact ⟨_, rfl, _, _, _, [], _, [], hW', trodAll_mk1 (shut_bool Tryz.underlying4 _), (trodAll_cons_mk (shut_int Tryz.underlying3 w0) (trodAll_cons_mk (shut_agg4 Tryz.underlying25 (by kernel_rfl) (by kernel_rfl) (shut_int Tryz.underlying3 w1_0) (shut_int Tryz.underlying3 w1_1) (shut_int Tryz.underlying3 w1_2) (Go.Deep.shut_string_cell Tryz.underlying9 w1_3)) trodAll_mk0)), rfl, bel.frame _, fun h => by cases h⟩
set_option maxRecDepth 100000 in
theorem fInPlace : (Rows.evalNullsRow.inPlace == Tryz.prog.inPlace 6) = true := by kernel_rfl
set_option maxRecDepth 100000 in
theorem fUnf : (Rows.evalNullsRow.unfollowed == Tryz.prog.unfollowed 6) = true := by kernel_rfl
set_option maxRecDepth 100000 in
theorem fRec : (Rows.evalNullsRow.recurses == Tryz.prog.recurses 6) = true := by kernel_rfl
set_option maxRecDepth 100000 in
theorem fNamed : (Rows.evalNullsRow.named == Tryz.prog.varsNamed 6) = true := by kernel_rfl
set_option maxRecDepth 100000 in
theorem fName : Tryz.prog.funcNamed "longstop/longstoplaw07.EvalNulls" = some 6 := by kernel_rfl
set_option maxRecDepth 100000 in
theorem fGoes : false = Rows.evalNullsRow.goesBy Tryz.prog := by kernel_rfl
theorem fWrap : Tryz.f6.isWrapper Tryz.pinned.checked.prog Rows.evalNullsRow.wrapper Rows.evalNullsRow.mainSum := by unfold Func.isWrapper; first | (rw [if_pos (by decide +kernel)]; kernel_rfl) | (rw [if_neg (by decide +kernel)]; exact ⟨rfl, rfl⟩)
open Go.Proofs.YtnchjdhepakokaaGreatDoorJ in
set_option maxRecDepth 100000 in
theorem closed : joinedFacts Tryz.prog 6 Tryz.f6 Rows.evalNullsSpec Rows.evalNullsRow = true := by
  unfold joinedFacts
  exact (bt (bt (bt (bt (bt (bt (bt (bt (bt (bt (bt (bt (bt (bt (bt (bt (bt (bt (bt (bt (bt (bt (bt (bt (bt (bt (bt (bt (bt (bt (bt (by kernel_rfl) pLaid) pMaps) (by kernel_rfl)) (by kernel_rfl)) (by kernel_rfl)) pStops) (by kernel_rfl)) pKnobs) fInPlace) fUnf) fRec) fNamed) (by kernel_rfl)) (by kernel_rfl)) (by kernel_rfl)) (by kernel_rfl)) (by kernel_rfl)) (by kernel_rfl)) (by kernel_rfl)) (by kernel_rfl)) (by kernel_rfl)) pKeys) (by kernel_rfl)) pHeard) pMay) pLifts) pMake) (by kernel_rfl)) (by kernel_rfl)) (by kernel_rfl)) (by kernel_rfl))
theorem over : Rows.evalNullsRow.holds Tryz.pinned (OpenSpec.ofChange Rows.evalNullsSpec) :=
  OpenClaim.holds_of_wide 6 Tryz.f6 rfl rfl rfl rfl rfl rfl rfl ⟨rfl, rfl, rfl, rfl, rfl⟩ rfl rfl rfl rfl rfl fName Tryz.func6 closed
    (of_decide_eq_true (by kernel_rfl)) fWrap
    (fun os started H enc _ => lifted os started H enc)
set_option maxRecDepth 100000 in
theorem card : Rows.EvalNullsCardSaid :=
  Claim7.holds_tied_plain_at .later [] [.data, .data, .pinned] true (true, "78437c3b7531760fed31a8607bae3fb8ec3b4f916377ea75976054335517be10") true
    over (fun _ h => by cases h) (by kernel_rfl) (fun _ h => by cases h) evalNulls_row_tie rfl ⟨rfl, rfl⟩ Go.Proofs.YtnchjdhepakokaaGreatDoorJ.pMain rfl
    (fun f fn hf hfn => by
      obtain rfl : f = 6 := Option.some.inj ((show Tryz.prog.funcNamed "longstop/longstoplaw07.EvalNulls" = some 6 from fName).symm.trans hf) |>.symm
      obtain rfl : fn = Tryz.f6 := (Option.some.inj (Tryz.func6.symm.trans hfn)).symm
      exact ⟨Go.Proofs.YtnchjdhepakokaaGreatDoorJ.pLooks, fun j t ht => by
        rw [Tryz.params6] at ht
        have hm : t ∈ [3, 25] := by simpa using Array.mem_of_getElem? ht
        have hall : ([3, 25].all fun u => !Tryz.prog.wantsStandIn u) = true := by kernel_rfl
        exact (show Tryz.prog.wantsStandIn t = false by simpa using List.all_eq_true.1 hall t hm)⟩)
    fGoes
end Go.Proofs.YtnchjdhepakokaaGreatDoor.evalNulls
namespace Go.Proofs.YtnchjdhepakokaaGreatDoor
/-- The row, under a short name, for the claim. -/
theorem evalNulls_holds : Rows.EvalNullsCardSaid := evalNulls.card
end Go.Proofs.YtnchjdhepakokaaGreatDoor
