import Derived.Test.YtnchjdhepakokaaGreatDoorOo12
import Derived.Test.YtnchjdhepakokaaGreatDoorRows
import Derived.ProofKit
import Derived.Lib.SmallJoins
import Derived.Deep.Slices
import Derived.Test.YtnchjdhepakokaaGreatDoorTie
import Derived.Test.YtnchjdhepakokaaGreatDoorCards
import Derived.SevenTiedAt
import Derived.LaidMore
import Derived.OpenShut
import Derived.Stop.Joined
import Derived.Lay
import Derived.MakeChecks
/- DatumOrder: whatever the input, the law answers true and leaves its arguments as they were. -/
namespace Go.Proofs.YtnchjdhepakokaaGreatDoor.datumOrder
open Go.ChangeShapes Go.WideShapes Go.ChangeAt Go.RowKit Go.Joins
open Go.ChangeMaps (open_string shut_string)
set_option linter.unusedVariables false
theorem own : ownKnob Tryz.prog.godebug = none := by kernel_rfl
set_option maxRecDepth 100000 in
theorem lifted (os : Os) (started : os.Started) (H : Type) (enc : TypeId × Value → H) :
    ReturnsInHanded {} Tryz.checked os 11 .any (fun w args => (Rows.datumOrderSpec.pre enc Tryz.prog Tryz.f11 [] false w args ∧ laidMetH Tryz.prog YtnchjdhepakokaaGreatDoorC.laid3 w) ∧ sizedMet enc Tryz.prog Tryz.f11 (OpenSpec.ofChange Rows.datumOrderSpec) false w args) (Rows.datumOrderSpec.post enc Tryz.prog Tryz.f11 false true false false) := by
  refine YtnchjdhepakokaaGreatDoorC.handed_shaped (C := Tryz.checked) (X := fun w _ => laidMetH Tryz.prog YtnchjdhepakokaaGreatDoorC.laid3 w) (fun _ _ _ hh h => h.of_heap hh) own started (by kernel_rfl) Tryz.func11
    (ChangeSpec.witness_shaped (enc := enc) (C := Tryz.checked) (os := os) (X := fun w _ => laidMetH Tryz.prog YtnchjdhepakokaaGreatDoorC.laid3 w) false (World.laidAll Tryz.prog os YtnchjdhepakokaaGreatDoorC.laid3) #[.agg #[.int .i64 0, .int .i64 0, .int .i64 0, .string ByteArray.empty], .agg #[.int .i64 0, .int .i64 0, .int .i64 0, .string ByteArray.empty], .agg #[.int .i64 0, .int .i64 0, .int .i64 0, .string ByteArray.empty]] 8 (World.laidAll_os _ _ _) (World.shaped_of_ZipB (by kernel_rfl) (by kernel_rfl)) (by kernel_rfl) (by kernel_rfl) (by kernel_rfl) (by rw [MakeChecks.laidMetH_plain _ _ _ (by kernel_rfl)]; exact laidMet_laidAll _ (by kernel_rfl) (by kernel_rfl))) ?_
  intro W base args ds gs before hval0 hW hcnd hsz0 hL hsh _
  have hsz : (DataW.weightsEach Tryz.prog (Tryz.f11.params.toList ++ Rows.datumOrderSpec.plain.varTypes Tryz.prog) (ds ++ gs)).all (· ≤ reachBytes) = true := hsz0
  have hval : ∀ (j : Nat) t v, Tryz.f11.params[j]? = some t → args[j]? = some v → Value.okWide Tryz.prog W .any base t v := hval0
  have hW' := hW
  obtain ⟨p, q, hA0, hV, rfl, hfz, hnd⟩ := hW
  have hA : DataW.TrodAll enc Tryz.prog W 0 (fun _ => true) true Tryz.f11.params.toList args.toList ds p := hA0
  rw [Tryz.params11] at hA hval hsz
  obtain ⟨v0, vs0, d0, ds0, p0, q0, hargs, rfl, rfl, h0, r0⟩ := trodAll_cons hA
  obtain ⟨v1, vs1, d1, ds1, p1, q1, rfl, rfl, rfl, h1, r1⟩ := trodAll_cons r0
  obtain ⟨v2, vs2, d2, ds2, p2, q2, rfl, rfl, rfl, h2, r2⟩ := trodAll_cons r1
  obtain ⟨rfl, rfl, rfl⟩ := trodAll_nil r2
  obtain rfl : args = #[v0, v1, v2] := by cases args; simp_all
  obtain ⟨rfl, rfl⟩ := trodVars_none hV
  obtain ⟨f0_0, f0_1, f0_2, f0_3, y0_0, y0_1, y0_2, y0_3, n0, rfl, rfl, rfl, t0_0, t0_1, t0_2, t0_3⟩ := open_agg4 Tryz.underlying25 (by kernel_rfl) (by kernel_rfl) (hval 0 25 v0 rfl rfl) h0
  obtain ⟨a0_0, e0_0, rfl, w0_0⟩ := DataW.trod_int Tryz.underlying3 t0_0
  obtain rfl : f0_0 = _ := by simpa using e0_0
  obtain ⟨a0_1, e0_1, rfl, w0_1⟩ := DataW.trod_int Tryz.underlying3 t0_1
  obtain rfl : f0_1 = _ := by simpa using e0_1
  obtain ⟨a0_2, e0_2, rfl, w0_2⟩ := DataW.trod_int Tryz.underlying3 t0_2
  obtain rfl : f0_2 = _ := by simpa using e0_2
  obtain ⟨a0_3, e0_3, rfl, w0_3⟩ := DataW.trod_string Tryz.underlying9 t0_3
  obtain rfl : f0_3 = _ := by simpa using e0_3
  have z0_3 : a0_3.size ≤ 140737488351232 := by
    have z := YtnchjdhepakokaaGreatDoorC.sized_part hsz (j := 0) (t := 25) rfl rfl Tryz.underlying25 (i := 3) rfl rfl
    rw [Array.length_toList] at z
    exact z
  obtain ⟨f1_0, f1_1, f1_2, f1_3, y1_0, y1_1, y1_2, y1_3, n1, rfl, rfl, rfl, t1_0, t1_1, t1_2, t1_3⟩ := open_agg4 Tryz.underlying25 (by kernel_rfl) (by kernel_rfl) (hval 1 25 v1 rfl rfl) h1
  obtain ⟨a1_0, e1_0, rfl, w1_0⟩ := DataW.trod_int Tryz.underlying3 t1_0
  obtain rfl : f1_0 = _ := by simpa using e1_0
  obtain ⟨a1_1, e1_1, rfl, w1_1⟩ := DataW.trod_int Tryz.underlying3 t1_1
  obtain rfl : f1_1 = _ := by simpa using e1_1
  obtain ⟨a1_2, e1_2, rfl, w1_2⟩ := DataW.trod_int Tryz.underlying3 t1_2
  obtain rfl : f1_2 = _ := by simpa using e1_2
  obtain ⟨a1_3, e1_3, rfl, w1_3⟩ := DataW.trod_string Tryz.underlying9 t1_3
  obtain rfl : f1_3 = _ := by simpa using e1_3
  have z1_3 : a1_3.size ≤ 140737488351232 := by
    have z := YtnchjdhepakokaaGreatDoorC.sized_part hsz (j := 1) (t := 25) rfl rfl Tryz.underlying25 (i := 3) rfl rfl
    rw [Array.length_toList] at z
    exact z
  obtain ⟨f2_0, f2_1, f2_2, f2_3, y2_0, y2_1, y2_2, y2_3, n2, rfl, rfl, rfl, t2_0, t2_1, t2_2, t2_3⟩ := open_agg4 Tryz.underlying25 (by kernel_rfl) (by kernel_rfl) (hval 2 25 v2 rfl rfl) h2
  obtain ⟨a2_0, e2_0, rfl, w2_0⟩ := DataW.trod_int Tryz.underlying3 t2_0
  obtain rfl : f2_0 = _ := by simpa using e2_0
  obtain ⟨a2_1, e2_1, rfl, w2_1⟩ := DataW.trod_int Tryz.underlying3 t2_1
  obtain rfl : f2_1 = _ := by simpa using e2_1
  obtain ⟨a2_2, e2_2, rfl, w2_2⟩ := DataW.trod_int Tryz.underlying3 t2_2
  obtain rfl : f2_2 = _ := by simpa using e2_2
  obtain ⟨a2_3, e2_3, rfl, w2_3⟩ := DataW.trod_string Tryz.underlying9 t2_3
  obtain rfl : f2_3 = _ := by simpa using e2_3
  have z2_3 : a2_3.size ≤ 140737488351232 := by
    have z := YtnchjdhepakokaaGreatDoorC.sized_part hsz (j := 2) (t := 25) rfl rfl Tryz.underlying25 (i := 3) rfl rfl
    rw [Array.length_toList] at z
    exact z
  clear hA0 hval0 hsz0 hsz
  refine (YtnchjdhepakokaaGreatDoorC.order_true a0_0 a0_1 a0_2 a0_3 a1_0 a1_1 a1_2 a1_3 a2_0 a2_1 a2_2 a2_3 w0_0 w0_1 w0_2 z0_3 w1_0 w1_1 w1_2 z1_3 w2_0 w2_1 w2_2 z2_3 W (YtnchjdhepakokaaGreatDoorC.glob_in hL hsh)).mono fun e W' ⟨he, bel⟩ => ?_
  subst he
  exact ⟨_, rfl, _, _, _, [], _, [], hW', trodAll_mk1 (shut_bool Tryz.underlying4 _), (trodAll_cons_mk (shut_agg4 Tryz.underlying25 (by kernel_rfl) (by kernel_rfl) (shut_int Tryz.underlying3 w0_0) (shut_int Tryz.underlying3 w0_1) (shut_int Tryz.underlying3 w0_2) (Go.Deep.shut_string_cell Tryz.underlying9 w0_3)) (trodAll_cons_mk (shut_agg4 Tryz.underlying25 (by kernel_rfl) (by kernel_rfl) (shut_int Tryz.underlying3 w1_0) (shut_int Tryz.underlying3 w1_1) (shut_int Tryz.underlying3 w1_2) (Go.Deep.shut_string_cell Tryz.underlying9 w1_3)) (trodAll_cons_mk (shut_agg4 Tryz.underlying25 (by kernel_rfl) (by kernel_rfl) (shut_int Tryz.underlying3 w2_0) (shut_int Tryz.underlying3 w2_1) (shut_int Tryz.underlying3 w2_2) (Go.Deep.shut_string_cell Tryz.underlying9 w2_3)) trodAll_mk0))), rfl, bel.frame _, fun h => by cases h⟩
set_option maxRecDepth 100000 in
theorem fInPlace : (Rows.datumOrderRow.inPlace == Tryz.prog.inPlace 11) = true := by kernel_rfl
set_option maxRecDepth 100000 in
theorem fUnf : (Rows.datumOrderRow.unfollowed == Tryz.prog.unfollowed 11) = true := by kernel_rfl
set_option maxRecDepth 100000 in
theorem fRec : (Rows.datumOrderRow.recurses == Tryz.prog.recurses 11) = true := by kernel_rfl
set_option maxRecDepth 100000 in
theorem fNamed : (Rows.datumOrderRow.named == Tryz.prog.varsNamed 11) = true := by kernel_rfl
set_option maxRecDepth 100000 in
theorem fName : Tryz.prog.funcNamed "longstop/longstoplaw04.DatumOrder" = some 11 := by kernel_rfl
set_option maxRecDepth 100000 in
theorem fGoes : false = Rows.datumOrderRow.goesBy Tryz.prog := by kernel_rfl
theorem fWrap : Tryz.f11.isWrapper Tryz.pinned.checked.prog Rows.datumOrderRow.wrapper Rows.datumOrderRow.mainSum := by unfold Func.isWrapper; first | (rw [if_pos (by decide +kernel)]; kernel_rfl) | (rw [if_neg (by decide +kernel)]; exact ⟨rfl, rfl⟩)
open Go.Proofs.YtnchjdhepakokaaGreatDoorJ in
set_option maxRecDepth 100000 in
theorem closed : joinedFacts Tryz.prog 11 Tryz.f11 Rows.datumOrderSpec Rows.datumOrderRow = true := by
  unfold joinedFacts
  exact (bt (bt (bt (bt (bt (bt (bt (bt (bt (bt (bt (bt (bt (bt (bt (bt (bt (bt (bt (bt (bt (bt (bt (bt (bt (bt (bt (bt (bt (bt (bt (by kernel_rfl) pLaid) pMaps) (by kernel_rfl)) (by kernel_rfl)) (by kernel_rfl)) pStops) (by kernel_rfl)) pKnobs) fInPlace) fUnf) fRec) fNamed) (by kernel_rfl)) (by kernel_rfl)) (by kernel_rfl)) (by kernel_rfl)) (by kernel_rfl)) (by kernel_rfl)) (by kernel_rfl)) (by kernel_rfl)) (by kernel_rfl)) pKeys) (by kernel_rfl)) pHeard) pMay) pLifts) pMake) (by kernel_rfl)) (by kernel_rfl)) (by kernel_rfl)) (by kernel_rfl))
theorem over : Rows.datumOrderRow.holds Tryz.pinned (OpenSpec.ofChange Rows.datumOrderSpec) :=
  OpenClaim.holds_of_wide 11 Tryz.f11 rfl rfl rfl rfl rfl rfl rfl ⟨rfl, rfl, rfl, rfl, rfl⟩ rfl rfl rfl rfl rfl fName Tryz.func11 closed
    (of_decide_eq_true (by kernel_rfl)) fWrap
    (fun os started H enc _ => lifted os started H enc)
set_option maxRecDepth 100000 in
theorem card : Rows.DatumOrderCardSaid :=
  Claim7.holds_tied_plain_at .later [] [.data, .data, .data, .data, .sentinel, .sentinel, .data, .pinned] true (true, "78437c3b7531760fed31a8607bae3fb8ec3b4f916377ea75976054335517be10") true
    over (fun _ h => by cases h) (by kernel_rfl) (fun _ h => by cases h) datumOrder_row_tie rfl ⟨rfl, rfl⟩ Go.Proofs.YtnchjdhepakokaaGreatDoorJ.pMain rfl
    (fun f fn hf hfn => by
      obtain rfl : f = 11 := Option.some.inj ((show Tryz.prog.funcNamed "longstop/longstoplaw04.DatumOrder" = some 11 from fName).symm.trans hf) |>.symm
      obtain rfl : fn = Tryz.f11 := (Option.some.inj (Tryz.func11.symm.trans hfn)).symm
      exact ⟨Go.Proofs.YtnchjdhepakokaaGreatDoorJ.pLooks, fun j t ht => by
        rw [Tryz.params11] at ht
        have hm : t ∈ [25, 25, 25] := by simpa using Array.mem_of_getElem? ht
        have hall : ([25, 25, 25].all fun u => !Tryz.prog.wantsStandIn u) = true := by kernel_rfl
        exact (show Tryz.prog.wantsStandIn t = false by simpa using List.all_eq_true.1 hall t hm)⟩)
    fGoes
end Go.Proofs.YtnchjdhepakokaaGreatDoor.datumOrder
namespace Go.Proofs.YtnchjdhepakokaaGreatDoor
/-- The row, under a short name, for the claim. -/
theorem datumOrder_holds : Rows.DatumOrderCardSaid := datumOrder.card
end Go.Proofs.YtnchjdhepakokaaGreatDoor
