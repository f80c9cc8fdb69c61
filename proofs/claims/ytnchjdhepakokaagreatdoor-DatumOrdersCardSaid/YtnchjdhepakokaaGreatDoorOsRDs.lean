import Derived.Test.YtnchjdhepakokaaGreatDoorOs13
import Derived.Test.YtnchjdhepakokaaGreatDoorRows
import Derived.ProofKit
import Derived.Lib.SmallJoins
import Derived.Test.YtnchjdhepakokaaGreatDoorTie
import Derived.Test.YtnchjdhepakokaaGreatDoorCards
import Derived.SevenTiedAt
import Derived.LaidMore
import Derived.OpenShut
import Derived.Stop.Joined
import Derived.Lay
import Derived.MakeChecks
/- DatumOrders: whatever the input, the law answers true and leaves its arguments as they were. -/
namespace Go.Proofs.YtnchjdhepakokaaGreatDoor.datumOrders
open Go.ChangeShapes Go.WideShapes Go.ChangeAt Go.RowKit Go.Joins
open Go.ChangeMaps (open_string shut_string)
set_option linter.unusedVariables false
theorem own : ownKnob Tryz.prog.godebug = none := by kernel_rfl
theorem laidOut : laidOutB Tryz.prog = true := by kernel_rfl
set_option maxRecDepth 100000 in
theorem lifted (os : Os) (started : os.Started) (H : Type) (enc : TypeId × Value → H) :
    ReturnsInHanded {} Tryz.checked os 12 .any (fun w args => (Rows.datumOrdersSpec.pre enc Tryz.prog Tryz.f12 [] false w args ∧ laidMetH Tryz.prog YtnchjdhepakokaaGreatDoorC.laid3 w) ∧ sizedMet enc Tryz.prog Tryz.f12 (OpenSpec.ofChange Rows.datumOrdersSpec) false w args) (Rows.datumOrdersSpec.post enc Tryz.prog Tryz.f12 false true false false) := by
  refine YtnchjdhepakokaaGreatDoorC.handed_shaped (C := Tryz.checked) (X := fun w _ => laidMetH Tryz.prog YtnchjdhepakokaaGreatDoorC.laid3 w) (fun _ _ _ hh h => h.of_heap hh) own started (by kernel_rfl) Tryz.func12
    (ChangeSpec.witness_shaped (enc := enc) (C := Tryz.checked) (os := os) (X := fun w _ => laidMetH Tryz.prog YtnchjdhepakokaaGreatDoorC.laid3 w) false (World.laidAll Tryz.prog os YtnchjdhepakokaaGreatDoorC.laid3) #[.slice none 0 0, .slice none 0 0] 8 (World.laidAll_os _ _ _) (World.shaped_of_ZipB (by kernel_rfl) (by kernel_rfl)) (by kernel_rfl) (by kernel_rfl) (by kernel_rfl) (by rw [MakeChecks.laidMetH_plain _ _ _ (by kernel_rfl)]; exact laidMet_laidAll _ (by kernel_rfl) (by kernel_rfl))) ?_
  intro W base args ds gs before hval0 hW hcnd hsz0 hL hsh _
  have hsz : (DataW.weightsEach Tryz.prog (Tryz.f12.params.toList ++ Rows.datumOrdersSpec.plain.varTypes Tryz.prog) (ds ++ gs)).all (· ≤ reachBytes) = true := hsz0
  have hval : ∀ (j : Nat) t v, Tryz.f12.params[j]? = some t → args[j]? = some v → Value.okWide Tryz.prog W .any base t v := hval0
  have hW' := hW
  obtain ⟨p, q, hA0, hV, rfl, hfz, hnd⟩ := hW
  have hA : DataW.TrodAll enc Tryz.prog W 0 (fun _ => true) true Tryz.f12.params.toList args.toList ds p := hA0
  rw [Tryz.params12] at hA hval hsz
  obtain ⟨v0, vs0, d0, ds0, p0, q0, hargs, rfl, rfl, h0, r0⟩ := trodAll_cons hA
  obtain ⟨v1, vs1, d1, ds1, p1, q1, rfl, rfl, rfl, h1, r1⟩ := trodAll_cons r0
  obtain ⟨rfl, rfl, rfl⟩ := trodAll_nil r1
  obtain rfl : args = #[v0, v1] := by cases args; simp_all
  obtain ⟨rfl, rfl⟩ := trodVars_none hV
  obtain ⟨a0, len0, cap0, rfl⟩ := okWide_slice Tryz.underlying22 (hval 0 22 v0 rfl rfl)
  have k0 := h0
  have lt0 : ∀ x ∈ p0, x.block < W.heap.size := by obtain ⟨m, hm⟩ := k0; exact DataW.trod_lt m _ _ _ hm
  obtain ⟨l0, n0, o0, g0, y0⟩ := YtnchjdhepakokaaGreatDoorC.open_vals hsz (j := 0) (t := 22) (B := 40) rfl rfl Tryz.underlying22 (by kernel_rfl) (by kernel_rfl) Tryz.underlying25 (by kernel_rfl) Tryz.underlying3 Tryz.underlying3 Tryz.underlying3 Tryz.underlying9 k0
  obtain ⟨a1, len1, cap1, rfl⟩ := okWide_slice Tryz.underlying22 (hval 1 22 v1 rfl rfl)
  have k1 := h1
  have lt1 : ∀ x ∈ p1, x.block < W.heap.size := by obtain ⟨m, hm⟩ := k1; exact DataW.trod_lt m _ _ _ hm
  obtain ⟨l1, n1, o1, g1, y1⟩ := YtnchjdhepakokaaGreatDoorC.open_vals hsz (j := 1) (t := 22) (B := 40) rfl rfl Tryz.underlying22 (by kernel_rfl) (by kernel_rfl) Tryz.underlying25 (by kernel_rfl) Tryz.underlying3 Tryz.underlying3 Tryz.underlying3 Tryz.underlying9 k1
  clear hA0 hval0 hsz0 hsz
  refine (YtnchjdhepakokaaGreatDoorC.orders_true a0 len0 cap0 l0 a1 len1 cap1 l1 W (YtnchjdhepakokaaGreatDoorC.glob_in hL hsh) n0 o0 g0 y0 n1 o1 g1 y1).mono fun e W' ⟨he, bel⟩ => ?_
  subst he
  exact ⟨_, rfl, _, _, _, [], _, [], hW', trodAll_mk1 (shut_bool Tryz.underlying4 _), (trodAll_cons_mk (Below.trod laidOut (by kernel_rfl) (of_decide_eq_true (by kernel_rfl)) k0 bel lt0) (trodAll_cons_mk (Below.trod laidOut (by kernel_rfl) (of_decide_eq_true (by kernel_rfl)) k1 bel lt1) trodAll_mk0)), rfl, bel.frame _, fun h => by cases h⟩
set_option maxRecDepth 100000 in
theorem fInPlace : (Rows.datumOrdersRow.inPlace == Tryz.prog.inPlace 12) = true := by kernel_rfl
set_option maxRecDepth 100000 in
theorem fUnf : (Rows.datumOrdersRow.unfollowed == Tryz.prog.unfollowed 12) = true := by kernel_rfl
set_option maxRecDepth 100000 in
theorem fRec : (Rows.datumOrdersRow.recurses == Tryz.prog.recurses 12) = true := by kernel_rfl
set_option maxRecDepth 100000 in
theorem fNamed : (Rows.datumOrdersRow.named == Tryz.prog.varsNamed 12) = true := by kernel_rfl
set_option maxRecDepth 100000 in
theorem fName : Tryz.prog.funcNamed "longstop/longstoplaw04.DatumOrders" = some 12 := by kernel_rfl
set_option maxRecDepth 100000 in
theorem fGoes : false = Rows.datumOrdersRow.goesBy Tryz.prog := by kernel_rfl
theorem fWrap : Tryz.f12.isWrapper Tryz.pinned.checked.prog Rows.datumOrdersRow.wrapper Rows.datumOrdersRow.mainSum := by unfold Func.isWrapper; first | (rw [if_pos (by decide +kernel)]; kernel_rfl) | (rw [if_neg (by decide +kernel)]; exact ⟨rfl, rfl⟩)
open Go.Proofs.YtnchjdhepakokaaGreatDoorJ in
set_option maxRecDepth 100000 in
theorem closed : joinedFacts Tryz.prog 12 Tryz.f12 Rows.datumOrdersSpec Rows.datumOrdersRow = true := by
  unfold joinedFacts
  exact (bt (bt (bt (bt (bt (bt (bt (bt (bt (bt (bt (bt (bt (bt (bt (bt (bt (bt (bt (bt (bt (bt (bt (bt (bt (bt (bt (bt (bt (bt (bt (by kernel_rfl) pLaid) pMaps) (by kernel_rfl)) (by kernel_rfl)) (by kernel_rfl)) pStops) (by kernel_rfl)) pKnobs) fInPlace) fUnf) fRec) fNamed) (by kernel_rfl)) (by kernel_rfl)) (by kernel_rfl)) (by kernel_rfl)) (by kernel_rfl)) (by kernel_rfl)) (by kernel_rfl)) (by kernel_rfl)) (by kernel_rfl)) pKeys) (by kernel_rfl)) pHeard) pMay) pLifts) pMake) (by kernel_rfl)) (by kernel_rfl)) (by kernel_rfl)) (by kernel_rfl))
theorem over : Rows.datumOrdersRow.holds Tryz.pinned (OpenSpec.ofChange Rows.datumOrdersSpec) :=
  OpenClaim.holds_of_wide 12 Tryz.f12 rfl rfl rfl rfl rfl rfl rfl ⟨rfl, rfl, rfl, rfl, rfl⟩ rfl rfl rfl rfl rfl fName Tryz.func12 closed
    (of_decide_eq_true (by kernel_rfl)) fWrap
    (fun os started H enc _ => lifted os started H enc)
set_option maxRecDepth 100000 in
theorem card : Rows.DatumOrdersCardSaid :=
  Claim7.holds_tied_plain_at .later [] [.data, .data, .data, .data, .sentinel, .sentinel, .data, .pinned] true (true, "78437c3b7531760fed31a8607bae3fb8ec3b4f916377ea75976054335517be10") true
    over (fun _ h => by cases h) (by kernel_rfl) (fun _ h => by cases h) datumOrders_row_tie rfl ⟨rfl, rfl⟩ Go.Proofs.YtnchjdhepakokaaGreatDoorJ.pMain rfl
    (fun f fn hf hfn => by
      obtain rfl : f = 12 := Option.some.inj ((show Tryz.prog.funcNamed "longstop/longstoplaw04.DatumOrders" = some 12 from fName).symm.trans hf) |>.symm
      obtain rfl : fn = Tryz.f12 := (Option.some.inj (Tryz.func12.symm.trans hfn)).symm
      exact ⟨Go.Proofs.YtnchjdhepakokaaGreatDoorJ.pLooks, fun j t ht => by
        rw [Tryz.params12] at ht
        have hm : t ∈ [22, 22] := by simpa using Array.mem_of_getElem? ht
        have hall : ([22, 22].all fun u => !Tryz.prog.wantsStandIn u) = true := by kernel_rfl
        exact (show Tryz.prog.wantsStandIn t = false by simpa using List.all_eq_true.1 hall t hm)⟩)
    fGoes
end Go.Proofs.YtnchjdhepakokaaGreatDoor.datumOrders
namespace Go.Proofs.YtnchjdhepakokaaGreatDoor
/-- The row, under a short name, for the claim. -/
theorem datumOrders_holds : Rows.DatumOrdersCardSaid := datumOrders.card
end Go.Proofs.YtnchjdhepakokaaGreatDoor
