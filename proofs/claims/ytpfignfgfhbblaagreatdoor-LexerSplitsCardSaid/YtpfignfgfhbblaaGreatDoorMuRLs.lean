import Derived.Test.YtpfignfgfhbblaaGreatDoorMu14
import Derived.Test.YtpfignfgfhbblaaGreatDoorRows
import Derived.ProofKit
import Derived.Lib.SmallJoins
import Derived.Test.YtpfignfgfhbblaaGreatDoorTie
import Derived.Test.YtpfignfgfhbblaaGreatDoorCards
import Derived.SevenTiedAt
import Derived.LaidMore
import Derived.OpenShut
import Derived.Stop.Joined
import Derived.Lay
import Derived.MakeChecks
/- LexerSplits: whatever the input, the law answers true and leaves its arguments as they were. -/
namespace Go.Proofs.YtpfignfgfhbblaaGreatDoor.lexerSplits
open Go.ChangeShapes Go.WideShapes Go.ChangeAt Go.RowKit Go.Joins
open Go.ChangeMaps (open_string shut_string)
set_option linter.unusedVariables false
theorem own : ownKnob Tryz.prog.godebug = none := by kernel_rfl
set_option maxRecDepth 100000 in
theorem lifted (os : Os) (started : os.Started) (H : Type) (enc : TypeId × Value → H) :
    ReturnsInHanded {} Tryz.checked os 4 .any (fun w args => (Rows.lexerSplitsSpec.pre enc Tryz.prog Tryz.f4 [] false w args ∧ laidMetH Tryz.prog YtpfignfgfhbblaaGreatDoorC.laid3 w) ∧ sizedMet enc Tryz.prog Tryz.f4 (OpenSpec.ofChange Rows.lexerSplitsSpec) false w args) (Rows.lexerSplitsSpec.post enc Tryz.prog Tryz.f4 false true false false) := by
  refine YtpfignfgfhbblaaGreatDoorC.handed_shaped (C := Tryz.checked) (X := fun w _ => laidMetH Tryz.prog YtpfignfgfhbblaaGreatDoorC.laid3 w) (fun _ _ _ hh h => h.of_heap hh) own started (by kernel_rfl) Tryz.func4
    (ChangeSpec.witness_shaped (enc := enc) (C := Tryz.checked) (os := os) (X := fun w _ => laidMetH Tryz.prog YtpfignfgfhbblaaGreatDoorC.laid3 w) false (World.laidAll Tryz.prog os YtpfignfgfhbblaaGreatDoorC.laid3) #[.string ByteArray.empty] 8 (World.laidAll_os _ _ _) (World.shaped_of_ZipB (by kernel_rfl) (by kernel_rfl)) (by kernel_rfl) (by kernel_rfl) (by kernel_rfl) (by rw [MakeChecks.laidMetH_plain _ _ _ (by kernel_rfl)]; exact laidMet_laidAll _ (by kernel_rfl) (by kernel_rfl))) ?_
  intro W base args ds gs before hval0 hW hcnd hsz0 hL hsh _
  have hsz : (DataW.weightsEach Tryz.prog (Tryz.f4.params.toList ++ Rows.lexerSplitsSpec.plain.varTypes Tryz.prog) (ds ++ gs)).all (· ≤ reachBytes) = true := hsz0
  have hval : ∀ (j : Nat) t v, Tryz.f4.params[j]? = some t → args[j]? = some v → Value.okWide Tryz.prog W .any base t v := hval0
  have hW' := hW
  obtain ⟨p, q, hA0, hV, rfl, hfz, hnd⟩ := hW
  have hA : DataW.TrodAll enc Tryz.prog W 0 (fun _ => true) true Tryz.f4.params.toList args.toList ds p := hA0
  rw [Tryz.params4] at hA hval hsz
  obtain ⟨v0, vs0, d0, ds0, p0, q0, hargs, rfl, rfl, h0, r0⟩ := trodAll_cons hA
  obtain ⟨rfl, rfl, rfl⟩ := trodAll_nil r0
  obtain rfl : args = #[v0] := by cases args; simp_all
  obtain ⟨rfl, rfl⟩ := trodVars_none hV
  obtain ⟨a0, rfl, rfl, rfl, y0⟩ := open_string Tryz.underlying9 (hval 0 9 v0 rfl rfl) h0
  have w0 : a0.size ≤ 140737488351232 := by
    have z := sized_string hsz (j := 0) (t := 9) rfl rfl
    rw [Array.length_toList] at z
    exact z
  clear hA0 hval0 hsz0 hsz
  refine (YtpfignfgfhbblaaGreatDoorC.splits_true a0 w0 W (YtpfignfgfhbblaaGreatDoorC.glob_in hL hsh)).mono fun e W' ⟨he, bel⟩ => ?_
  subst he
  exact ⟨_, rfl, _, _, _, [], _, [], hW', trodAll_mk1 (shut_bool Tryz.underlying4 _), (trodAll_cons_mk (shut_string Tryz.underlying9 y0) trodAll_mk0), rfl, bel.frame _, fun h => by cases h⟩
set_option maxRecDepth 100000 in
theorem fInPlace : (Rows.lexerSplitsRow.inPlace == Tryz.prog.inPlace 4) = true := by kernel_rfl
set_option maxRecDepth 100000 in
theorem fUnf : (Rows.lexerSplitsRow.unfollowed == Tryz.prog.unfollowed 4) = true := by kernel_rfl
set_option maxRecDepth 100000 in
theorem fRec : (Rows.lexerSplitsRow.recurses == Tryz.prog.recurses 4) = true := by kernel_rfl
set_option maxRecDepth 100000 in
theorem fNamed : (Rows.lexerSplitsRow.named == Tryz.prog.varsNamed 4) = true := by kernel_rfl
set_option maxRecDepth 100000 in
theorem fName : Tryz.prog.funcNamed "longstop/longstoplaw05.LexerSplits" = some 4 := by kernel_rfl
set_option maxRecDepth 100000 in
theorem fGoes : false = Rows.lexerSplitsRow.goesBy Tryz.prog := by kernel_rfl
theorem fWrap : Tryz.f4.isWrapper Tryz.pinned.checked.prog Rows.lexerSplitsRow.wrapper Rows.lexerSplitsRow.mainSum := by unfold Func.isWrapper; first | (rw [if_pos (by decide +kernel)]; kernel_rfl) | (rw [if_neg (by decide +kernel)]; exact ⟨rfl, rfl⟩)
open Go.Proofs.YtpfignfgfhbblaaGreatDoorJ in
set_option maxRecDepth 100000 in
theorem closed : joinedFacts Tryz.prog 4 Tryz.f4 Rows.lexerSplitsSpec Rows.lexerSplitsRow = true := by
  unfold joinedFacts
  exact (bt (bt (bt (bt (bt (bt (bt (bt (bt (bt (bt (bt (bt (bt (bt (bt (bt (bt (bt (bt (bt (bt (bt (bt (bt (bt (bt (bt (bt (bt (bt (by kernel_rfl) pLaid) pMaps) (by kernel_rfl)) (by kernel_rfl)) (by kernel_rfl)) pStops) (by kernel_rfl)) pKnobs) fInPlace) fUnf) fRec) fNamed) (by kernel_rfl)) (by kernel_rfl)) (by kernel_rfl)) (by kernel_rfl)) (by kernel_rfl)) (by kernel_rfl)) (by kernel_rfl)) (by kernel_rfl)) (by kernel_rfl)) pKeys) (by kernel_rfl)) pHeard) pMay) pLifts) pMake) (by kernel_rfl)) (by kernel_rfl)) (by kernel_rfl)) (by kernel_rfl))
theorem over : Rows.lexerSplitsRow.holds Tryz.pinned (OpenSpec.ofChange Rows.lexerSplitsSpec) :=
  OpenClaim.holds_of_wide 4 Tryz.f4 rfl rfl rfl rfl rfl rfl rfl ⟨rfl, rfl, rfl, rfl, rfl⟩ rfl rfl rfl rfl rfl fName Tryz.func4 closed
    (of_decide_eq_true (by kernel_rfl)) fWrap
    (fun os started H enc _ => lifted os started H enc)
set_option maxRecDepth 100000 in
theorem card : Rows.LexerSplitsCardSaid :=
  Claim7.holds_tied_plain_at .later [] [.data, .data, .data, .data, .sentinel, .sentinel, .pinned] true (true, "feaf21c062311904bfd92c7785647edaee1d9319c4fe03e55dc6c16d2606d535") true
    over (fun _ h => by cases h) (by kernel_rfl) (fun _ h => by cases h) lexerSplits_row_tie rfl ⟨rfl, rfl⟩ Go.Proofs.YtpfignfgfhbblaaGreatDoorJ.pMain rfl
    (fun f fn hf hfn => by
      obtain rfl : f = 4 := Option.some.inj ((show Tryz.prog.funcNamed "longstop/longstoplaw05.LexerSplits" = some 4 from fName).symm.trans hf) |>.symm
      obtain rfl : fn = Tryz.f4 := (Option.some.inj (Tryz.func4.symm.trans hfn)).symm
      exact ⟨Go.Proofs.YtpfignfgfhbblaaGreatDoorJ.pLooks, fun j t ht => by
        rw [Tryz.params4] at ht
        have hm : t ∈ [9] := by simpa using Array.mem_of_getElem? ht
        have hall : ([9].all fun u => !Tryz.prog.wantsStandIn u) = true := by kernel_rfl
        exact (show Tryz.prog.wantsStandIn t = false by simpa using List.all_eq_true.1 hall t hm)⟩)
    fGoes
end Go.Proofs.YtpfignfgfhbblaaGreatDoor.lexerSplits
namespace Go.Proofs.YtpfignfgfhbblaaGreatDoor
/-- The row, under a short name, for the claim. -/
theorem lexerSplits_holds : Rows.LexerSplitsCardSaid := lexerSplits.card
end Go.Proofs.YtpfignfgfhbblaaGreatDoor
