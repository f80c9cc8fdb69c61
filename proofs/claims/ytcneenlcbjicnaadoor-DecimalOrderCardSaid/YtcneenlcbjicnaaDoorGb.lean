/- What the listed package-level variables hold: the table of powers of ten, cell for cell. -/
import Derived.Test.YtcneenlcbjicnaaDoorPA
import Derived.Test.YtcneenlcbjicnaaDoorRows
import Derived.Lib.LaidTab
import Derived.ProofKit
import Derived.MakeChecks
import Derived.Stop.LaidErr
namespace Go.Proofs.YtcneenlcbjicnaaDoorC
open Go.Proofs Go.Proofs.YtcneenlcbjicnaaDoorSx Go.Proofs.YtcneenlcbjicnaaDoor
set_option maxRecDepth 100000
abbrev laid4 : List (String × DataW Unit) := [("math/bits.deBruijn32tab", Rows.laid_math_bits_deBruijn32tab), ("math/bits.deBruijn64tab", Rows.laid_math_bits_deBruijn64tab), ("internal/strconv.uint64pow10", Rows.laid_internal_strconv_uint64pow10), ("longstop/decimal.powers", Rows.laid_longstop_decimal_powers)]
theorem gPowers : Tryd.prog.globalNamed "longstop/decimal.powers" = some 0 := by kernel_rfl
theorem glob_in {W : World} (h : laidMetH Tryd.prog laid4 W) : GlobIn cE W := by
  rw [MakeChecks.laidMetH_plain _ _ _ (by kernel_rfl)] at h
  have h3 : laidMet Tryd.prog [("longstop/decimal.powers", Lib.tabData .u64 pow10)] W := laidMet.tail (laidMet.tail (laidMet.tail h))
  have hT := Lib.tabIs_of_head (n := 13) gPowers (t := 66) (e := 60) (by kernel_rfl) (by kernel_rfl) (by kernel_rfl) (by kernel_rfl) (by kernel_rfl) h3
  intro g j v hv
  by_cases hg : g = 0
  · subst hg
    have e : cE.gl 0 = .ints .u64 pow10 := rfl
    rw [e] at hv
    simp only [glCell, Option.map_eq_some_iff] at hv
    obtain ⟨z, hz, rfl⟩ := hv
    have hj : j < pow10.length := (List.getElem?_eq_some_iff.1 hz).1
    have := hT.cell gPowers j hj
    rw [this]
    simp [List.getD, hz]
  · have e : cE.gl g = .no := by
      show (bif Nat.beq g 0 then _ else _) = _
      have : Nat.beq g 0 = false := nbeq_ne hg
      rw [this]
      rfl
    rw [e] at hv
    cases hv
end Go.Proofs.YtcneenlcbjicnaaDoorC
