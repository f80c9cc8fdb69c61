/- What the listed package-level variables hold: the tables of powers of ten, cell for cell. -/
import Derived.Test.YtcneenlcbjicnaaDoorPA
import Derived.Test.YtcneenlcbjicnaaDoorRows
import Derived.Lib.LaidTab
import Derived.ProofKit
import Derived.MakeChecks
import Derived.Stop.LaidErr
namespace Go.Proofs.YtcneenlcbjicnaaDoorC
open Go.Proofs Go.Proofs.YtcneenlcbjicnaaDoorSx Go.Proofs.YtcneenlcbjicnaaDoor
set_option maxRecDepth 100000
abbrev laid4 : List (String × DataW Unit) := [("math/bits.deBruijn32tab", Rows.laid_math_bits_deBruijn32tab), ("math/bits.deBruijn64tab", Rows.laid_math_bits_deBruijn64tab), ("internal/strconv.uint64pow10", Rows.laid_internal_strconv_uint64pow10), ("longstop/decimal.powers", Rows.laid_longstop_decimal_powers)]
theorem gPowers : Tryd.prog.globalNamed "longstop/decimal.powers" = some 0 := by kernel_rfl
theorem gTens : Tryd.prog.globalNamed "internal/strconv.uint64pow10" = some 2 := by kernel_rfl
theorem tab_block {P : Program} {w : World} {n : String} {k : IntKind} {zs : List Int} {g : Nat} (h : Lib.TabIs P w n k zs) (hg : P.globalNamed n = some g) : ∃ t f, w.heap[g]? = some (.cells (zs.map (Value.int k)).toArray t f) := by
  unfold Lib.TabIs World.var? at h
  rw [hg] at h
  simp only [Option.bind_some] at h
  split at h
  · rename_i cs t f hb
    simp only [Option.some.injEq] at h
    exact ⟨t, f, by rw [hb, h]⟩
  · cases h
theorem tab_back {P : Program} {w : World} {n : String} {k : IntKind} {zs : List Int} {g : Nat} {t : TypeId} {f : Nat × Nat} (hg : P.globalNamed n = some g) (h : w.heap[g]? = some (.cells (zs.map (Value.int k)).toArray t f)) : Lib.TabIs P w n k zs := by
  unfold Lib.TabIs World.var?
  rw [hg]
  simp only [Option.bind_some, h]
theorem glob_in {W : World} (h : laidMetH Tryd.prog laid4 W) : GlobIn cE W := by
  rw [MakeChecks.laidMetH_plain _ _ _ (by kernel_rfl)] at h
  have h3 : laidMet Tryd.prog [("longstop/decimal.powers", Lib.tabData .u64 pow10)] W := laidMet.tail (laidMet.tail (laidMet.tail h))
  have hT := Lib.tabIs_of_head (n := 13) gPowers (t := 66) (e := 60) (by kernel_rfl) (by kernel_rfl) (by kernel_rfl) (by kernel_rfl) (by kernel_rfl) h3
  have h2 : laidMet Tryd.prog [("internal/strconv.uint64pow10", Lib.tabData .u64 Lib.pow10Tab), ("longstop/decimal.powers", Lib.tabData .u64 pow10)] W := laidMet.tail (laidMet.tail h)
  have hU := Lib.tabIs_of_head (n := 20) gTens (t := 122) (e := 60) (by kernel_rfl) (by kernel_rfl) (by kernel_rfl) (by kernel_rfl) (by kernel_rfl) h2
  intro g vs hv
  by_cases hg : g = 0
  · subst hg
    have e : cE.gl 0 = .ints .u64 pow10 := rfl
    rw [e] at hv
    simp only [glAll, Option.some.injEq] at hv
    subst hv
    exact tab_block hT gPowers
  · by_cases hg2 : g = 2
    · subst hg2
      have e : cE.gl 2 = .ints .u64 Lib.pow10Tab := rfl
      rw [e] at hv
      simp only [glAll, Option.some.injEq] at hv
      subst hv
      exact tab_block hU gTens
    · have e : cE.gl g = .no := by
        show (bif Nat.beq g 0 then _ else bif Nat.beq g 2 then _ else _) = _
        have : Nat.beq g 0 = false := nbeq_ne hg
        rw [this]
        have : Nat.beq g 2 = false := nbeq_ne hg2
        rw [this]
        rfl
      rw [e] at hv
      cases hv
theorem tens_in {W : World} (h : GlobIn cE W) : Lib.TabIs Tryd.prog W "internal/strconv.uint64pow10" .u64 Lib.pow10Tab := by
  obtain ⟨t, f, hb⟩ := h 2 _ rfl
  exact tab_back gTens hb
end Go.Proofs.YtcneenlcbjicnaaDoorC
