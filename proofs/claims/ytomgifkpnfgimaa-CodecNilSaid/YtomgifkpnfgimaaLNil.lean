/- CodecNil, in plain terms: of no reader, and of one that nobody made, nothing is read. -/
import Derived.Test.YtomgifkpnfgimaaSB
import Derived.Test.YtomgifkpnfgimaaPD
namespace Go.Proofs.YtomgifkpnfgimaaC
open Go.Proofs Go.Proofs.YtomgifkpnfgimaaSx Go.RowKit
set_option maxRecDepth 100000
set_option linter.unusedVariables false
theorem nil_does : Does cE 7 [] 0 [] (.v (.bool true)) [] 0 := by
  refine does_of_fin (fn := Try.f7) (c := bd Try.f7) rfl (by kernel_rfl) rfl ?_
  refine nil0_1 _ _ _ ?_
  refine fin_loop 3 (fin_round ?_)
  refine nil1_6 2 0 (ByteArray.mk #[]) 0 1 1 _ _ _ e23_1 (by decide) e24_1 (by kernel_rfl) e26_1 (by decide) e27_1 (by decide) e25_1 (by decide) ?_
  refine fin_round ?_
  refine nil2_1 1 _ _ _ ?_
  refine fin_round ?_
  exact nil3_1 0 true knows_spec
theorem nil_true (W : World) : Calls Try.prog 7 #[] W fun e w' => e = .returned (.bool true) ∧ Below W.heap.size W w' :=
  law_calls (E := cE) (l := []) (enters (fn := Try.f7) rfl (by kernel_rfl) rfl) nil_does W
end Go.Proofs.YtomgifkpnfgimaaC
