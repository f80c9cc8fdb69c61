import Derived.Test.YtnchjdhepakokaaGreatDoorOo11
import Derived.KernelRfl
import Derived.Test.YtnchjdhepakokaaGreatDoorRows
import Derived.JoinedOf
import Derived.SevenTiedAt
import Derived.Test.YtnchjdhepakokaaGreatDoorOo05
import Derived.Lib.LaidTab
import Derived.Lib.LaidU8T
import Derived.ProofKit
import Derived.MakeChecks
import Derived.Stop.LaidErr
import Derived.SizedLaws
import Derived.Handed
import Derived.Shelf.Vars
/- datum.Parse of a text with a quote. Printed by a program (wip/tools); Lean checks each. -/
namespace Go.Proofs.YtnchjdhepakokaaGreatDoorC
open Go.Proofs Go.Proofs.YtnchjdhepakokaaGreatDoorSx Go.Lib
set_option maxRecDepth 100000
set_option linter.unusedVariables false
def kDp (z : Nat) : Value :=
  (.tuple #[(.agg #[(.int .i64 (3)), (.int .i64 (0)), (.int .i64 (0)), (.string (ByteArray.mk #[105, 116, 39, 115]))]), (.int .i64 (0))])
theorem kDp_does (z : Nat) : Does cE 39 [] 0 [.v (st (ByteArray.mk #[39, 105, 116, 39, 39, 115, 39]))] (.v (kDp z)) [] 0 := by
  unfold kDp
  exact pth (fn := Tryz.f39) rfl (by kernel_rfl) [.e, .l, .l, .l, .l, .l, .l, .l, .e, .n 30, .l, .l, .l, .l, .l, .l, .l, .l, .l, .l, .l, .l, .l, .l, .l, .l, .l, .l, .l, .l, .l, .l, .l, .l, .l, .l, .l, .l, .e, .l, .l, .l, .l, .l, .l, .l, .l, .l, .l, .l, .l, .c (.v (.bool (true))) [] 0, .l, .l, .l, .l, .e, .e, .l, .l, .l, .l, .l, .l, .l, .l, .l, .l, .l, .l, .c (.v (.bool (true))) [] 0, .l, .l, .l, .l, .l, .c (.v (.string ((ByteArray.mk #[105, 116, 39, 39, 115])))) [] 0, .l, .l, .l, .l] (by kernel_rfl) (cj (by first | decide | exact ⟨by decide, by decide⟩ | exact Nat.le_of_ble_eq_true rfl : (0 : Int) ≤ 0 ∧ (0 : Int) < (((ByteArray.mk #[39, 105, 116, 39, 39, 115, 39]).size : Nat) : Int)) (cj (by first | decide | exact ⟨by decide, by decide⟩ | exact Nat.le_of_ble_eq_true rfl : (0 : Int) ≤ 1 ∧ (1 : Int) < (((ByteArray.mk #[39, 105, 116, 39, 39, 115, 39]).size : Nat) : Int)) (cj (by first | decide | exact ⟨by decide, by decide⟩ | exact Nat.le_of_ble_eq_true rfl : Room (([] : List Int).length + [(((([39, 105, 116, 39, 39, 115, 39] : List UInt8).getD (Int.toNat 1) 0).toNat : Nat) : Int)].length) 1) (cj (by first | decide | exact ⟨by decide, by decide⟩ | exact Nat.le_of_ble_eq_true rfl : (0 : Int) ≤ IntKind.i64.wrap (1 + 1) ∧ IntKind.i64.wrap (1 + 1) < (((ByteArray.mk #[39, 105, 116, 39, 39, 115, 39]).size : Nat) : Int)) (cj (by first | decide | exact ⟨by decide, by decide⟩ | exact Nat.le_of_ble_eq_true rfl : Room (([] ++ [(((([39, 105, 116, 39, 39, 115, 39] : List UInt8).getD (Int.toNat 1) 0).toNat : Nat) : Int)]).length + [(((([39, 105, 116, 39, 39, 115, 39] : List UInt8).getD (IntKind.i64.wrap (1 + 1)).toNat 0).toNat : Nat) : Int)].length) 1) (cj (by first | decide | exact ⟨by decide, by decide⟩ | exact Nat.le_of_ble_eq_true rfl : (0 : Int) ≤ IntKind.i64.wrap (IntKind.i64.wrap (1 + 1) + 1) ∧ IntKind.i64.wrap (IntKind.i64.wrap (1 + 1) + 1) < (((ByteArray.mk #[39, 105, 116, 39, 39, 115, 39]).size : Nat) : Int)) (cj (by first | decide | exact ⟨by decide, by decide⟩ | exact Nat.le_of_ble_eq_true rfl : (0 : Int) ≤ IntKind.i64.wrap (IntKind.i64.wrap (IntKind.i64.wrap (1 + 1) + 1) + 1) ∧ IntKind.i64.wrap (IntKind.i64.wrap (IntKind.i64.wrap (1 + 1) + 1) + 1) < (((ByteArray.mk #[39, 105, 116, 39, 39, 115, 39]).size : Nat) : Int)) (cj (by first | decide | exact ⟨by decide, by decide⟩ | exact Nat.le_of_ble_eq_true rfl : Room (([] ++ [(((([39, 105, 116, 39, 39, 115, 39] : List UInt8).getD (Int.toNat 1) 0).toNat : Nat) : Int)] ++ [(((([39, 105, 116, 39, 39, 115, 39] : List UInt8).getD (IntKind.i64.wrap (1 + 1)).toNat 0).toNat : Nat) : Int)]).length + [(((([39, 105, 116, 39, 39, 115, 39] : List UInt8).getD (IntKind.i64.wrap (IntKind.i64.wrap (1 + 1) + 1)).toNat 0).toNat : Nat) : Int)].length) 1) (cj (by first | decide | exact ⟨by decide, by decide⟩ | exact Nat.le_of_ble_eq_true rfl : (0 : Int) ≤ IntKind.i64.wrap (IntKind.i64.wrap (IntKind.i64.wrap (IntKind.i64.wrap (1 + 1) + 1) + 1) + 1) ∧ IntKind.i64.wrap (IntKind.i64.wrap (IntKind.i64.wrap (IntKind.i64.wrap (1 + 1) + 1) + 1) + 1) < (((ByteArray.mk #[39, 105, 116, 39, 39, 115, 39]).size : Nat) : Int)) (cj (by first | decide | exact ⟨by decide, by decide⟩ | exact Nat.le_of_ble_eq_true rfl : Room (([] ++ [(((([39, 105, 116, 39, 39, 115, 39] : List UInt8).getD (Int.toNat 1) 0).toNat : Nat) : Int)] ++ [(((([39, 105, 116, 39, 39, 115, 39] : List UInt8).getD (IntKind.i64.wrap (1 + 1)).toNat 0).toNat : Nat) : Int)] ++ [(((([39, 105, 116, 39, 39, 115, 39] : List UInt8).getD (IntKind.i64.wrap (IntKind.i64.wrap (1 + 1) + 1)).toNat 0).toNat : Nat) : Int)]).length + [(((([39, 105, 116, 39, 39, 115, 39] : List UInt8).getD (IntKind.i64.wrap (IntKind.i64.wrap (IntKind.i64.wrap (IntKind.i64.wrap (1 + 1) + 1) + 1) + 1)).toNat 0).toNat : Nat) : Int)].length) 1) (cj (by first | decide | exact ⟨by decide, by decide⟩ | exact Nat.le_of_ble_eq_true rfl : (0 : Int) ≤ IntKind.i64.wrap (IntKind.i64.wrap (IntKind.i64.wrap (IntKind.i64.wrap (IntKind.i64.wrap (1 + 1) + 1) + 1) + 1) + 1) ∧ IntKind.i64.wrap (IntKind.i64.wrap (IntKind.i64.wrap (IntKind.i64.wrap (IntKind.i64.wrap (1 + 1) + 1) + 1) + 1) + 1) < (((ByteArray.mk #[39, 105, 116, 39, 39, 115, 39]).size : Nat) : Int)) (cj (by first | exact kn_rep | exact kn_valid | exact kn_parse | exact kn_print | exact rp_of (by kernel_rfl) | exact vd_of (by kernel_rfl) | decide | omega : Does cE 125 [] 0 [.v (.string (bytesOf ([] ++ [(((([39, 105, 116, 39, 39, 115, 39] : List UInt8).getD (Int.toNat 1) 0).toNat : Nat) : Int)] ++ [(((([39, 105, 116, 39, 39, 115, 39] : List UInt8).getD (IntKind.i64.wrap (1 + 1)).toNat 0).toNat : Nat) : Int)] ++ [(((([39, 105, 116, 39, 39, 115, 39] : List UInt8).getD (IntKind.i64.wrap (IntKind.i64.wrap (1 + 1) + 1)).toNat 0).toNat : Nat) : Int)] ++ [(((([39, 105, 116, 39, 39, 115, 39] : List UInt8).getD (IntKind.i64.wrap (IntKind.i64.wrap (IntKind.i64.wrap (IntKind.i64.wrap (1 + 1) + 1) + 1) + 1)).toNat 0).toNat : Nat) : Int)])))] (.v (.bool (true))) [] 0) (cj (by first | exact kn_rep | exact kn_valid | exact kn_parse | exact kn_print | exact rp_of (by kernel_rfl) | exact vd_of (by kernel_rfl) | decide | omega : Does cE 125 [] 0 [.v (.string (bytesOf ([] ++ [(((([39, 105, 116, 39, 39, 115, 39] : List UInt8).getD (Int.toNat 1) 0).toNat : Nat) : Int)] ++ [(((([39, 105, 116, 39, 39, 115, 39] : List UInt8).getD (IntKind.i64.wrap (1 + 1)).toNat 0).toNat : Nat) : Int)] ++ [(((([39, 105, 116, 39, 39, 115, 39] : List UInt8).getD (IntKind.i64.wrap (IntKind.i64.wrap (1 + 1) + 1)).toNat 0).toNat : Nat) : Int)] ++ [(((([39, 105, 116, 39, 39, 115, 39] : List UInt8).getD (IntKind.i64.wrap (IntKind.i64.wrap (IntKind.i64.wrap (IntKind.i64.wrap (1 + 1) + 1) + 1) + 1)).toNat 0).toNat : Nat) : Int)])))] (.v (.bool (true))) [] 0) (cj (by first | exact kn_rep | exact kn_valid | exact kn_parse | exact kn_print | exact rp_of (by kernel_rfl) | exact vd_of (by kernel_rfl) | decide | omega : Does cE 114 [] 0 [.v (.string (bytesOf ([] ++ [(((([39, 105, 116, 39, 39, 115, 39] : List UInt8).getD (Int.toNat 1) 0).toNat : Nat) : Int)] ++ [(((([39, 105, 116, 39, 39, 115, 39] : List UInt8).getD (IntKind.i64.wrap (1 + 1)).toNat 0).toNat : Nat) : Int)] ++ [(((([39, 105, 116, 39, 39, 115, 39] : List UInt8).getD (IntKind.i64.wrap (IntKind.i64.wrap (1 + 1) + 1)).toNat 0).toNat : Nat) : Int)] ++ [(((([39, 105, 116, 39, 39, 115, 39] : List UInt8).getD (IntKind.i64.wrap (IntKind.i64.wrap (IntKind.i64.wrap (IntKind.i64.wrap (1 + 1) + 1) + 1) + 1)).toNat 0).toNat : Nat) : Int)]))), .v (.string ((ByteArray.mk #[39]))), .v (.string ((ByteArray.mk #[39, 39])))] (.v (.string ((ByteArray.mk #[105, 116, 39, 39, 115])))) [] 0) (cj (by first | decide | exact ⟨by decide, by decide⟩ | exact Nat.le_of_ble_eq_true rfl : (ByteArray.mk #[39]).size + (ByteArray.mk #[105, 116, 39, 39, 115]).size ≤ 9223372036854775807) (cj (by first | decide | exact ⟨by decide, by decide⟩ | exact Nat.le_of_ble_eq_true rfl : ((ByteArray.mk #[39]) ++ (ByteArray.mk #[105, 116, 39, 39, 115])).size + (ByteArray.mk #[39]).size ≤ 9223372036854775807) cj0))))))))))))))))
end Go.Proofs.YtnchjdhepakokaaGreatDoorC
/- datum.Print of a text with a quote. Printed by a program (wip/tools); Lean checks each. -/
namespace Go.Proofs.YtnchjdhepakokaaGreatDoorC
open Go.Proofs Go.Proofs.YtnchjdhepakokaaGreatDoorSx Go.Lib
set_option maxRecDepth 100000
set_option linter.unusedVariables false
def kDr (z : Nat) : Value :=
  (.string ((ByteArray.mk #[39]) ++ (ByteArray.mk #[105, 116, 39, 39, 115]) ++ (ByteArray.mk #[39])))
theorem kDr_does (z : Nat) : Does cE 41 [] 0 [.v (vl 3 0 0 (ByteArray.mk #[105, 116, 39, 115]))] (.v (kDr z)) [] 0 := by
  unfold kDr
  exact pth (fn := Tryz.f41) rfl (by kernel_rfl) [.e, .l, .l, .l, .l, .l, .l, .l, .l, .l, .l, .l, .l, .c (.v (.bool (true))) [] 0, .l, .l, .l, .l, .l, .c (.v (.string ((ByteArray.mk #[105, 116, 39, 39, 115])))) [] 0] (by kernel_rfl) (cj (by first | exact kn_rep | exact kn_valid | exact kn_parse | exact kn_print | exact rp_of (by kernel_rfl) | exact vd_of (by kernel_rfl) | decide | omega : Does cE 125 [] 0 [.v (.string ((ByteArray.mk #[105, 116, 39, 115])))] (.v (.bool (true))) [] 0) (cj (by first | exact kn_rep | exact kn_valid | exact kn_parse | exact kn_print | exact rp_of (by kernel_rfl) | exact vd_of (by kernel_rfl) | decide | omega : Does cE 114 [] 0 [.v (.string ((ByteArray.mk #[105, 116, 39, 115]))), .v (.string ((ByteArray.mk #[39]))), .v (.string ((ByteArray.mk #[39, 39])))] (.v (.string ((ByteArray.mk #[105, 116, 39, 39, 115])))) [] 0) (cj (by first | decide | exact ⟨by decide, by decide⟩ | exact Nat.le_of_ble_eq_true rfl : (ByteArray.mk #[39]).size + (ByteArray.mk #[105, 116, 39, 39, 115]).size ≤ 9223372036854775807) (cj (by first | decide | exact ⟨by decide, by decide⟩ | exact Nat.le_of_ble_eq_true rfl : ((ByteArray.mk #[39]) ++ (ByteArray.mk #[105, 116, 39, 39, 115])).size + (ByteArray.mk #[39]).size ≤ 9223372036854775807) cj0))))
end Go.Proofs.YtnchjdhepakokaaGreatDoorC
/- For datum's closed run: the text that is read, and the value that is printed. -/
namespace Go.Proofs.YtnchjdhepakokaaGreatDoorC
open Go.Proofs Go.Proofs.YtnchjdhepakokaaGreatDoorSx Go.Lib
set_option maxRecDepth 100000
theorem kn_parse : Does cE 39 [] 0 [.v (st (ByteArray.mk #[39, 105, 116, 39, 39, 115, 39]))] (.v (.tuple #[vl 3 0 0 (ByteArray.mk #[105, 116, 39, 115]), it 0])) [] 0 := kDp_does 0
theorem kn_print : Does cE 41 [] 0 [.v (vl 3 0 0 (ByteArray.mk #[105, 116, 39, 115]))] (.v (st (ByteArray.mk #[39, 105, 116, 39, 39, 115, 39]))) [] 0 := kDr_does 0
end Go.Proofs.YtnchjdhepakokaaGreatDoorC
/- What the laws of datum know. Printed by a program (wip/tools); Lean checks each. -/
namespace Go.Proofs.YtnchjdhepakokaaGreatDoorC
open Go.Proofs Go.Proofs.YtnchjdhepakokaaGreatDoorSx Go.Lib
set_option maxRecDepth 100000
set_option linter.unusedVariables false
def kDk (z : Nat) : Value :=
  (.bool (IntKind.i64.wrap (1 - 0) == 1))
theorem kDk_does (z : Nat) : Does cE 44 [] 0 [] (.v (kDk z)) [] 0 := by
  unfold kDk
  exact pth (fn := Tryz.f44) rfl (by kernel_rfl) [.c (.v (.tuple #[(.agg #[(.int .i64 (3)), (.int .i64 (0)), (.int .i64 (0)), (.string ((ByteArray.mk #[105, 116, 39, 115])))]), (.int .i64 (0))])) [] 0, .e, .e, .l, .e, .l, .l, .e, .e, .n 30, .l, .l, .e, .e, .l, .l, .l, .l, .l, .l, .l, .l, .l, .l, .l, .l, .c (.v (.bool (true))) [] 0, .l, .l, .l, .l, .l, .l, .l, .l, .e, .l, .l, .n 30, .l, .l, .n 30, .l, .l, .e, .l, .l, .n 30, .l, .l, .l, .l, .l, .l, .l, .e, .l, .e, .l, .l, .n 30, .l, .l, .l, .l, .e, .e, .l, .l, .l, .l, .l, .l, .c (.v (.string ((ByteArray.mk #[39, 105, 116, 39, 39, 115, 39])))) [] 0, .l, .l, .l, .l, .l, .l, .l, .e, .e, .e, .l, .l, .l, .l, .l, .e, .e, .l, .l, .l, .l, .l, .e, .e, .l, .l, .l, .l, .e, .l, .l, .l, .l, .l, .l, .l, .l, .e, .e, .l, .l, .l, .l, .l, .l, .l, .l, .e, .e, .l, .l, .l, .l, .e, .l, .l, .l, .l, .l, .l, .l, .l, .l, .l, .l, .e, .e, .l, .l, .l, .l, .l, .l, .l] (by kernel_rfl) (cj (by first | exact kn_rep | exact kn_valid | exact kn_parse | exact kn_print | exact rp_of (by kernel_rfl) | exact vd_of (by kernel_rfl) | decide | omega : Does cE 39 [] 0 [.v (.string ((ByteArray.mk #[39, 105, 116, 39, 39, 115, 39])))] (.v (.tuple #[(.agg #[(.int .i64 (3)), (.int .i64 (0)), (.int .i64 (0)), (.string ((ByteArray.mk #[105, 116, 39, 115])))]), (.int .i64 (0))])) [] 0) (cj (by first | decide | exact ⟨by decide, by decide⟩ | exact Nat.le_of_ble_eq_true rfl : (0 : Int) ≤ 0 ∧ (0 : Int) < ((1 : Nat) : Int)) (cj (by first | exact kn_rep | exact kn_valid | exact kn_parse | exact kn_print | exact rp_of (by kernel_rfl) | exact vd_of (by kernel_rfl) | decide | omega : Does cE 125 [] 0 [.v (.string ((ByteArray.mk #[105, 116, 39, 115])))] (.v (.bool (true))) [] 0) (cj (by first | decide | exact ⟨by decide, by decide⟩ | exact Nat.le_of_ble_eq_true rfl : Room (([] : List Int).length + [IntKind.u8.wrap (IntKind.u64.wrap (((BitVec.ofInt 64 (IntKind.u64.wrap (IntKind.u64.wrap ((1 : Nat) : Int) * 2 ^ 1)) ^^^ BitVec.ofInt 64 (IntKind.u64.wrap ((((1 : Nat) : Int)).fdiv (2 ^ 63)))).toNat : Nat) : Int))].length) 1) (cj (by first | decide | exact ⟨by decide, by decide⟩ | exact Nat.le_of_ble_eq_true rfl : (0 : Int) ≤ 0 ∧ (0 : Int) < ((1 : Nat) : Int)) (cj (by first | decide | exact ⟨by decide, by decide⟩ | exact Nat.le_of_ble_eq_true rfl : Room (([] : List Int).length + [IntKind.u8.wrap (IntKind.u64.wrap (((BitVec.ofInt 64 (IntKind.u64.wrap (IntKind.u64.wrap 3 * 2 ^ 1)) ^^^ BitVec.ofInt 64 (IntKind.u64.wrap (Int.fdiv 3 (2 ^ 63)))).toNat : Nat) : Int))].length) 1) (cj (by first | decide | exact ⟨by decide, by decide⟩ | exact Nat.le_of_ble_eq_true rfl : Room (([] ++ [IntKind.u8.wrap (IntKind.u64.wrap (((BitVec.ofInt 64 (IntKind.u64.wrap (IntKind.u64.wrap ((1 : Nat) : Int) * 2 ^ 1)) ^^^ BitVec.ofInt 64 (IntKind.u64.wrap ((((1 : Nat) : Int)).fdiv (2 ^ 63)))).toNat : Nat) : Int))]).length + ([] ++ [IntKind.u8.wrap (IntKind.u64.wrap (((BitVec.ofInt 64 (IntKind.u64.wrap (IntKind.u64.wrap 3 * 2 ^ 1)) ^^^ BitVec.ofInt 64 (IntKind.u64.wrap (Int.fdiv 3 (2 ^ 63)))).toNat : Nat) : Int))]).length) 1) (cj (by first | decide | exact ⟨by decide, by decide⟩ | exact Nat.le_of_ble_eq_true rfl : Room (([] : List Int).length + [IntKind.u8.wrap (IntKind.u64.wrap (((BitVec.ofInt 64 (IntKind.u64.wrap (IntKind.u64.wrap (((ByteArray.mk #[105, 116, 39, 115]).size : Nat) : Int) * 2 ^ 1)) ^^^ BitVec.ofInt 64 (IntKind.u64.wrap (((((ByteArray.mk #[105, 116, 39, 115]).size : Nat) : Int)).fdiv (2 ^ 63)))).toNat : Nat) : Int))].length) 1) (cj (by first | decide | exact ⟨by decide, by decide⟩ | exact Nat.le_of_ble_eq_true rfl : Room (([] ++ [IntKind.u8.wrap (IntKind.u64.wrap (((BitVec.ofInt 64 (IntKind.u64.wrap (IntKind.u64.wrap (((ByteArray.mk #[105, 116, 39, 115]).size : Nat) : Int) * 2 ^ 1)) ^^^ BitVec.ofInt 64 (IntKind.u64.wrap (((((ByteArray.mk #[105, 116, 39, 115]).size : Nat) : Int)).fdiv (2 ^ 63)))).toNat : Nat) : Int))]).length + (strL (ByteArray.mk #[105, 116, 39, 115])).length) 1) (cj (by first | decide | exact ⟨by decide, by decide⟩ | exact Nat.le_of_ble_eq_true rfl : Room (([] ++ [IntKind.u8.wrap (IntKind.u64.wrap (((BitVec.ofInt 64 (IntKind.u64.wrap (IntKind.u64.wrap ((1 : Nat) : Int) * 2 ^ 1)) ^^^ BitVec.ofInt 64 (IntKind.u64.wrap ((((1 : Nat) : Int)).fdiv (2 ^ 63)))).toNat : Nat) : Int))] ++ ([] ++ [IntKind.u8.wrap (IntKind.u64.wrap (((BitVec.ofInt 64 (IntKind.u64.wrap (IntKind.u64.wrap 3 * 2 ^ 1)) ^^^ BitVec.ofInt 64 (IntKind.u64.wrap (Int.fdiv 3 (2 ^ 63)))).toNat : Nat) : Int))])).length + ([] ++ [IntKind.u8.wrap (IntKind.u64.wrap (((BitVec.ofInt 64 (IntKind.u64.wrap (IntKind.u64.wrap (((ByteArray.mk #[105, 116, 39, 115]).size : Nat) : Int) * 2 ^ 1)) ^^^ BitVec.ofInt 64 (IntKind.u64.wrap (((((ByteArray.mk #[105, 116, 39, 115]).size : Nat) : Int)).fdiv (2 ^ 63)))).toNat : Nat) : Int))] ++ strL (ByteArray.mk #[105, 116, 39, 115])).length) 1) (cj (by first | exact kn_rep | exact kn_valid | exact kn_parse | exact kn_print | exact rp_of (by kernel_rfl) | exact vd_of (by kernel_rfl) | decide | omega : Does cE 41 [] 0 [.v (.agg #[(.int .i64 (3)), (.int .i64 (0)), (.int .i64 (0)), (.string ((ByteArray.mk #[105, 116, 39, 115])))])] (.v (.string ((ByteArray.mk #[39, 105, 116, 39, 39, 115, 39])))) [] 0) cj0)))))))))))
end Go.Proofs.YtnchjdhepakokaaGreatDoorC
/- What the laws of datum know. -/
namespace Go.Proofs.YtnchjdhepakokaaGreatDoorC
open Go.Proofs Go.Proofs.YtnchjdhepakokaaGreatDoorSx Go.Lib
theorem dknows_does : Does cE 44 [] 0 [] (.v (.bool true)) [] 0 := kDk_does 0
end Go.Proofs.YtnchjdhepakokaaGreatDoorC
/- The law of order. Printed by a program (wip/tools); Lean checks each. -/
namespace Go.Proofs.YtnchjdhepakokaaGreatDoorC
open Go.Proofs Go.Proofs.YtnchjdhepakokaaGreatDoorSx Go.Lib
set_option maxRecDepth 100000
set_option linter.unusedVariables false
def lOr (k n m j p q a b c : Int) (s u t : ByteArray) : Value :=
  bif (!okV k n m s) then (.bool (true))
  else bif (!okV j p q u) then (.bool (true))
    else bif (!okV a b c t) then (.bool (true))
      else bif (cpV j p q u k n m s == IntKind.i64.wrap (0 - cpV k n m s j p q u)) then bif ((cpV k n m s j p q u == 0) == sameV k n m s j p q u) then bif (decide (cpV k n m s j p q u > 0)) then bif (decide (cpV k n m s j p q u < 0)) then (.bool (true))
              else bif (decide (cpV j p q u a b c t < 0)) then (.bool (true))
                else bif (decide (cpV k n m s a b c t ≥ 0)) then (.bool (true))
                  else (.bool (false))
            else bif (decide (cpV j p q u a b c t > 0)) then bif (decide (cpV k n m s j p q u < 0)) then (.bool (true))
                else bif (decide (cpV j p q u a b c t < 0)) then (.bool (true))
                  else bif (decide (cpV k n m s a b c t ≥ 0)) then (.bool (true))
                    else (.bool (false))
              else bif (decide (cpV k n m s a b c t ≤ 0)) then bif (decide (cpV k n m s j p q u < 0)) then (.bool (true))
                  else bif (decide (cpV j p q u a b c t < 0)) then (.bool (true))
                    else bif (decide (cpV k n m s a b c t ≥ 0)) then (.bool (true))
                      else (.bool (false))
                else (.bool (false))
          else (.bool (false))
        else (.bool (false))
theorem lOr_does (k n m j p q a b c : Int) (s u t : ByteArray) (hn : I64 n) (hm : I64 m) (hs : s.size ≤ 140737488351232) (hp : I64 p) (hq : I64 q) (hu : u.size ≤ 140737488351232) (hb : I64 b) (hc : I64 c) (ht : t.size ≤ 140737488351232) : Does cE 11 [] 0 [.v (vl k n m s), .v (vl j p q u), .v (vl a b c t)] (.v (lOr k n m j p q a b c s u t)) [] 0 := by
  unfold lOr
  refine tbif (fun c1 => ?_) (fun c1 => ?_)
  · exact pth (fn := Tryz.f11) rfl (by kernel_rfl) [.c (.v (.bool (okV k n m s))) [] 0, .t, .t, .t, .t, .l, .l, .l, .l, .l, .c (.v (.bool (true))) [] 0] (by kernel_rfl) (cj (right4_does (k) (n) (m) (s) (by first | assumption | decide)) (cj c1 (cj c1 (cj c1 (cj c1 (cj (dknows_does) cj0))))))
  · refine tbif (fun c2 => ?_) (fun c2 => ?_)
    · exact pth (fn := Tryz.f11) rfl (by kernel_rfl) [.c (.v (.bool (okV k n m s))) [] 0, .f, .f, .c (.v (.bool (okV j p q u))) [] 0, .f, .f, .t, .t, .t, .t, .l, .c (.v (.bool (true))) [] 0] (by kernel_rfl) (cj (right4_does (k) (n) (m) (s) (by first | assumption | decide)) (cj c1 (cj c1 (cj (right4_does (j) (p) (q) (u) (by first | assumption | decide)) (cj c1 (cj c1 (cj c2 (cj c2 (cj c2 (cj c2 (cj (dknows_does) cj0)))))))))))
    · refine tbif (fun c3 => ?_) (fun c3 => ?_)
      · exact pth (fn := Tryz.f11) rfl (by kernel_rfl) [.c (.v (.bool (okV k n m s))) [] 0, .f, .f, .c (.v (.bool (okV j p q u))) [] 0, .f, .f, .f, .f, .c (.v (.bool (okV a b c t))) [] 0, .f, .f, .t, .c (.v (.bool (true))) [] 0] (by kernel_rfl) (cj (right4_does (k) (n) (m) (s) (by first | assumption | decide)) (cj c1 (cj c1 (cj (right4_does (j) (p) (q) (u) (by first | assumption | decide)) (cj c1 (cj c1 (cj c2 (cj c2 (cj (right4_does (a) (b) (c) (t) (by first | assumption | decide)) (cj c2 (cj c2 (cj c3 (cj (dknows_does) cj0)))))))))))))
      · refine tbif (fun c4 => ?_) (fun c4 => ?_)
        · refine tbif (fun c5 => ?_) (fun c5 => ?_)
          · refine tbif (fun c6 => ?_) (fun c6 => ?_)
            · refine tbif (fun c7 => ?_) (fun c7 => ?_)
              · exact pth (fn := Tryz.f11) rfl (by kernel_rfl) [.c (.v (.bool (okV k n m s))) [] 0, .f, .f, .c (.v (.bool (okV j p q u))) [] 0, .f, .f, .f, .f, .c (.v (.bool (okV a b c t))) [] 0, .f, .f, .f, .c (.v (.int .i64 (cpV k n m s j p q u))) [] 0, .c (.v (.int .i64 (cpV j p q u a b c t))) [] 0, .c (.v (.int .i64 (cpV k n m s a b c t))) [] 0, .c (.v (.int .i64 (cpV j p q u k n m s))) [] 0, .t, .t, .t, .t, .t, .c (.v (.bool (sameV k n m s j p q u))) [] 0, .t, .t, .t, .t, .t, .t, .t, .t, .t, .t, .l, .l, .t, .l, .t, .l, .l, .l, .t, .t, .l, .t, .l, .l, .l, .l, .l, .l, .l, .c (.v (.bool (true))) [] 0, .l] (by kernel_rfl) (cj (right4_does (k) (n) (m) (s) (by first | assumption | decide)) (cj c1 (cj c1 (cj (right4_does (j) (p) (q) (u) (by first | assumption | decide)) (cj c1 (cj c1 (cj c2 (cj c2 (cj (right4_does (a) (b) (c) (t) (by first | assumption | decide)) (cj c2 (cj c2 (cj c3 (cj (compare_does (k) (n) (m) (s) (j) (p) (q) (u) (by first | assumption | decide) (by first | assumption | decide) (by first | assumption | decide) (by first | assumption | decide) (by first | assumption | decide) (by first | assumption | decide)) (cj (compare_does (j) (p) (q) (u) (a) (b) (c) (t) (by first | assumption | decide) (by first | assumption | decide) (by first | assumption | decide) (by first | assumption | decide) (by first | assumption | decide) (by first | assumption | decide)) (cj (compare_does (k) (n) (m) (s) (a) (b) (c) (t) (by first | assumption | decide) (by first | assumption | decide) (by first | assumption | decide) (by first | assumption | decide) (by first | assumption | decide) (by first | assumption | decide)) (cj (compare_does (j) (p) (q) (u) (k) (n) (m) (s) (by first | assumption | decide) (by first | assumption | decide) (by first | assumption | decide) (by first | assumption | decide) (by first | assumption | decide) (by first | assumption | decide)) (cj c4 (cj c4 (cj c4 (cj c4 (cj c4 (cj (same4_does (k) (n) (m) (s) (j) (p) (q) (u)) (cj c4 (cj c4 (cj c5 (cj c5 (cj c5 (cj c6 (cj c6 (cj c5 (cj c6 (cj c5 (cj c5 (cj c5 (cj c7 (cj c7 (cj c7 (cj (dknows_does) cj0))))))))))))))))))))))))))))))))))))))
              · refine tbif (fun c8 => ?_) (fun c8 => ?_)
                · exact pth (fn := Tryz.f11) rfl (by kernel_rfl) [.c (.v (.bool (okV k n m s))) [] 0, .f, .f, .c (.v (.bool (okV j p q u))) [] 0, .f, .f, .f, .f, .c (.v (.bool (okV a b c t))) [] 0, .f, .f, .f, .c (.v (.int .i64 (cpV k n m s j p q u))) [] 0, .c (.v (.int .i64 (cpV j p q u a b c t))) [] 0, .c (.v (.int .i64 (cpV k n m s a b c t))) [] 0, .c (.v (.int .i64 (cpV j p q u k n m s))) [] 0, .t, .t, .t, .t, .t, .c (.v (.bool (sameV k n m s j p q u))) [] 0, .t, .t, .t, .t, .t, .t, .t, .t, .t, .t, .l, .l, .t, .l, .t, .l, .l, .l, .f, .f, .l, .f, .l, .t, .t, .l, .t, .l, .l, .c (.v (.bool (true))) [] 0, .l] (by kernel_rfl) (cj (right4_does (k) (n) (m) (s) (by first | assumption | decide)) (cj c1 (cj c1 (cj (right4_does (j) (p) (q) (u) (by first | assumption | decide)) (cj c1 (cj c1 (cj c2 (cj c2 (cj (right4_does (a) (b) (c) (t) (by first | assumption | decide)) (cj c2 (cj c2 (cj c3 (cj (compare_does (k) (n) (m) (s) (j) (p) (q) (u) (by first | assumption | decide) (by first | assumption | decide) (by first | assumption | decide) (by first | assumption | decide) (by first | assumption | decide) (by first | assumption | decide)) (cj (compare_does (j) (p) (q) (u) (a) (b) (c) (t) (by first | assumption | decide) (by first | assumption | decide) (by first | assumption | decide) (by first | assumption | decide) (by first | assumption | decide) (by first | assumption | decide)) (cj (compare_does (k) (n) (m) (s) (a) (b) (c) (t) (by first | assumption | decide) (by first | assumption | decide) (by first | assumption | decide) (by first | assumption | decide) (by first | assumption | decide) (by first | assumption | decide)) (cj (compare_does (j) (p) (q) (u) (k) (n) (m) (s) (by first | assumption | decide) (by first | assumption | decide) (by first | assumption | decide) (by first | assumption | decide) (by first | assumption | decide) (by first | assumption | decide)) (cj c4 (cj c4 (cj c4 (cj c4 (cj c4 (cj (same4_does (k) (n) (m) (s) (j) (p) (q) (u)) (cj c4 (cj c4 (cj c5 (cj c5 (cj c5 (cj c6 (cj c6 (cj c5 (cj c6 (cj c5 (cj c5 (cj c5 (cj c7 (cj c7 (cj c7 (cj c8 (cj c8 (cj c8 (cj (dknows_does) cj0)))))))))))))))))))))))))))))))))))))))))
                · refine tbif (fun c9 => ?_) (fun c9 => ?_)
                  · exact pth (fn := Tryz.f11) rfl (by kernel_rfl) [.c (.v (.bool (okV k n m s))) [] 0, .f, .f, .c (.v (.bool (okV j p q u))) [] 0, .f, .f, .f, .f, .c (.v (.bool (okV a b c t))) [] 0, .f, .f, .f, .c (.v (.int .i64 (cpV k n m s j p q u))) [] 0, .c (.v (.int .i64 (cpV j p q u a b c t))) [] 0, .c (.v (.int .i64 (cpV k n m s a b c t))) [] 0, .c (.v (.int .i64 (cpV j p q u k n m s))) [] 0, .t, .t, .t, .t, .t, .c (.v (.bool (sameV k n m s j p q u))) [] 0, .t, .t, .t, .t, .t, .t, .t, .t, .t, .t, .l, .l, .t, .l, .t, .l, .l, .l, .f, .f, .l, .f, .l, .f, .f, .l, .f, .l, .t, .c (.v (.bool (true))) [] 0, .t] (by kernel_rfl) (cj (right4_does (k) (n) (m) (s) (by first | assumption | decide)) (cj c1 (cj c1 (cj (right4_does (j) (p) (q) (u) (by first | assumption | decide)) (cj c1 (cj c1 (cj c2 (cj c2 (cj (right4_does (a) (b) (c) (t) (by first | assumption | decide)) (cj c2 (cj c2 (cj c3 (cj (compare_does (k) (n) (m) (s) (j) (p) (q) (u) (by first | assumption | decide) (by first | assumption | decide) (by first | assumption | decide) (by first | assumption | decide) (by first | assumption | decide) (by first | assumption | decide)) (cj (compare_does (j) (p) (q) (u) (a) (b) (c) (t) (by first | assumption | decide) (by first | assumption | decide) (by first | assumption | decide) (by first | assumption | decide) (by first | assumption | decide) (by first | assumption | decide)) (cj (compare_does (k) (n) (m) (s) (a) (b) (c) (t) (by first | assumption | decide) (by first | assumption | decide) (by first | assumption | decide) (by first | assumption | decide) (by first | assumption | decide) (by first | assumption | decide)) (cj (compare_does (j) (p) (q) (u) (k) (n) (m) (s) (by first | assumption | decide) (by first | assumption | decide) (by first | assumption | decide) (by first | assumption | decide) (by first | assumption | decide) (by first | assumption | decide)) (cj c4 (cj c4 (cj c4 (cj c4 (cj c4 (cj (same4_does (k) (n) (m) (s) (j) (p) (q) (u)) (cj c4 (cj c4 (cj c5 (cj c5 (cj c5 (cj c6 (cj c6 (cj c5 (cj c6 (cj c5 (cj c5 (cj c5 (cj c7 (cj c7 (cj c7 (cj c8 (cj c8 (cj c8 (cj c9 (cj (dknows_does) (cj c9 cj0)))))))))))))))))))))))))))))))))))))))))))
                  · exact pth (fn := Tryz.f11) rfl (by kernel_rfl) [.c (.v (.bool (okV k n m s))) [] 0, .f, .f, .c (.v (.bool (okV j p q u))) [] 0, .f, .f, .f, .f, .c (.v (.bool (okV a b c t))) [] 0, .f, .f, .f, .c (.v (.int .i64 (cpV k n m s j p q u))) [] 0, .c (.v (.int .i64 (cpV j p q u a b c t))) [] 0, .c (.v (.int .i64 (cpV k n m s a b c t))) [] 0, .c (.v (.int .i64 (cpV j p q u k n m s))) [] 0, .t, .t, .t, .t, .t, .c (.v (.bool (sameV k n m s j p q u))) [] 0, .t, .t, .t, .t, .t, .t, .t, .t, .t, .t, .l, .l, .t, .l, .t, .l, .l, .l, .f, .f, .l, .f, .l, .f, .f, .l, .f, .l, .f, .f] (by kernel_rfl) (cj (right4_does (k) (n) (m) (s) (by first | assumption | decide)) (cj c1 (cj c1 (cj (right4_does (j) (p) (q) (u) (by first | assumption | decide)) (cj c1 (cj c1 (cj c2 (cj c2 (cj (right4_does (a) (b) (c) (t) (by first | assumption | decide)) (cj c2 (cj c2 (cj c3 (cj (compare_does (k) (n) (m) (s) (j) (p) (q) (u) (by first | assumption | decide) (by first | assumption | decide) (by first | assumption | decide) (by first | assumption | decide) (by first | assumption | decide) (by first | assumption | decide)) (cj (compare_does (j) (p) (q) (u) (a) (b) (c) (t) (by first | assumption | decide) (by first | assumption | decide) (by first | assumption | decide) (by first | assumption | decide) (by first | assumption | decide) (by first | assumption | decide)) (cj (compare_does (k) (n) (m) (s) (a) (b) (c) (t) (by first | assumption | decide) (by first | assumption | decide) (by first | assumption | decide) (by first | assumption | decide) (by first | assumption | decide) (by first | assumption | decide)) (cj (compare_does (j) (p) (q) (u) (k) (n) (m) (s) (by first | assumption | decide) (by first | assumption | decide) (by first | assumption | decide) (by first | assumption | decide) (by first | assumption | decide) (by first | assumption | decide)) (cj c4 (cj c4 (cj c4 (cj c4 (cj c4 (cj (same4_does (k) (n) (m) (s) (j) (p) (q) (u)) (cj c4 (cj c4 (cj c5 (cj c5 (cj c5 (cj c6 (cj c6 (cj c5 (cj c6 (cj c5 (cj c5 (cj c5 (cj c7 (cj c7 (cj c7 (cj c8 (cj c8 (cj c8 (cj c9 (cj c9 cj0))))))))))))))))))))))))))))))))))))))))))
            · refine tbif (fun c10 => ?_) (fun c10 => ?_)
              · refine tbif (fun c11 => ?_) (fun c11 => ?_)
                · exact pth (fn := Tryz.f11) rfl (by kernel_rfl) [.c (.v (.bool (okV k n m s))) [] 0, .f, .f, .c (.v (.bool (okV j p q u))) [] 0, .f, .f, .f, .f, .c (.v (.bool (okV a b c t))) [] 0, .f, .f, .f, .c (.v (.int .i64 (cpV k n m s j p q u))) [] 0, .c (.v (.int .i64 (cpV j p q u a b c t))) [] 0, .c (.v (.int .i64 (cpV k n m s a b c t))) [] 0, .c (.v (.int .i64 (cpV j p q u k n m s))) [] 0, .t, .t, .t, .t, .t, .c (.v (.bool (sameV k n m s j p q u))) [] 0, .t, .t, .t, .t, .t, .f, .f, .t, .f, .t, .t, .t, .t, .t, .t, .l, .l, .l, .t, .t, .l, .t, .l, .l, .l, .l, .l, .l, .l, .c (.v (.bool (true))) [] 0, .l] (by kernel_rfl) (cj (right4_does (k) (n) (m) (s) (by first | assumption | decide)) (cj c1 (cj c1 (cj (right4_does (j) (p) (q) (u) (by first | assumption | decide)) (cj c1 (cj c1 (cj c2 (cj c2 (cj (right4_does (a) (b) (c) (t) (by first | assumption | decide)) (cj c2 (cj c2 (cj c3 (cj (compare_does (k) (n) (m) (s) (j) (p) (q) (u) (by first | assumption | decide) (by first | assumption | decide) (by first | assumption | decide) (by first | assumption | decide) (by first | assumption | decide) (by first | assumption | decide)) (cj (compare_does (j) (p) (q) (u) (a) (b) (c) (t) (by first | assumption | decide) (by first | assumption | decide) (by first | assumption | decide) (by first | assumption | decide) (by first | assumption | decide) (by first | assumption | decide)) (cj (compare_does (k) (n) (m) (s) (a) (b) (c) (t) (by first | assumption | decide) (by first | assumption | decide) (by first | assumption | decide) (by first | assumption | decide) (by first | assumption | decide) (by first | assumption | decide)) (cj (compare_does (j) (p) (q) (u) (k) (n) (m) (s) (by first | assumption | decide) (by first | assumption | decide) (by first | assumption | decide) (by first | assumption | decide) (by first | assumption | decide) (by first | assumption | decide)) (cj c4 (cj c4 (cj c4 (cj c4 (cj c4 (cj (same4_does (k) (n) (m) (s) (j) (p) (q) (u)) (cj c4 (cj c4 (cj c5 (cj c5 (cj c5 (cj c6 (cj c6 (cj c5 (cj c6 (cj c5 (cj c10 (cj c10 (cj c5 (cj c10 (cj c5 (cj c11 (cj c11 (cj c11 (cj (dknows_does) cj0)))))))))))))))))))))))))))))))))))))))))
                · refine tbif (fun c12 => ?_) (fun c12 => ?_)
                  · exact pth (fn := Tryz.f11) rfl (by kernel_rfl) [.c (.v (.bool (okV k n m s))) [] 0, .f, .f, .c (.v (.bool (okV j p q u))) [] 0, .f, .f, .f, .f, .c (.v (.bool (okV a b c t))) [] 0, .f, .f, .f, .c (.v (.int .i64 (cpV k n m s j p q u))) [] 0, .c (.v (.int .i64 (cpV j p q u a b c t))) [] 0, .c (.v (.int .i64 (cpV k n m s a b c t))) [] 0, .c (.v (.int .i64 (cpV j p q u k n m s))) [] 0, .t, .t, .t, .t, .t, .c (.v (.bool (sameV k n m s j p q u))) [] 0, .t, .t, .t, .t, .t, .f, .f, .t, .f, .t, .t, .t, .t, .t, .t, .l, .l, .l, .f, .f, .l, .f, .l, .t, .t, .l, .t, .l, .l, .c (.v (.bool (true))) [] 0, .l] (by kernel_rfl) (cj (right4_does (k) (n) (m) (s) (by first | assumption | decide)) (cj c1 (cj c1 (cj (right4_does (j) (p) (q) (u) (by first | assumption | decide)) (cj c1 (cj c1 (cj c2 (cj c2 (cj (right4_does (a) (b) (c) (t) (by first | assumption | decide)) (cj c2 (cj c2 (cj c3 (cj (compare_does (k) (n) (m) (s) (j) (p) (q) (u) (by first | assumption | decide) (by first | assumption | decide) (by first | assumption | decide) (by first | assumption | decide) (by first | assumption | decide) (by first | assumption | decide)) (cj (compare_does (j) (p) (q) (u) (a) (b) (c) (t) (by first | assumption | decide) (by first | assumption | decide) (by first | assumption | decide) (by first | assumption | decide) (by first | assumption | decide) (by first | assumption | decide)) (cj (compare_does (k) (n) (m) (s) (a) (b) (c) (t) (by first | assumption | decide) (by first | assumption | decide) (by first | assumption | decide) (by first | assumption | decide) (by first | assumption | decide) (by first | assumption | decide)) (cj (compare_does (j) (p) (q) (u) (k) (n) (m) (s) (by first | assumption | decide) (by first | assumption | decide) (by first | assumption | decide) (by first | assumption | decide) (by first | assumption | decide) (by first | assumption | decide)) (cj c4 (cj c4 (cj c4 (cj c4 (cj c4 (cj (same4_does (k) (n) (m) (s) (j) (p) (q) (u)) (cj c4 (cj c4 (cj c5 (cj c5 (cj c5 (cj c6 (cj c6 (cj c5 (cj c6 (cj c5 (cj c10 (cj c10 (cj c5 (cj c10 (cj c5 (cj c11 (cj c11 (cj c11 (cj c12 (cj c12 (cj c12 (cj (dknows_does) cj0))))))))))))))))))))))))))))))))))))))))))))
                  · refine tbif (fun c13 => ?_) (fun c13 => ?_)
                    · exact pth (fn := Tryz.f11) rfl (by kernel_rfl) [.c (.v (.bool (okV k n m s))) [] 0, .f, .f, .c (.v (.bool (okV j p q u))) [] 0, .f, .f, .f, .f, .c (.v (.bool (okV a b c t))) [] 0, .f, .f, .f, .c (.v (.int .i64 (cpV k n m s j p q u))) [] 0, .c (.v (.int .i64 (cpV j p q u a b c t))) [] 0, .c (.v (.int .i64 (cpV k n m s a b c t))) [] 0, .c (.v (.int .i64 (cpV j p q u k n m s))) [] 0, .t, .t, .t, .t, .t, .c (.v (.bool (sameV k n m s j p q u))) [] 0, .t, .t, .t, .t, .t, .f, .f, .t, .f, .t, .t, .t, .t, .t, .t, .l, .l, .l, .f, .f, .l, .f, .l, .f, .f, .l, .f, .l, .t, .c (.v (.bool (true))) [] 0, .t] (by kernel_rfl) (cj (right4_does (k) (n) (m) (s) (by first | assumption | decide)) (cj c1 (cj c1 (cj (right4_does (j) (p) (q) (u) (by first | assumption | decide)) (cj c1 (cj c1 (cj c2 (cj c2 (cj (right4_does (a) (b) (c) (t) (by first | assumption | decide)) (cj c2 (cj c2 (cj c3 (cj (compare_does (k) (n) (m) (s) (j) (p) (q) (u) (by first | assumption | decide) (by first | assumption | decide) (by first | assumption | decide) (by first | assumption | decide) (by first | assumption | decide) (by first | assumption | decide)) (cj (compare_does (j) (p) (q) (u) (a) (b) (c) (t) (by first | assumption | decide) (by first | assumption | decide) (by first | assumption | decide) (by first | assumption | decide) (by first | assumption | decide) (by first | assumption | decide)) (cj (compare_does (k) (n) (m) (s) (a) (b) (c) (t) (by first | assumption | decide) (by first | assumption | decide) (by first | assumption | decide) (by first | assumption | decide) (by first | assumption | decide) (by first | assumption | decide)) (cj (compare_does (j) (p) (q) (u) (k) (n) (m) (s) (by first | assumption | decide) (by first | assumption | decide) (by first | assumption | decide) (by first | assumption | decide) (by first | assumption | decide) (by first | assumption | decide)) (cj c4 (cj c4 (cj c4 (cj c4 (cj c4 (cj (same4_does (k) (n) (m) (s) (j) (p) (q) (u)) (cj c4 (cj c4 (cj c5 (cj c5 (cj c5 (cj c6 (cj c6 (cj c5 (cj c6 (cj c5 (cj c10 (cj c10 (cj c5 (cj c10 (cj c5 (cj c11 (cj c11 (cj c11 (cj c12 (cj c12 (cj c12 (cj c13 (cj (dknows_does) (cj c13 cj0))))))))))))))))))))))))))))))))))))))))))))))
                    · exact pth (fn := Tryz.f11) rfl (by kernel_rfl) [.c (.v (.bool (okV k n m s))) [] 0, .f, .f, .c (.v (.bool (okV j p q u))) [] 0, .f, .f, .f, .f, .c (.v (.bool (okV a b c t))) [] 0, .f, .f, .f, .c (.v (.int .i64 (cpV k n m s j p q u))) [] 0, .c (.v (.int .i64 (cpV j p q u a b c t))) [] 0, .c (.v (.int .i64 (cpV k n m s a b c t))) [] 0, .c (.v (.int .i64 (cpV j p q u k n m s))) [] 0, .t, .t, .t, .t, .t, .c (.v (.bool (sameV k n m s j p q u))) [] 0, .t, .t, .t, .t, .t, .f, .f, .t, .f, .t, .t, .t, .t, .t, .t, .l, .l, .l, .f, .f, .l, .f, .l, .f, .f, .l, .f, .l, .f, .f] (by kernel_rfl) (cj (right4_does (k) (n) (m) (s) (by first | assumption | decide)) (cj c1 (cj c1 (cj (right4_does (j) (p) (q) (u) (by first | assumption | decide)) (cj c1 (cj c1 (cj c2 (cj c2 (cj (right4_does (a) (b) (c) (t) (by first | assumption | decide)) (cj c2 (cj c2 (cj c3 (cj (compare_does (k) (n) (m) (s) (j) (p) (q) (u) (by first | assumption | decide) (by first | assumption | decide) (by first | assumption | decide) (by first | assumption | decide) (by first | assumption | decide) (by first | assumption | decide)) (cj (compare_does (j) (p) (q) (u) (a) (b) (c) (t) (by first | assumption | decide) (by first | assumption | decide) (by first | assumption | decide) (by first | assumption | decide) (by first | assumption | decide) (by first | assumption | decide)) (cj (compare_does (k) (n) (m) (s) (a) (b) (c) (t) (by first | assumption | decide) (by first | assumption | decide) (by first | assumption | decide) (by first | assumption | decide) (by first | assumption | decide) (by first | assumption | decide)) (cj (compare_does (j) (p) (q) (u) (k) (n) (m) (s) (by first | assumption | decide) (by first | assumption | decide) (by first | assumption | decide) (by first | assumption | decide) (by first | assumption | decide) (by first | assumption | decide)) (cj c4 (cj c4 (cj c4 (cj c4 (cj c4 (cj (same4_does (k) (n) (m) (s) (j) (p) (q) (u)) (cj c4 (cj c4 (cj c5 (cj c5 (cj c5 (cj c6 (cj c6 (cj c5 (cj c6 (cj c5 (cj c10 (cj c10 (cj c5 (cj c10 (cj c5 (cj c11 (cj c11 (cj c11 (cj c12 (cj c12 (cj c12 (cj c13 (cj c13 cj0)))))))))))))))))))))))))))))))))))))))))))))
              · refine tbif (fun c14 => ?_) (fun c14 => ?_)
                · refine tbif (fun c15 => ?_) (fun c15 => ?_)
                  · exact pth (fn := Tryz.f11) rfl (by kernel_rfl) [.c (.v (.bool (okV k n m s))) [] 0, .f, .f, .c (.v (.bool (okV j p q u))) [] 0, .f, .f, .f, .f, .c (.v (.bool (okV a b c t))) [] 0, .f, .f, .f, .c (.v (.int .i64 (cpV k n m s j p q u))) [] 0, .c (.v (.int .i64 (cpV j p q u a b c t))) [] 0, .c (.v (.int .i64 (cpV k n m s a b c t))) [] 0, .c (.v (.int .i64 (cpV j p q u k n m s))) [] 0, .t, .t, .t, .t, .t, .c (.v (.bool (sameV k n m s j p q u))) [] 0, .t, .t, .t, .t, .t, .f, .f, .t, .f, .t, .f, .f, .t, .f, .t, .t, .t, .t, .t, .t, .t, .t, .t, .l, .l, .t, .l, .t, .l, .c (.v (.bool (true))) [] 0, .l] (by kernel_rfl) (cj (right4_does (k) (n) (m) (s) (by first | assumption | decide)) (cj c1 (cj c1 (cj (right4_does (j) (p) (q) (u) (by first | assumption | decide)) (cj c1 (cj c1 (cj c2 (cj c2 (cj (right4_does (a) (b) (c) (t) (by first | assumption | decide)) (cj c2 (cj c2 (cj c3 (cj (compare_does (k) (n) (m) (s) (j) (p) (q) (u) (by first | assumption | decide) (by first | assumption | decide) (by first | assumption | decide) (by first | assumption | decide) (by first | assumption | decide) (by first | assumption | decide)) (cj (compare_does (j) (p) (q) (u) (a) (b) (c) (t) (by first | assumption | decide) (by first | assumption | decide) (by first | assumption | decide) (by first | assumption | decide) (by first | assumption | decide) (by first | assumption | decide)) (cj (compare_does (k) (n) (m) (s) (a) (b) (c) (t) (by first | assumption | decide) (by first | assumption | decide) (by first | assumption | decide) (by first | assumption | decide) (by first | assumption | decide) (by first | assumption | decide)) (cj (compare_does (j) (p) (q) (u) (k) (n) (m) (s) (by first | assumption | decide) (by first | assumption | decide) (by first | assumption | decide) (by first | assumption | decide) (by first | assumption | decide) (by first | assumption | decide)) (cj c4 (cj c4 (cj c4 (cj c4 (cj c4 (cj (same4_does (k) (n) (m) (s) (j) (p) (q) (u)) (cj c4 (cj c4 (cj c5 (cj c5 (cj c5 (cj c6 (cj c6 (cj c5 (cj c6 (cj c5 (cj c10 (cj c10 (cj c5 (cj c10 (cj c5 (cj c14 (cj c14 (cj c14 (cj c15 (cj c15 (cj c14 (cj c15 (cj c14 (cj c14 (cj c14 (cj (dknows_does) cj0))))))))))))))))))))))))))))))))))))))))))))))))
                  · refine tbif (fun c16 => ?_) (fun c16 => ?_)
                    · exact pth (fn := Tryz.f11) rfl (by kernel_rfl) [.c (.v (.bool (okV k n m s))) [] 0, .f, .f, .c (.v (.bool (okV j p q u))) [] 0, .f, .f, .f, .f, .c (.v (.bool (okV a b c t))) [] 0, .f, .f, .f, .c (.v (.int .i64 (cpV k n m s j p q u))) [] 0, .c (.v (.int .i64 (cpV j p q u a b c t))) [] 0, .c (.v (.int .i64 (cpV k n m s a b c t))) [] 0, .c (.v (.int .i64 (cpV j p q u k n m s))) [] 0, .t, .t, .t, .t, .t, .c (.v (.bool (sameV k n m s j p q u))) [] 0, .t, .t, .t, .t, .t, .f, .f, .t, .f, .t, .f, .f, .t, .f, .t, .t, .t, .t, .f, .f, .t, .f, .t, .t, .t, .t, .t, .t, .l, .c (.v (.bool (true))) [] 0, .l] (by kernel_rfl) (cj (right4_does (k) (n) (m) (s) (by first | assumption | decide)) (cj c1 (cj c1 (cj (right4_does (j) (p) (q) (u) (by first | assumption | decide)) (cj c1 (cj c1 (cj c2 (cj c2 (cj (right4_does (a) (b) (c) (t) (by first | assumption | decide)) (cj c2 (cj c2 (cj c3 (cj (compare_does (k) (n) (m) (s) (j) (p) (q) (u) (by first | assumption | decide) (by first | assumption | decide) (by first | assumption | decide) (by first | assumption | decide) (by first | assumption | decide) (by first | assumption | decide)) (cj (compare_does (j) (p) (q) (u) (a) (b) (c) (t) (by first | assumption | decide) (by first | assumption | decide) (by first | assumption | decide) (by first | assumption | decide) (by first | assumption | decide) (by first | assumption | decide)) (cj (compare_does (k) (n) (m) (s) (a) (b) (c) (t) (by first | assumption | decide) (by first | assumption | decide) (by first | assumption | decide) (by first | assumption | decide) (by first | assumption | decide) (by first | assumption | decide)) (cj (compare_does (j) (p) (q) (u) (k) (n) (m) (s) (by first | assumption | decide) (by first | assumption | decide) (by first | assumption | decide) (by first | assumption | decide) (by first | assumption | decide) (by first | assumption | decide)) (cj c4 (cj c4 (cj c4 (cj c4 (cj c4 (cj (same4_does (k) (n) (m) (s) (j) (p) (q) (u)) (cj c4 (cj c4 (cj c5 (cj c5 (cj c5 (cj c6 (cj c6 (cj c5 (cj c6 (cj c5 (cj c10 (cj c10 (cj c5 (cj c10 (cj c5 (cj c14 (cj c14 (cj c14 (cj c15 (cj c15 (cj c14 (cj c15 (cj c14 (cj c16 (cj c16 (cj c14 (cj c16 (cj c14 (cj (dknows_does) cj0)))))))))))))))))))))))))))))))))))))))))))))))))))
                    · refine tbif (fun c17 => ?_) (fun c17 => ?_)
                      · exact pth (fn := Tryz.f11) rfl (by kernel_rfl) [.c (.v (.bool (okV k n m s))) [] 0, .f, .f, .c (.v (.bool (okV j p q u))) [] 0, .f, .f, .f, .f, .c (.v (.bool (okV a b c t))) [] 0, .f, .f, .f, .c (.v (.int .i64 (cpV k n m s j p q u))) [] 0, .c (.v (.int .i64 (cpV j p q u a b c t))) [] 0, .c (.v (.int .i64 (cpV k n m s a b c t))) [] 0, .c (.v (.int .i64 (cpV j p q u k n m s))) [] 0, .t, .t, .t, .t, .t, .c (.v (.bool (sameV k n m s j p q u))) [] 0, .t, .t, .t, .t, .t, .f, .f, .t, .f, .t, .f, .f, .t, .f, .t, .t, .t, .t, .f, .f, .t, .f, .t, .f, .f, .t, .f, .t, .t, .c (.v (.bool (true))) [] 0, .t] (by kernel_rfl) (cj (right4_does (k) (n) (m) (s) (by first | assumption | decide)) (cj c1 (cj c1 (cj (right4_does (j) (p) (q) (u) (by first | assumption | decide)) (cj c1 (cj c1 (cj c2 (cj c2 (cj (right4_does (a) (b) (c) (t) (by first | assumption | decide)) (cj c2 (cj c2 (cj c3 (cj (compare_does (k) (n) (m) (s) (j) (p) (q) (u) (by first | assumption | decide) (by first | assumption | decide) (by first | assumption | decide) (by first | assumption | decide) (by first | assumption | decide) (by first | assumption | decide)) (cj (compare_does (j) (p) (q) (u) (a) (b) (c) (t) (by first | assumption | decide) (by first | assumption | decide) (by first | assumption | decide) (by first | assumption | decide) (by first | assumption | decide) (by first | assumption | decide)) (cj (compare_does (k) (n) (m) (s) (a) (b) (c) (t) (by first | assumption | decide) (by first | assumption | decide) (by first | assumption | decide) (by first | assumption | decide) (by first | assumption | decide) (by first | assumption | decide)) (cj (compare_does (j) (p) (q) (u) (k) (n) (m) (s) (by first | assumption | decide) (by first | assumption | decide) (by first | assumption | decide) (by first | assumption | decide) (by first | assumption | decide) (by first | assumption | decide)) (cj c4 (cj c4 (cj c4 (cj c4 (cj c4 (cj (same4_does (k) (n) (m) (s) (j) (p) (q) (u)) (cj c4 (cj c4 (cj c5 (cj c5 (cj c5 (cj c6 (cj c6 (cj c5 (cj c6 (cj c5 (cj c10 (cj c10 (cj c5 (cj c10 (cj c5 (cj c14 (cj c14 (cj c14 (cj c15 (cj c15 (cj c14 (cj c15 (cj c14 (cj c16 (cj c16 (cj c14 (cj c16 (cj c14 (cj c17 (cj (dknows_does) (cj c17 cj0)))))))))))))))))))))))))))))))))))))))))))))))))))))
                      · exact pth (fn := Tryz.f11) rfl (by kernel_rfl) [.c (.v (.bool (okV k n m s))) [] 0, .f, .f, .c (.v (.bool (okV j p q u))) [] 0, .f, .f, .f, .f, .c (.v (.bool (okV a b c t))) [] 0, .f, .f, .f, .c (.v (.int .i64 (cpV k n m s j p q u))) [] 0, .c (.v (.int .i64 (cpV j p q u a b c t))) [] 0, .c (.v (.int .i64 (cpV k n m s a b c t))) [] 0, .c (.v (.int .i64 (cpV j p q u k n m s))) [] 0, .t, .t, .t, .t, .t, .c (.v (.bool (sameV k n m s j p q u))) [] 0, .t, .t, .t, .t, .t, .f, .f, .t, .f, .t, .f, .f, .t, .f, .t, .t, .t, .t, .f, .f, .t, .f, .t, .f, .f, .t, .f, .t, .f, .f] (by kernel_rfl) (cj (right4_does (k) (n) (m) (s) (by first | assumption | decide)) (cj c1 (cj c1 (cj (right4_does (j) (p) (q) (u) (by first | assumption | decide)) (cj c1 (cj c1 (cj c2 (cj c2 (cj (right4_does (a) (b) (c) (t) (by first | assumption | decide)) (cj c2 (cj c2 (cj c3 (cj (compare_does (k) (n) (m) (s) (j) (p) (q) (u) (by first | assumption | decide) (by first | assumption | decide) (by first | assumption | decide) (by first | assumption | decide) (by first | assumption | decide) (by first | assumption | decide)) (cj (compare_does (j) (p) (q) (u) (a) (b) (c) (t) (by first | assumption | decide) (by first | assumption | decide) (by first | assumption | decide) (by first | assumption | decide) (by first | assumption | decide) (by first | assumption | decide)) (cj (compare_does (k) (n) (m) (s) (a) (b) (c) (t) (by first | assumption | decide) (by first | assumption | decide) (by first | assumption | decide) (by first | assumption | decide) (by first | assumption | decide) (by first | assumption | decide)) (cj (compare_does (j) (p) (q) (u) (k) (n) (m) (s) (by first | assumption | decide) (by first | assumption | decide) (by first | assumption | decide) (by first | assumption | decide) (by first | assumption | decide) (by first | assumption | decide)) (cj c4 (cj c4 (cj c4 (cj c4 (cj c4 (cj (same4_does (k) (n) (m) (s) (j) (p) (q) (u)) (cj c4 (cj c4 (cj c5 (cj c5 (cj c5 (cj c6 (cj c6 (cj c5 (cj c6 (cj c5 (cj c10 (cj c10 (cj c5 (cj c10 (cj c5 (cj c14 (cj c14 (cj c14 (cj c15 (cj c15 (cj c14 (cj c15 (cj c14 (cj c16 (cj c16 (cj c14 (cj c16 (cj c14 (cj c17 (cj c17 cj0))))))))))))))))))))))))))))))))))))))))))))))))))))
                · exact pth (fn := Tryz.f11) rfl (by kernel_rfl) [.c (.v (.bool (okV k n m s))) [] 0, .f, .f, .c (.v (.bool (okV j p q u))) [] 0, .f, .f, .f, .f, .c (.v (.bool (okV a b c t))) [] 0, .f, .f, .f, .c (.v (.int .i64 (cpV k n m s j p q u))) [] 0, .c (.v (.int .i64 (cpV j p q u a b c t))) [] 0, .c (.v (.int .i64 (cpV k n m s a b c t))) [] 0, .c (.v (.int .i64 (cpV j p q u k n m s))) [] 0, .t, .t, .t, .t, .t, .c (.v (.bool (sameV k n m s j p q u))) [] 0, .t, .t, .t, .t, .t, .f, .f, .t, .f, .t, .f, .f, .t, .f, .t, .f, .f, .f, .f, .f, .f, .f, .l, .l] (by kernel_rfl) (cj (right4_does (k) (n) (m) (s) (by first | assumption | decide)) (cj c1 (cj c1 (cj (right4_does (j) (p) (q) (u) (by first | assumption | decide)) (cj c1 (cj c1 (cj c2 (cj c2 (cj (right4_does (a) (b) (c) (t) (by first | assumption | decide)) (cj c2 (cj c2 (cj c3 (cj (compare_does (k) (n) (m) (s) (j) (p) (q) (u) (by first | assumption | decide) (by first | assumption | decide) (by first | assumption | decide) (by first | assumption | decide) (by first | assumption | decide) (by first | assumption | decide)) (cj (compare_does (j) (p) (q) (u) (a) (b) (c) (t) (by first | assumption | decide) (by first | assumption | decide) (by first | assumption | decide) (by first | assumption | decide) (by first | assumption | decide) (by first | assumption | decide)) (cj (compare_does (k) (n) (m) (s) (a) (b) (c) (t) (by first | assumption | decide) (by first | assumption | decide) (by first | assumption | decide) (by first | assumption | decide) (by first | assumption | decide) (by first | assumption | decide)) (cj (compare_does (j) (p) (q) (u) (k) (n) (m) (s) (by first | assumption | decide) (by first | assumption | decide) (by first | assumption | decide) (by first | assumption | decide) (by first | assumption | decide) (by first | assumption | decide)) (cj c4 (cj c4 (cj c4 (cj c4 (cj c4 (cj (same4_does (k) (n) (m) (s) (j) (p) (q) (u)) (cj c4 (cj c4 (cj c5 (cj c5 (cj c5 (cj c6 (cj c6 (cj c5 (cj c6 (cj c5 (cj c10 (cj c10 (cj c5 (cj c10 (cj c5 (cj c14 (cj c14 (cj c14 (cj c14 (cj c14 (cj c14 (cj c14 cj0))))))))))))))))))))))))))))))))))))))))))))
          · exact pth (fn := Tryz.f11) rfl (by kernel_rfl) [.c (.v (.bool (okV k n m s))) [] 0, .f, .f, .c (.v (.bool (okV j p q u))) [] 0, .f, .f, .f, .f, .c (.v (.bool (okV a b c t))) [] 0, .f, .f, .f, .c (.v (.int .i64 (cpV k n m s j p q u))) [] 0, .c (.v (.int .i64 (cpV j p q u a b c t))) [] 0, .c (.v (.int .i64 (cpV k n m s a b c t))) [] 0, .c (.v (.int .i64 (cpV j p q u k n m s))) [] 0, .t, .t, .t, .t, .t, .c (.v (.bool (sameV k n m s j p q u))) [] 0, .t, .t, .f, .f, .f, .f, .f, .f, .f, .l, .l, .l, .l, .l, .l, .l, .l, .l] (by kernel_rfl) (cj (right4_does (k) (n) (m) (s) (by first | assumption | decide)) (cj c1 (cj c1 (cj (right4_does (j) (p) (q) (u) (by first | assumption | decide)) (cj c1 (cj c1 (cj c2 (cj c2 (cj (right4_does (a) (b) (c) (t) (by first | assumption | decide)) (cj c2 (cj c2 (cj c3 (cj (compare_does (k) (n) (m) (s) (j) (p) (q) (u) (by first | assumption | decide) (by first | assumption | decide) (by first | assumption | decide) (by first | assumption | decide) (by first | assumption | decide) (by first | assumption | decide)) (cj (compare_does (j) (p) (q) (u) (a) (b) (c) (t) (by first | assumption | decide) (by first | assumption | decide) (by first | assumption | decide) (by first | assumption | decide) (by first | assumption | decide) (by first | assumption | decide)) (cj (compare_does (k) (n) (m) (s) (a) (b) (c) (t) (by first | assumption | decide) (by first | assumption | decide) (by first | assumption | decide) (by first | assumption | decide) (by first | assumption | decide) (by first | assumption | decide)) (cj (compare_does (j) (p) (q) (u) (k) (n) (m) (s) (by first | assumption | decide) (by first | assumption | decide) (by first | assumption | decide) (by first | assumption | decide) (by first | assumption | decide) (by first | assumption | decide)) (cj c4 (cj c4 (cj c4 (cj c4 (cj c4 (cj (same4_does (k) (n) (m) (s) (j) (p) (q) (u)) (cj c4 (cj c4 (cj c5 (cj c5 (cj c5 (cj c5 (cj c5 (cj c5 (cj c5 cj0)))))))))))))))))))))))))))))))
        · exact pth (fn := Tryz.f11) rfl (by kernel_rfl) [.c (.v (.bool (okV k n m s))) [] 0, .f, .f, .c (.v (.bool (okV j p q u))) [] 0, .f, .f, .f, .f, .c (.v (.bool (okV a b c t))) [] 0, .f, .f, .f, .c (.v (.int .i64 (cpV k n m s j p q u))) [] 0, .c (.v (.int .i64 (cpV j p q u a b c t))) [] 0, .c (.v (.int .i64 (cpV k n m s a b c t))) [] 0, .c (.v (.int .i64 (cpV j p q u k n m s))) [] 0, .f, .f, .f, .f, .f, .f, .f, .l, .l, .l, .l, .l, .l, .l, .l, .l, .l, .l, .l, .l, .l, .l, .l] (by kernel_rfl) (cj (right4_does (k) (n) (m) (s) (by first | assumption | decide)) (cj c1 (cj c1 (cj (right4_does (j) (p) (q) (u) (by first | assumption | decide)) (cj c1 (cj c1 (cj c2 (cj c2 (cj (right4_does (a) (b) (c) (t) (by first | assumption | decide)) (cj c2 (cj c2 (cj c3 (cj (compare_does (k) (n) (m) (s) (j) (p) (q) (u) (by first | assumption | decide) (by first | assumption | decide) (by first | assumption | decide) (by first | assumption | decide) (by first | assumption | decide) (by first | assumption | decide)) (cj (compare_does (j) (p) (q) (u) (a) (b) (c) (t) (by first | assumption | decide) (by first | assumption | decide) (by first | assumption | decide) (by first | assumption | decide) (by first | assumption | decide) (by first | assumption | decide)) (cj (compare_does (k) (n) (m) (s) (a) (b) (c) (t) (by first | assumption | decide) (by first | assumption | decide) (by first | assumption | decide) (by first | assumption | decide) (by first | assumption | decide) (by first | assumption | decide)) (cj (compare_does (j) (p) (q) (u) (k) (n) (m) (s) (by first | assumption | decide) (by first | assumption | decide) (by first | assumption | decide) (by first | assumption | decide) (by first | assumption | decide) (by first | assumption | decide)) (cj c4 (cj c4 (cj c4 (cj c4 (cj c4 (cj c4 (cj c4 cj0)))))))))))))))))))))))
end Go.Proofs.YtnchjdhepakokaaGreatDoorC
/- The law of order: true. -/
namespace Go.Proofs.YtnchjdhepakokaaGreatDoorC
open Go.Proofs Go.Proofs.YtnchjdhepakokaaGreatDoorSx Go.RowKit Go.Lib
set_option maxRecDepth 100000
set_option linter.unusedVariables false
set_option linter.unusedSimpArgs false
theorem i64_of {n : Int} (h : (Lit.int .i64 n).wf = true) : I64 n := by simpa [Lit.wf, IntKind.min, IntKind.max, IntKind.signed, IntKind.bits] using h
theorem order_law (k n m j p q a b c : Int) (s u t : ByteArray) (hn : I64 n) (hm : I64 m) (hs : s.size ≤ 140737488351232) (hp : I64 p) (hq : I64 q) (hu : u.size ≤ 140737488351232) (hb : I64 b) (hc : I64 c) (ht : t.size ≤ 140737488351232) : Does cE 11 [] 0 [.v (vl k n m s), .v (vl j p q u), .v (vl a b c t)] (.v (.bool true)) [] 0 := by
  have h := lOr_does k n m j p q a b c s u t hn hm hs hp hq hu hb hc ht
  have e : lOr k n m j p q a b c s u t = .bool true := by
    unfold lOr
    cases o1 : okV k n m s
    · rfl
    cases o2 : okV j p q u
    · rfl
    cases o3 : okV a b c t
    · rfl
    have r1 : RT (k, n, m, s) (j, p, q, u) := ⟨⟨o1, hn⟩, o2, hp⟩
    have r2 : RT (j, p, q, u) (a, b, c, t) := ⟨⟨o2, hp⟩, o3, hb⟩
    have an : cpV j p q u k n m s = - cpV k n m s j p q u := ordV.anti _ _ r1
    have tr := ordV.trans _ _ _ r1 r2
    have tr2 := ordV.trans _ _ _ (⟨r2.2, r2.1⟩ : RT (a, b, c, t) (j, p, q, u)) (⟨r1.2, r1.1⟩ : RT (j, p, q, u) (k, n, m, s))
    have a2 : cpV a b c t j p q u = - cpV j p q u a b c t := ordV.anti _ _ r2
    have a3 : cpV a b c t k n m s = - cpV k n m s a b c t := ordV.anti (k, n, m, s) (a, b, c, t) ⟨r1.1, r2.2⟩
    have bd : -1 ≤ cpV k n m s j p q u ∧ cpV k n m s j p q u ≤ 1 := cp_b r1
    have sm := cp_same o1 o2 hn hp
    have tr : cpV k n m s j p q u ≤ 0 → cpV j p q u a b c t ≤ 0 → cpV k n m s a b c t ≤ 0 := tr
    have tr2 : cpV a b c t j p q u ≤ 0 → cpV j p q u k n m s ≤ 0 → cpV a b c t k n m s ≤ 0 := tr2
    have hw : IntKind.i64.wrap (0 - cpV k n m s j p q u) = - cpV k n m s j p q u := by
      rw [wrap64 (by omega) (by omega)]
      omega
    rw [a2, an, a3] at tr2
    rw [hw, an, ← sm]
    generalize cpV k n m s j p q u = x at *
    generalize cpV j p q u a b c t = y at *
    generalize cpV k n m s a b c t = z at *
    simp only [Bool.not_true, cond_false, beq_self_eq_true, cond_true]
    by_cases h1 : x > 0 <;> by_cases h2 : y > 0 <;> by_cases h3 : z ≤ 0 <;> by_cases h4 : x < 0 <;> by_cases h5 : y < 0 <;> by_cases h6 : z ≥ 0 <;> first | (exfalso; omega) | simp [h1, h2, h3, h4, h5, h6]
  rw [e] at h
  exact h
theorem order_true (k n m : Int) (s : ByteArray) (j p q : Int) (u : ByteArray) (a b c : Int) (t : ByteArray) (hk : (Lit.int .i64 k).wf = true) (hn : (Lit.int .i64 n).wf = true) (hm : (Lit.int .i64 m).wf = true) (hs : s.size ≤ 140737488351232) (hj : (Lit.int .i64 j).wf = true) (hp : (Lit.int .i64 p).wf = true) (hq : (Lit.int .i64 q).wf = true) (hu : u.size ≤ 140737488351232) (ha : (Lit.int .i64 a).wf = true) (hb : (Lit.int .i64 b).wf = true) (hc : (Lit.int .i64 c).wf = true) (ht : t.size ≤ 140737488351232) (w : World) (hg : GlobIn cE w) :
    Calls Tryz.prog 11 #[vl k n m s, vl j p q u, vl a b c t] w fun e w' => e = .returned (.bool true) ∧ Below w.heap.size w w' :=
  law_calls (E := cE) (l := [vl k n m s, vl j p q u, vl a b c t]) (enters (fn := Tryz.f11) rfl (by kernel_rfl) rfl) (order_law k n m j p q a b c s u t (i64_of hn) (i64_of hm) hs (i64_of hp) (i64_of hq) hu (i64_of hb) (i64_of hc) ht) w hg
end Go.Proofs.YtnchjdhepakokaaGreatDoorC
/- What the rows say of the whole program: each a closed fact, apart. -/
namespace Go.Proofs.YtnchjdhepakokaaGreatDoorJ
open Go.Proofs.YtnchjdhepakokaaGreatDoor
set_option maxRecDepth 100000
theorem bt {a b : Bool} (h : a = true) (k : b = true) : (a && b) = true := by rw [h, k]; rfl
theorem pLaid : laidOutB Tryz.prog = true := by kernel_rfl
theorem pMaps : mapsRowed Tryz.prog = true := by kernel_rfl
theorem pStops : (Tryz.prog.stops == []) = true := by kernel_rfl
theorem pKnobs : (Tryz.prog.stopKnobs == []) = true := by kernel_rfl
theorem pKeys : (Rows.evalStepsRow.plainKeys == Tryz.prog.plainKeys) = true := by kernel_rfl
theorem pHeard : Tryz.prog.stopsHeard = true := by kernel_rfl
theorem pMay : Tryz.prog.mayEnter = true := by kernel_rfl
theorem pLifts : (Rows.evalStepsRow.lifted == Tryz.prog.liftsFinal) = true := by kernel_rfl
theorem pMake : (Tryz.prog.make == some Rows.evalStepsRow.make) = true := by kernel_rfl
theorem pLooks : true = Tryz.prog.looks [] := by kernel_rfl
theorem pMain : Tryz.pinned.checked.prog.mainIs = some (true, "78437c3b7531760fed31a8607bae3fb8ec3b4f916377ea75976054335517be10".toList) := by kernel_rfl
end Go.Proofs.YtnchjdhepakokaaGreatDoorJ
/- What the listed package-level variables hold: the table of powers of ten, the two tables of unicode/utf8, cell for cell. -/
namespace Go.Proofs.YtnchjdhepakokaaGreatDoorC
open Go.Proofs Go.Proofs.YtnchjdhepakokaaGreatDoorSx Go.Proofs.YtnchjdhepakokaaGreatDoor Go.Lib
set_option maxRecDepth 100000
abbrev laid3 : List (String × DataW Unit) := [("math/bits.deBruijn32tab", Rows.laid_math_bits_deBruijn32tab), ("math/bits.deBruijn64tab", Rows.laid_math_bits_deBruijn64tab), ("internal/strconv.uint64pow10", Rows.laid_internal_strconv_uint64pow10), ("unicode/utf8.acceptRanges", Rows.laid_unicode_utf8_acceptRanges), ("strconv.ErrRange", Rows.laid_strconv_ErrRange), ("strconv.ErrSyntax", Rows.laid_strconv_ErrSyntax), ("longstop/decimal.powers", Rows.laid_longstop_decimal_powers), ("unicode/utf8.first", Rows.laid_unicode_utf8_first)]
theorem var_block {P : Program} {w : World} {n : String} {cs : Array Value} {g : Nat} (h : w.var? P n = some cs) (hg : P.globalNamed n = some g) : ∃ t f, w.heap[g]? = some (.cells cs t f) := by
  unfold World.var? at h
  rw [hg] at h
  simp only [Option.bind_some] at h
  split at h
  · rename_i cs' t f hb
    simp only [Option.some.injEq] at h
    exact ⟨t, f, by rw [hb, h]⟩
  · cases h
theorem tab_at {W : World} {n : String} {k : IntKind} {zs : List Int} {g : Nat} {t e : TypeId} {m : Nat} (h : VarReads Tryz.prog W n (Lib.tabData k zs)) (hg : Tryz.prog.globalNamed n = some g) (hy : (Tryz.prog.globals[g]?).map (·.type) = some t)
    (ht : Tryz.prog.underlying t = some (.array m e)) (he : Tryz.prog.underlying e = some (.int k)) (hce : Tryz.prog.cellsOf e = 1) (hct : Tryz.prog.cellsOf t = m) : ∃ t f, W.heap[g]? = some (.cells (zs.map (Value.int k)).toArray t f) := by
  obtain ⟨g', t', cs, fuel, p, h1, h2, h3, h4⟩ := h
  obtain rfl := Option.some.inj (hg.symm.trans h1)
  obtain rfl := Option.some.inj (hy.symm.trans h2)
  have hcs := cells_of_tab ht he hce hct h4
  obtain ⟨t, f, hb⟩ := var_block h3 hg
  refine ⟨t, f, ?_⟩
  rw [hb]
  congr 2
  apply Array.ext'
  rw [hcs]
theorem arr_len {H : Type} {enc : TypeId × Value → H} {P : Program} {w : World} {base : Nat} {sp : Nat → Bool} {held : Bool} {fuel : Nat} {t e : TypeId} {n : Nat} {cs : List Value} {ds : List (DataW H)} {p : List MemPlace} (ht : P.underlying t = some (.array n e))
    (h : DataW.trod enc P w base sp held fuel t cs = some (.agg ds, p)) : cs.length = P.cellsOf t := by
  cases fuel with
  | zero => simp [DataW.trod] at h
  | succ fuel =>
    simp only [DataW.trod, ht] at h
    split at h
    · rename_i hl
      exact hl
    · cases h
theorem acc_at {W : World} (h : VarReads Tryz.prog W "unicode/utf8.acceptRanges" acceptData) : ∃ t f, W.heap[1]? = some (.cells (accL.map (Value.int .u8)).toArray t f) := by
  obtain ⟨g', t', cs, fuel, p, h1, h2, h3, h4⟩ := h
  have hg : Tryz.prog.globalNamed "unicode/utf8.acceptRanges" = some 1 := by kernel_rfl
  have hy : (Tryz.prog.globals[1]?).map (·.type) = some 225 := by kernel_rfl
  have ht : Tryz.prog.underlying 225 = some (.array 16 224) := by kernel_rfl
  have hs : Tryz.prog.underlying 224 = some (TypeDesc.struct #[{ name := "lo", type := 5, offset := 0, embedded := false, tag := "", pkgPath := "unicode/utf8", byteOffset := 0 }, { name := "hi", type := 5, offset := 1, embedded := false, tag := "", pkgPath := "unicode/utf8", byteOffset := 1 }]) := by kernel_rfl
  have h5 : Tryz.prog.underlying 5 = some (.int .u8) := by kernel_rfl
  have c5 : Tryz.prog.cellsOf 5 = 1 := by kernel_rfl
  have c2 : Tryz.prog.cellsOf 224 = 2 := by kernel_rfl
  have c32 : Tryz.prog.cellsOf 225 = 32 := by kernel_rfl
  obtain rfl := Option.some.inj (hg.symm.trans h1)
  obtain rfl := Option.some.inj (hy.symm.trans h2)
  obtain ⟨t, f, hb⟩ := var_block h3 hg
  refine ⟨t, f, ?_⟩
  rw [hb]
  congr 2
  apply Array.ext'
  have hl := arr_len ht h4
  rw [c32] at hl
  have acc : ∀ k : _root_.Fin 16, accL[2 * k.val]? = some ((accLo k.val : Nat) : Int) ∧ accL[2 * k.val + 1]? = some ((accHi k.val : Nat) : Int) := by decide
  have hlen : accL.length = 32 := by decide
  apply List.ext_getElem?
  intro j
  by_cases hj : j < 32
  · obtain ⟨fuel', d, q, hdi, he⟩ := array_elem ht h4 (j / 2) (by omega)
    simp only [List.getElem?_map, List.getElem?_range (by omega : j / 2 < 16), Option.map_some, Option.some.injEq] at hdi
    subst hdi
    rw [c2] at he
    have hcs := ints_of_struct hs (fun j f hj => by
      match j, hj with
      | 0, hj => simp at hj; subst hj; exact ⟨h5, rfl, c5⟩
      | 1, hj => simp at hj; subst hj; exact ⟨h5, rfl, c5⟩
      | j + 2, hj => simp at hj) (by rw [c2]; rfl) he
    obtain ⟨a0, a1⟩ := acc ⟨j / 2, by omega⟩
    simp only at a0 a1
    have hj2 : j = 2 * (j / 2) ∨ j = 2 * (j / 2) + 1 := by omega
    rcases hj2 with e | e
    · have e0 : cs.toList[2 * (j / 2)]? = some (.int .u8 ((accLo (j / 2) : Nat) : Int)) := by
        have := congrArg (·[0]?) hcs
        simpa [List.getElem?_take, List.getElem?_drop, Nat.mul_comm] using this
      rw [List.getElem?_map, e, e0, a0]
      rfl
    · have e0 : cs.toList[2 * (j / 2) + 1]? = some (.int .u8 ((accHi (j / 2) : Nat) : Int)) := by
        have := congrArg (·[1]?) hcs
        simpa [List.getElem?_take, List.getElem?_drop, Nat.mul_comm] using this
      rw [List.getElem?_map, e, e0, a1]
      rfl
  · rw [List.getElem?_eq_none (by omega), List.getElem?_eq_none (by simp; omega)]
theorem cell_lt {w : World} {g : Nat} {v : Value} (h : w.cell? ⟨g, 0, none⟩ = some v) : g < w.heap.size := World.block_lt_of_cell? w ⟨g, 0, none⟩ h
theorem glob_in {W : World} (h : laidMetH Tryz.prog laid3 W) (hsh : W.ShapedOpen Tryz.prog) : GlobIn cE W := by
  rw [MakeChecks.laidMetH_plain _ _ _ (by kernel_rfl)] at h
  have g0 := tab_at (k := .u64) (zs := pow10) (m := 13) (e := 165) (t := 245) (laidMet.reads h (n := "longstop/decimal.powers") (d := Lib.tabData .u64 pow10) (by simp [laid3]; rfl)) (g := 2) (by kernel_rfl) (by kernel_rfl) (by kernel_rfl) (by kernel_rfl) (by kernel_rfl) (by kernel_rfl)
  have g1 := tab_at (k := .u8) (zs := firstTab) (m := 256) (e := 5) (t := 222) (laidMet.reads h (n := "unicode/utf8.first") (d := firstData) (by simp [laid3]; rfl)) (g := 0) (by kernel_rfl) (by kernel_rfl) (by kernel_rfl) (by kernel_rfl) (by kernel_rfl) (by kernel_rfl)
  have g2 := acc_at (laidMet.reads h (n := "unicode/utf8.acceptRanges") (d := acceptData) (by simp [laid3]; rfl))
  refine ⟨fun g vs hv => ?_, fun g p hp => ?_⟩
  · by_cases hg0 : g = 2
    · subst hg0
      have e : cE.gl 2 = .ints .u64 pow10 := rfl
      rw [e] at hv
      simp only [glAll, Option.some.injEq] at hv
      subst hv
      exact g0
    · by_cases hg1 : g = 0
      · subst hg1
        have e : cE.gl 0 = .ints .u8 firstL := rfl
        rw [e] at hv
        simp only [glAll, Option.some.injEq] at hv
        subst hv
        exact g1
      · by_cases hg2 : g = 1
        · subst hg2
          have e : cE.gl 1 = .ints .u8 accL := rfl
          rw [e] at hv
          simp only [glAll, Option.some.injEq] at hv
          subst hv
          exact g2
        · have e : cE.gl g = .no := by
            show (bif Nat.beq g 2 then _ else bif Nat.beq g 0 then _ else bif Nat.beq g 1 then _ else _) = _
            rw [nbeq_ne hg0, nbeq_ne hg1, nbeq_ne hg2]
            rfl
          rw [e] at hv
          cases hv
  · by_cases hg0 : g = 3
    · subst hg0
      have e : cE.ga 3 = some (fun v => ∃ m, v = .int .i64 m) := rfl
      rw [e] at hp
      obtain rfl := Option.some.inj hp
      obtain ⟨m, hm⟩ := cell_of_shapedOpen_int (P := Tryz.prog) (g := 3) (t := 3) (zero := #[.int .i64 0]) hsh (of_decide_eq_true (by kernel_rfl)) (by kernel_rfl) rfl (by kernel_rfl) (by kernel_rfl) Tryz.underlying3
      exact ⟨cell_lt hm, _, hm, m, rfl⟩
    · have e : cE.ga g = none := by
        show (bif Nat.beq g 3 then _ else _) = _
        rw [nbeq_ne hg0]
        rfl
      rw [e] at hp
      cases hp
/-- The wrap of a row over listed variables, the world's shape handed on. -/
theorem handed_shaped {H : Type} {enc : TypeId × Value → H} {a : Assume} {C : Checked} {os : Os} {f : FuncId} {fn : Func} {s : ChangeSpec} {conds : List PathCond} {apart fresh handsOn again : Bool} {X : World → Array Value → Prop}
    (hX : ∀ (w w' : World) (args : Array Value), w.heap = w'.heap → X w args → X w' args)
    (own : ownKnob C.prog.godebug = none) (started : os.Started) (noInit : C.prog.inits.idxOf? f = none) (hfn : C.prog.funcs[f]? = some fn)
    (wit : ∃ (w : World) (tape : Tape) (i : Input), w.os = os ∧ (w.forCall tape i).Shaped C.prog ∧ i.vars = [] ∧ Input.okWide C.prog (w.forCall tape i) .any w.heap.size f i ∧
      ((s.pre enc C.prog fn conds apart (w.forCall tape i).memory i.args ∧ X (w.forCall tape i).memory i.args) ∧ sizedMet enc C.prog fn (OpenSpec.ofChange s) apart (w.forCall tape i).memory i.args) ∧ a.holds C.prog (lone (Frame.enter C.prog f i.args .normal) [] (w.forCall tape i)))
    (run : ∀ (W : World) (base : Nat) (args : Array Value) (ds gs : List (DataW H)) (before : List MemPlace),
      (∀ (j : Nat) t v, fn.params[j]? = some t → args[j]? = some v → Value.okWide C.prog W .any base t v) →
      DataW.Whole enc C.prog fn.params.toList s.vars apart W args.toList ds gs before →
      conds.all (PathCond.test C.prog ⟨fn.params.toList, ds, s.plain.varTypes C.prog, gs⟩) = true →
      (DataW.weightsEach C.prog (fn.params.toList ++ s.plain.varTypes C.prog) (ds ++ gs)).all (· ≤ reachBytes) = true → X W args → W.ShapedOpen C.prog →
      a.holds C.prog (lone (Frame.enter C.prog f args .normal) [] W) →
      Calls C.prog f args W fun e W' => ∃ v, e = .returned v ∧ s.post enc C.prog fn apart fresh handsOn again W args v W') :
    ReturnsInHanded a C os f .any (fun w args => (s.pre enc C.prog fn conds apart w args ∧ X w args) ∧ sizedMet enc C.prog fn (OpenSpec.ofChange s) apart w args) (s.post enc C.prog fn apart fresh handsOn again) := by
  refine returnsInHanded_of_calls own started noInit wit ?_
  intro w tape i _ hsh _ ok hpre hh
  obtain ⟨_, _, _, g, hg, _, _, _, _, hval⟩ := ok
  obtain rfl : g = fn := Option.some.inj (hg.symm.trans hfn)
  obtain ⟨⟨⟨ds, gs, before, hw, hc⟩, hx⟩, hz⟩ := hpre
  have hw2 := DataW.Whole.of_heap (w' := w.forCall tape i) (by rfl) hw
  refine (run (w.forCall tape i) w.heap.size i.args ds gs before hval hw2 hc (hz.weights hw) (hX _ _ _ (by rfl) hx) hsh hh).mono fun e W' hv => ?_
  obtain ⟨v, he, hp⟩ := hv
  subst he
  exact ChangeSpec.post_blind hp
theorem sized_part {H : Type} {P : Program} {ts : List TypeId} {ds : List (DataW H)} (h : (DataW.weightsEach P ts ds).all (· ≤ reachBytes) = true) {j : Nat} {t : TypeId} {parts : List (DataW H)} {fs : Array Field} (ht : ts[j]? = some t) (hd : ds[j]? = some (.agg parts)) (hs : P.underlying t = some (.struct fs))
    {i : Nat} {t' : TypeId} {bytes : List UInt8} (ht' : (fs.toList.map (·.type))[i]? = some t') (hp : parts[i]? = some (.lit (.string bytes))) : bytes.length ≤ reachBytes := by
  have := List.all_eq_true.1 h _ (DataW.weights_mem_each ht hd bytes.length (by
    simp only [DataW.weights, hs]
    exact DataW.weights_mem_each ht' hp _ (by simp [DataW.weights])))
  simpa using this
end Go.Proofs.YtnchjdhepakokaaGreatDoorC
